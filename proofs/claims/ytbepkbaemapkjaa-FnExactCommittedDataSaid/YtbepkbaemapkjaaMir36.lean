/- The mirror machine: deep rows, 4: appends; calls that write a slice of an element. -/
import Derived.Test.YtbepkbaemapkjaaMir35
namespace Mir
set_option linter.unusedVariables false
set_option linter.unusedSimpArgs false
open Go
variable {E : Env} {P : Program} {T : Tb} {cx : Cx} {G G' : Gh} {S : St E} {tm : Array Value} {a : Act} {W W' : World}

theorem DeepC.ones {d : Nat} {t : Ty} {xs : List (Ty.D E.S t)} {cs : List Value} {fps : List (List Nat)} (h : DeepC E W d t xs cs fps) : ∀ v ∈ cs, v.oneCell' = true :=
  RowC.ones (F := fun _ => True) (d := d) ⟨h.1, fun i hi => (h.2.2 i hi).ro (fun t x v fp hF h => DeepA.ro hF h) (fun _ _ => trivial)⟩
theorem dAppend_sound (hT : T.OK P) (hS : Sim cx G S a.tmps W) {fr : Nat} (hf0 : lk S.H fr = none) (hf1 : lk S.H (fr + 1) = none) {t u rty e : TypeId} {s : Nat} {x y : Operand} (helem : T.elem t = some (e, .st s)) {l l' : List Nat} {r : Res E}
    (h : RM.Out S.h (dAppend T fr e s u (evO (lk S.ρ) x) (evO (lk S.ρ) y)) l r l') : Ends P cx G S a W (Builtin.append_ #[t, u] rty #[a.eval x, a.eval y]) r := by
  unfold dAppend at h
  have hu := Tb.elem_some hT helem
  split at h
  rotate_left
  · exact h.elim
  rename_i b sz hby hsz
  have hb' := RM.Out_bif h; clear h; obtain ⟨hc, h⟩ := hb'
  simp only [Bool.and_eq_true] at hc
  obtain ⟨⟨⟨⟨hc1, hc2⟩, hc3⟩, hc4⟩, hc5⟩ := hc
  obtain rfl := Nat.eq_of_beq_eq_true hc1
  have hpos : 0 < tsz E (.st s) := Nat.le_of_ble_eq_true hc2
  have hbpos : 0 < b := Nat.le_of_ble_eq_true hc3
  have hun := notInt_some hT hc4
  obtain ⟨i, z, hi, rfl, hisz, hz, hzs⟩ := info_of hT hby hsz hc5
  split at h
  rotate_left
  · exact h.elim
  rename_i jd hy
  have hy := ev_sound hS hy
  obtain ⟨by_, hjb, h⟩ := h
  dsimp only at h
  split at h
  rotate_left
  · exact h.elim
  rename_i e2 t2 ys0 hjd
  have hb2 := RM.Out_bind h; clear h; obtain ⟨ys, l1, hcast, h⟩ := hb2
  obtain ⟨rfl, rfl, rfl⟩ := castR_sound hcast
  have hyd := drow_src (P := P) hS hjb
  obtain ⟨B, capy, ds, gps, dy, hyv, hyle, hyrow, hynd, hyo, hysrc, _⟩ := hyd
  have hyv : a.eval y = .slice B ys.length capy := hy.2.1.trans hyv
  have hsrc : Src P W i.size (a.eval y) ys.length ds := by rw [hyv, hisz]; exact hysrc
  -- the append, of a row whose blocks are given up
  have core : ∀ (m : List Nat) (xs : List (E.S s)) (A : Option Addr) (c : Nat) (cs : List Value) (fps : List (List Nat)) (d : Nat), (∀ j ∈ m, ∃ b, S.h j = some b ∧ b.fz = false) → a.eval x = .slice A xs.length c → xs.length ≤ c → DeepC E W d (.st s) xs cs fps → (fps ++ gps).flatten.Nodup → (∀ k ∈ (fps ++ gps).flatten, ∃ j ∈ m, ∃ b, S.h j = some b ∧ Occ G j b k) →
      Src P W (tsz E (.st s)) (.slice A xs.length c) xs.length cs → ((c = 0 ∧ xs = []) ∨ ∃ loc, 0 < c ∧ c ≤ maxLen ∧ A = some ⟨loc, 0, none⟩ ∧ (∃ j ∈ m, ∃ b, S.h j = some b ∧ Occ G j b loc) ∧ loc ∉ (fps ++ gps).flatten ∧ ∃ cur : List Value, CellsAt W loc cur.toArray e ∧ c * tsz E (.st s) ≤ cur.length ∧ cur.take (xs.length * tsz E (.st s)) = cs) →
      room (xs.length + ys.length) i.bytes = true → Ends P cx G S a W (Builtin.append_ #[t, u] rty #[a.eval x, a.eval y]) (.a (.own fr), (fr, .drow e (.st s) (xs ++ ys) (fr + 1)) :: (fr + 1, .hdr) :: gones m) := by
    intro m xs A c cs fps d hm hx hxc hrow hnd hocc hold hloc hroom
    have hroom : (xs.length + ys.length) * i.bytes ≤ 140737488355328 := by simpa [room] using hroom
    have hall := (hrow.raise (Nat.le_max_left d dy) (fun _ _ => rfl)).append (hyrow.raise (Nat.le_max_right d dy) (fun _ _ => rfl))
    have hlen : (xs ++ ys).length = xs.length + ys.length := by simp
    by_cases hfit : xs.length + ys.length ≤ c
    · rcases hloc with ⟨h0, hx0⟩ | ⟨loc, h0, hmax, rfl, hlo, hln, cur, hh, hcl, hct⟩
      · subst h0 hx0
        have hyn : ys = [] := by simpa using hfit
        subst hyn
        have hds : ds = [] := List.eq_nil_of_length_eq_zero (by rw [hyrow.1]; simp)
        subst hds
        have hrun := append_room t u rty e i hu hun hi hsrc (base := A) (sLen := 0) (sCap := 0) (W1 := W) (by simp) (fun a _ => by simp [storeCells]) (fun _ => rfl)
        obtain ⟨G', h1, h2, h3⟩ := newD (W' := W) hS hf0 hf1 m hm (fun k _ => .inr rfl) (Nat.le_refl _) ⟨rfl, rfl, rfl⟩ (e := e) (n := s) (d := 1) (xs := []) (v := .slice A 0 0) (fp := []) (.inl ⟨A, rfl, rfl, rfl⟩) List.nodup_nil (fun k hk => by cases hk)
        rw [hx]
        exact ⟨_, _, _, hrun, h1, h2, h3⟩
      · have hle : (xs.length + ys.length) * tsz E (.st s) ≤ c * tsz E (.st s) := Nat.mul_le_mul_right _ hfit
        rw [Nat.add_mul] at hle
        have hrun0 := run_putC (P := P) (o := xs.length * tsz E (.st s)) (vs := ds) hh (by rw [hyrow.1]; omega) hyrow.ones
        have hrun := append_room t u rty e i hu hun hi hsrc (base := some ⟨loc, 0, none⟩) (sLen := xs.length) (sCap := c) hfit (fun ad had => by cases had; rw [hisz, add_lit, Nat.zero_add]; exact hrun0) (fun h => by cases h)
        have hput : putAt cur (xs.length * tsz E (.st s)) ds = (cs ++ ds) ++ cur.drop (xs.length * tsz E (.st s) + ds.length) := by
          unfold putAt; rw [hct]
        have hWo : ∀ k, k ≠ loc → (W.setRow loc (putAt cur (xs.length * tsz E (.st s)) ds).toArray).heap[k]? = W.heap[k]? := fun k hk => setRow_other W _ k _ hk
        obtain ⟨G', h1, h2, h3⟩ := newD (W' := W.setRow loc (putAt cur (xs.length * tsz E (.st s)) ds).toArray) hS hf0 hf1 m hm (fun k _ => by
            by_cases hk : k = loc
            · subst hk; exact .inl hlo
            · exact .inr (hWo k hk)) (by simp) setRow_same (e := e) (n := s) (d := max d dy + 1) (xs := xs ++ ys) (v := .slice (some ⟨loc, 0, none⟩) (xs.length + ys.length) c) (fp := loc :: (fps ++ gps).flatten)
          (.inr ⟨loc, c, (putAt cur (xs.length * tsz E (.st s)) ds).toArray, fps ++ gps, by rw [hlen], rfl, h0, hh.put (by rw [hyrow.1]; omega), by rw [hlen]; exact hfit, hmax, by simp [putAt_length _ _ _ (show xs.length * tsz E (.st s) + ds.length ≤ cur.length by rw [hyrow.1]; omega)]; exact hcl, by
            show DeepR E _ (.st s) (xs ++ ys) (putAt cur (xs.length * tsz E (.st s)) ds) (fps ++ gps)
            have hr := (hall.raise (Nat.le_refl _) (fun k hk => hWo k (fun e => hln (e ▸ hk)))).row (tail := cur.drop (xs.length * tsz E (.st s) + ds.length))
            rw [← hput] at hr
            exact hr⟩)
          (List.nodup_cons.2 ⟨hln, hnd⟩) (fun k hk => by
            rcases List.mem_cons.1 hk with rfl | hk
            · exact .inr hlo
            · exact .inr (hocc k hk))
        rw [hx]
        exact ⟨_, _, _, hrun, h1, h2, h3⟩
    · have hold' : Src P W i.size (.slice A xs.length c) xs.length cs := by rw [hisz]; exact hold
      rw [hx]
      obtain ⟨cap', hle, hmax, hrun⟩ := append_grows t u rty e i z hu hun hi hz hsrc hold' (by omega) hroom hbpos
      obtain ⟨G', h1, h2, h3⟩ := freshD (W' := W.drew.alloc (.cells (cs ++ ds ++ (Builtin.zeroCells z.cells (cap' - (xs.length + ys.length))).toList).toArray e)) (cap := cap') (e := e) hS hf0 hf1 m hm hall hnd hocc (by rw [hlen]; exact hle) hmax (by
        rw [List.length_append, hall.1, zeroCells_length, hzs, hlen, ← Nat.add_mul]
        exact Nat.mul_le_mul_right _ (by omega)) (.inr rfl)
      rw [hlen] at h3
      exact ⟨_, _, _, hrun, h1, h2, h3⟩
  split at h
  · rename_i id hx
    have hx := ev_sound hS hx
    obtain ⟨bx, hib, h⟩ := h
    dsimp only at h
    split at h
    rotate_left
    · exact h.elim
    rename_i e1 t1 xs0 hidx
    have hb3 := RM.Out_bind h; clear h; obtain ⟨xs, l2, hcast1, h⟩ := hb3
    obtain ⟨rfl, rfl, rfl⟩ := castR_sound hcast1
    have hb' := RM.Out_bif h; clear h; obtain ⟨hnd2, h⟩ := hb'
    have hnd2 := nodupB_iff hnd2
    obtain ⟨hroom, h⟩ := h
    obtain rfl := h.1
    obtain ⟨A, cap, cs, fps, d, hxv, hxle, hxrow, hxnd, hxo, hxsrc, hxloc⟩ := drow_src (P := P) hS hib
    have hne : id ≠ jd := by simpa using hnd2
    have hdis : ∀ k ∈ fps.flatten, k ∉ gps.flatten := fun k h1 h2 => hne (hS.inj id jd _ _ k hib hjb (hxo k h1) (hyo k h2))
    refine core [id, jd] xs A cap cs fps d (fun j hj => ?_) (hx.2.1.trans hxv) hxle hxrow ?_ (fun k hk => ?_) hxsrc ?_ hroom
    · rcases List.mem_cons.1 hj with rfl | hj
      · exact ⟨_, hib, rfl⟩
      · simp at hj; subst hj; exact ⟨_, hjb, rfl⟩
    · rw [List.flatten_append]
      exact List.nodup_append.2 ⟨hxnd, hynd, fun k h1 k' h2 e => hdis k h1 (e ▸ h2)⟩
    · rw [List.flatten_append] at hk
      rcases List.mem_append.1 hk with hk | hk
      · exact ⟨id, by simp, _, hib, hxo k hk⟩
      · exact ⟨jd, by simp, _, hjb, hyo k hk⟩
    · rcases hxloc with h | ⟨h0, hmax, hA, ho, hn, cur, k1, k2, k3⟩
      · exact .inl h
      · refine .inr ⟨G.loc id, h0, hmax, hA, ⟨id, by simp, _, hib, ho⟩, ?_, cur, k1, k2, k3⟩
        rw [List.flatten_append]
        intro hk
        rcases List.mem_append.1 hk with hk | hk
        · exact hn hk
        · exact hne (hS.inj id jd _ _ _ hib hjb ho (hyo _ hk))
  · rename_i hx
    have hx := ev_sound hS hx
    obtain ⟨hroom, h⟩ := h
    obtain rfl := h.1
    obtain ⟨A, hv⟩ := hx
    have := core [jd] [] A 0 [] [] 0 (fun j hj => by simp at hj; subst hj; exact ⟨_, hjb, rfl⟩) hv (Nat.le_refl _) DeepC.nil (by simpa using hynd) (fun k hk => ⟨jd, by simp, _, hjb, hyo k (by simpa using hk)⟩) (Src.slice (by simp) (fun h => absurd h (by simp)) (fun _ => rfl)) (.inl ⟨rfl, rfl⟩) (by simpa using hroom)
    simpa using this
  · exact h.elim

/-! ### A reader over a heap with updates -/
theorem over_out {U : Up E} {α : Type} {m : RM E α} : ∀ {l : List Nat} {x : α} {l' : List Nat} {k : List Nat}, RM.Out S.h (RM.over U m) l x l' → ∃ k', RM.Out (St.h { S with H := U ++ S.H }) m k x k' := by
  induction m with
  | pure a => rintro l x l' k ⟨rfl, rfl⟩; exact ⟨k, rfl, rfl⟩
  | fail => intro l x l' k h; exact h.elim
  | rd id f ih =>
    intro l x l' k h
    unfold RM.over at h
    cases hl : lk U id with
    | none =>
      rw [hl] at h
      obtain ⟨b, hb, h⟩ := h
      obtain ⟨k', hk'⟩ := ih b (k := id :: k) h
      exact ⟨k', b, by rw [h_append, hl]; exact hb, hk'⟩
    | some b =>
      rw [hl] at h
      cases b with
      | gone => exact h.elim
      | _ =>
        obtain ⟨k', hk'⟩ := ih _ (k := id :: k) h
        exact ⟨k', _, by rw [h_append, hl], hk'⟩
  | chk b f ih => rintro l x l' k ⟨hb, h⟩; obtain ⟨k', hk'⟩ := ih (k := k) h; exact ⟨k', hb, hk'⟩
  | call m f ih => rintro l x l' k ⟨y, hy, h⟩; obtain ⟨k', hk'⟩ := ih y (k := k) h; exact ⟨k', y, hy, hk'⟩

/-! ### A slice of an element by itself, and back -/
theorem toAts_length : ∀ (ts : List Ty) (h : HT E.S ts), (toAts E ts h).length = ts.length
  | [], _ => rfl
  | t :: ts, h => by simp [toAts, toAts_length ts h.2]
theorem seg_cell {cur : Array Value} {i sz c : Nat} {v : Value} (h : (seg cur.toList i sz)[c]? = some v) (hc : c < sz) : cur[i * sz + c]? = some v := by
  rw [seg_get, if_pos hc] at h
  simpa using h
theorem detach_sound (hS : Sim cx G S tm W) {fr id hid i c : Nat} {w : Value} (hnew : ∀ k, fr ≤ k → k < fr + 3 → lk S.H k = none) (hw : AtR (E := E) G S.k W (.inn id hid i c) w) {l l' : List Nat} {U : Up E} (h : RM.Out S.h (detach E fr id hid i c) l U l') :
    ∃ G', Sim cx G' { S with H := U ++ S.H } tm W ∧ Ext G S.k W G' (St.k { S with H := U ++ S.H }) W ∧ AtR (E := E) G' (St.k { S with H := U ++ S.H }) W (.own fr) w ∧ (∀ k, fr + 3 ≤ k → lk S.H k = none → lk (U ++ S.H) k = none) ∧
      (∀ e n xs hid' i' c', lk U id = some (.hole e n xs hid' i' c') → hid' = fr + 2 ∧ i' = i ∧ c' = c) ∧ G'.inh (fr + 2) i c = w ∧ St.k { S with H := U ++ S.H } (fr + 2) ∧ St.k { S with H := U ++ S.H } fr ∧ St.k { S with H := U ++ S.H } id ∧ G'.hd fr = w := by
  unfold detach at h
  obtain ⟨b, hb, h⟩ := h
  dsimp only at h
  split at h
  rotate_left
  · exact h.elim
  rename_i e n xs hid'
  have hb' := RM.Out_bif h; clear h; obtain ⟨hh', h⟩ := hb'
  obtain rfl := Nat.eq_of_beq_eq_true hh'
  obtain ⟨hil, h⟩ := h
  simp only [decide_eq_true_eq] at hil
  split at h
  rotate_left
  · exact h.elim
  rename_i e' t' ys hcell
  obtain rfl := h.1
  obtain ⟨_, hkh, hwv, hwsl⟩ := hw
  rw [el_get hil] at hcell
  obtain ⟨b0, b1, b2, b3, hrow⟩ := hS.blks id _ hb
  rcases hrow with ⟨A, hA, hnil, _⟩ | ⟨cap, cur, d, fps, hhd, hcap, hh, hlen, hmax, hcur, hfp, hnd, hr, hin⟩
  · subst hnil; simp at hil
  have hilt : i < fps.length := by rw [hr.1]; exact hil
  have hci : c < tsz E (.st n) := by
    have := (List.getElem?_eq_some_iff.1 hcell).1
    rw [toAts_length] at this
    exact this
  obtain ⟨v, f2, fh, k1, k2, k3, k4⟩ := DeepL.hole (hr.2 i hil) hcell
  have hvc : cur[i * tsz E (.st n) + c]? = some v := seg_cell k1 hci
  have hvsl : ∃ A n m, v = .slice A n m := by
    cases d with
    | zero => exact k2.elim
    | succ d =>
      rcases k2 with ⟨A, hw, _⟩ | ⟨g, cap, cur, fps, hw, _⟩
      · exact ⟨_, _, _, hw⟩
      · exact ⟨_, _, _, hw⟩
  have hvw : v = w := by
    obtain ⟨A, p, q, hs⟩ := hvsl
    have := hin i c hil hci ⟨A, p, q, by rw [hvc, hs]⟩
    rw [hvc] at this
    rw [hwv]; simpa using this
  subst hvw
  have hocc : ∀ k ∈ G.loc id :: fps.flatten, Occ G id (.drow e (.st n) xs hid : Blk E) k := fun k hk => by
    rcases List.mem_cons.1 hk with rfl | hk
    · exact .inl ⟨rfl, by rw [hhd]; exact hcap⟩
    · exact .inr (by rw [hfp]; exact hk)
  obtain ⟨hnl, hnf⟩ := List.nodup_cons.1 hnd
  have hp1 := flatten_get hilt
  have hn1 := List.nodup_append.1 (hp1.nodup_iff.1 hnf)
  have hn2 := List.nodup_append.1 (k4.nodup_iff.1 hn1.1)
  have hm : ∀ j ∈ [id], ∃ b, S.h j = some b ∧ b.fz = false := fun j hj => by simp at hj; subst hj; exact ⟨_, hb, rfl⟩
  -- the row is given up
  obtain ⟨s1, s2, s3⟩ := hS.release (W' := W) [id] hm (fun k _ => .inr rfl) (Nat.le_refl _) ⟨rfl, rfl, rfl⟩
  have free : ∀ k ∈ G.loc id :: fps.flatten, Free cx G { S with H := gones [id] ++ S.H } k := fun k hk => s3 k (.inr ⟨id, by simp, _, hb, hocc k hk⟩)
  have hf2m : ∀ k ∈ f2, k ∈ fps.flatten := fun k hk => hp1.mem_iff.2 (List.mem_append_left _ (k4.mem_iff.2 (List.mem_append_left _ hk)))
  have hfhm : ∀ k ∈ fh, k ∈ fps.flatten := fun k hk => hp1.mem_iff.2 (List.mem_append_left _ (k4.mem_iff.2 (List.mem_append_right _ hk)))
  -- the slice by itself
  have hsh : OwnA E W G.F true (.slice e' t') ys v f2 := by
    show RwA E W G.F (true && !t'.flat1 E) e' t' ys v f2
    cases hft : t'.flat1 E with
    | false => exact ⟨hn2.1, d, k2⟩
    | true =>
      cases d with
      | zero => exact k2.elim
      | succ d =>
        rcases k2 with ⟨A, h1, h2, h3⟩ | ⟨g, cap', cur', fps', h1, h2, h3, h4, h5, h6, h7, h8⟩
        · exact .inl ⟨A, h1, h2, h3⟩
        · have hall : ∀ (j : Nat) (hj : j < ys.length), RoE E (RoA E W G.F d) t' ys[j] ((cur'.toList.drop (j * tsz E t')).take (tsz E t')) := fun j hj => RoE.flat (F := fun _ => True) hft ((h8.2 j hj).ro (fun t x v fp hF h => DeepA.ro hF h) (fun _ _ => trivial))
          have hnilf : fps'.flatten = [] := by
            have : ∀ j (hj : j < ys.length), fps'.getD j [] = [] := fun j hj => by
              have hd := h8.2 j hj
              have aux : ∀ {t : Ty} {x : Ty.D E.S t} {vs : List Value} {fp : List Nat}, t.flat1 E = true → DeepE E (DeepA E W d) t x vs fp → fp = [] := by
                have auxL : ∀ {ts : List Ty} {x : HT E.S ts} {vs : List Value} {fp : List Nat}, (ts.all fun | .slice _ _ => false | .rsl _ _ => false | _ => true) = true → DeepL E (DeepA E W d) ts x vs fp → fp = [] := by
                  intro ts
                  induction ts with
                  | nil => intro x vs fp _ h; exact h.2
                  | cons t ts ih =>
                    rintro x vs fp hf ⟨v, r, f1, f2, _, rfl, ha, hr⟩
                    simp only [List.all_cons, Bool.and_eq_true] at hf
                    have h1 : f1 = [] := by
                      cases t with
                      | slice e t => cases hf.1
                      | rsl e t => cases hf.1
                      | int k => cases d <;> exact ha.2
                      | bool => cases d <;> exact ha.2
                      | str => cases d <;> exact ha.2
                      | st n => cases d <;> exact ha.elim
                      | arr k n => cases d <;> exact ha.elim
                      | pbx b n => cases d <;> exact ha.elim
                    rw [h1, ih hf.2 hr]; rfl
                intro t x vs fp hf h
                cases t with
                | st n => exact auxL hf h
                | slice e t => cases hf
                | rsl e t => cases hf
                | int k => obtain ⟨v, _, h⟩ := h; cases d <;> exact h.2
                | bool => obtain ⟨v, _, h⟩ := h; cases d <;> exact h.2
                | str => obtain ⟨v, _, h⟩ := h; cases d <;> exact h.2
                | arr k n => obtain ⟨v, _, h⟩ := h; cases d <;> exact h.elim
                | pbx b n => obtain ⟨v, _, h⟩ := h; cases d <;> exact h.elim
              exact aux hft hd
            rw [List.flatten_eq_nil_iff]
            intro l hl
            obtain ⟨j, hj, rfl⟩ := List.getElem_of_mem hl
            have := this j (by rw [← h8.1]; exact hj)
            rwa [List.getD_eq_getElem?_getD, List.getElem?_eq_getElem hj] at this
          rw [hnilf] at h2
          exact .inr ⟨g, cap', cur', d, h1, h2, h3, h4, h5, h6, h7, hall⟩
  have fresh : ∀ k, fr ≤ k → k < fr + 3 → lk (gones (E := E) [id] ++ S.H) k = none := fun k h1 h2 => fresh_gones hm (hnew k h1 h2)
  have hmk : (mkRow E true e' t' ys fr).2 ≤ fr + 2 := by
    unfold mkRow
    cases true && !t'.flat1 E <;> simp
  obtain ⟨G1, t1, t2, t3, t4, t5⟩ := mkRow_sound (S := { S with H := gones [id] ++ S.H }) s1 (dp := true) (fr := fr) hsh (fun k hk => free k (List.mem_cons_of_mem _ (hf2m k hk))) (fun k h1 h2 => fresh k h1 (by omega))
  have hkfr : St.k { S with H := (mkRow E true e' t' ys fr).1 ++ (gones [id] ++ S.H) } fr := t4.1
  have hf2n : lk ((mkRow E true e' t' ys fr).1 ++ (gones [id] ++ S.H)) (fr + 2) = none := by
    rw [lk_append, mkRow_key _ _ _ _ _ _ (.inr hmk)]
    exact fresh (fr + 2) (by omega) (by omega)
  obtain ⟨G2, u1, u2, u3, u4, u5, u6⟩ := t1.adoptHdr (fr := fr + 2) hf2n (fun _ _ => v) (fps.set i fh).flatten
  have hidne : ∀ k, fr ≤ k → k < fr + 3 → id ≠ k := fun k h1 h2 e => by
    have := St.h_k hb
    unfold St.k at this
    rw [e, hnew k h1 h2] at this; cases this
  have hgone : St.h { S with H := (fr + 2, (.hdr : Blk E)) :: ((mkRow E true e' t' ys fr).1 ++ (gones [id] ++ S.H)) } id = none := by
    unfold St.h
    simp only [lk_cons]
    rw [if_neg (fun e => hidne (fr + 2) (by omega) (by omega) e.symm), lk_append, mkRow_key _ _ _ _ _ _ (by
      by_cases h : id < fr
      · exact .inl h
      · refine .inr ?_
        have := hidne id (by omega)
        omega), lk_append]
    simp [gones, lk_cons]
  have hid0 : S.k id := St.h_k hb
  have hE02 : Ext G S.k W G2 (St.k { S with H := (fr + 2, (.hdr : Blk E)) :: ((mkRow E true e' t' ys fr).1 ++ (gones [id] ++ S.H)) }) W := (s2.trans t2).trans u2
  have hperm := flatten_set hilt fh
  have hrest : ∀ k, k ∈ (fps.set i []).flatten → k ∈ fps.flatten := fun k hk => hp1.mem_iff.2 (by simp [hk])
  have hmem : ∀ k, k ∈ (fps.set i fh).flatten → k ∈ fh ∨ k ∈ (fps.set i []).flatten := fun k hk => by
    rcases List.mem_append.1 (hperm.mem_iff.1 hk) with h | h
    · exact .inl h
    · exact .inr h
  have hsub : ∀ k, k ∈ (fps.set i fh).flatten → k ∈ fps.flatten := fun k hk => by
    rcases hmem k hk with h | h
    · exact hfhm k h
    · exact hrest k h
  have hnf2 : ∀ k, k ∈ (fps.set i fh).flatten → k ∉ f2 := fun k hk h2 => by
    rcases hmem k hk with h | h
    · exact hn2.2.2 k h2 k h rfl
    · exact hn1.2.2 k (k4.mem_iff.2 (List.mem_append_left _ h2)) k h rfl
  have hndh : (fps.set i fh).flatten.Nodup := hperm.nodup_iff.2 (List.nodup_append.2 ⟨hn2.2.1, hn1.2.1, fun k h1 k' h2 e => hn1.2.2 k (k4.mem_iff.2 (List.mem_append_right _ h1)) k' h2 e⟩)
  have hblk : BlkR (E := E) G2 (St.k { S with H := (id, .hole e n xs (fr + 2) i c) :: (fr + 2, (.hdr : Blk E)) :: ((mkRow E true e' t' ys fr).1 ++ (gones [id] ++ S.H)) }) W id (.hole e n xs (fr + 2) i c) := by
    refine ⟨k_cons (S := { S with H := (fr + 2, (.hdr : Blk E)) :: ((mkRow E true e' t' ys fr).1 ++ (gones [id] ++ S.H)) }) (by unfold St.k; simp [lk_cons]), by rw [hE02.ln id hid0]; exact b1, by rw [hE02.sz id hid0]; exact b2, hci, hil, cap, cur, d, fps.set i fh, by rw [hE02.hd id hid0, hE02.loc id hid0]; exact hhd, hcap, by rw [hE02.loc id hid0]; exact hh, hlen, hmax, hcur, u5, by
      rw [hE02.loc id hid0]
      exact List.nodup_cons.2 ⟨fun h => hnl (hsub _ h), hndh⟩, by simp [hr.1], by rw [u4]; exact hvc, fun j hj hne => ?_, ?_⟩
    · rw [List.getD_eq_getElem?_getD, List.getElem?_set_ne (fun e => hne e.symm), ← List.getD_eq_getElem?_getD]
      exact hr.2 j hj
    · rw [List.getD_eq_getElem?_getD, List.getElem?_set_self hilt]
      exact k3
  have hocc2 : ∀ k, Occ (E := E) G2 id (.hole e n xs (fr + 2) i c) k → k = G.loc id ∨ k ∈ (fps.set i fh).flatten := fun k ho => by
    rcases ho with h | h
    · exact .inl (by rw [h, hE02.loc id hid0])
    · exact .inr (by rw [← u5]; exact h)
  have k := u1.adopt (id := id) hgone ext_self rfl hblk rfl (fun k ho => u6 k (by
    rcases hocc2 k ho with rfl | h
    · exact t5 _ (fun h => hnl (hf2m _ h)) (free _ (by simp))
    · exact t5 k (hnf2 k h) (free k (List.mem_cons_of_mem _ (hsub k h)))))
  have hEx : Ext G2 (St.k { S with H := (fr + 2, (.hdr : Blk E)) :: ((mkRow E true e' t' ys fr).1 ++ (gones [id] ++ S.H)) }) W G2 (St.k { S with H := (id, .hole e n xs (fr + 2) i c) :: (fr + 2, (.hdr : Blk E)) :: ((mkRow E true e' t' ys fr).1 ++ (gones [id] ++ S.H)) }) W := ext_self
  have hH : ((id, (.hole e n xs (fr + 2) i c : Blk E)) :: (fr + 2, .hdr) :: ((mkRow E true e' t' ys fr).1 ++ [(id, .gone)])) ++ S.H = (id, .hole e n xs (fr + 2) i c) :: (fr + 2, (.hdr : Blk E)) :: ((mkRow E true e' t' ys fr).1 ++ (gones [id] ++ S.H)) := by
    simp [gones]
  refine ⟨G2, by rw [hH]; exact k, by rw [hH]; exact hE02.trans hEx, by rw [hH]; exact (t4.ext u2).ext hEx, fun q h1 h2 => ?_, ?_, by rw [u4], ?_, ?_, ?_, ?_⟩
  · rw [hH, lk_cons, if_neg (fun e => by subst e; have := St.h_k hb; unfold St.k at this; rw [h2] at this; cases this), lk_cons, if_neg (by omega), lk_append, mkRow_key _ _ _ _ _ _ (.inr (by omega))]
    exact fresh_gones hm h2
  · intro e1 n1 xs1 h1 i1 c1 hl
    simp only [lk_cons, if_true] at hl
    cases hl
    exact ⟨rfl, rfl, rfl⟩
  · rw [hH]
    unfold St.k
    simp only [lk_cons]
    split <;> simp
  · rw [hH]; exact hEx.K _ (u2.K _ hkfr)
  · rw [hH]; unfold St.k; simp [lk_cons]
  · rw [u2.hd fr hkfr]; exact t4.2.1.symm
end Mir
