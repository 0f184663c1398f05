/- The mirror machine: deep rows, 2: what operations on them do. -/
import Derived.Test.YtbepkbaemapkjaaMir33
namespace Mir
set_option linter.unusedVariables false
set_option linter.unusedSimpArgs false
open Go
variable {E : Env} {P : Program} {T : Tb} {cx : Cx} {G G' : Gh} {S : St E} {tm : Array Value} {a : Act} {W W' : World}

/-- A new deep row, out of blocks given up and new ones. -/
theorem newD (hS : Sim cx G S tm W) {fr : Nat} (hf0 : lk S.H fr = none) (hf1 : lk S.H (fr + 1) = none) (m : List Nat) (hm : ∀ i ∈ m, ∃ b, S.h i = some b ∧ b.fz = false)
    (hW : ∀ k, k < W.heap.size → (∃ i ∈ m, ∃ b, S.h i = some b ∧ Occ G i b k) ∨ W'.heap[k]? = W.heap[k]?) (hsize : W.heap.size ≤ W'.heap.size) (hos : W'.os = W.os ∧ W'.tape = W.tape ∧ W'.output = W.output)
    {e n d : Nat} {xs : List (E.S n)} {v : Value} {fp : List Nat} (h : DeepA E W' d (.slice e (.st n)) xs v fp) (hnd : fp.Nodup) (hfp : ∀ k ∈ fp, W.heap.size ≤ k ∨ ∃ i ∈ m, ∃ b, S.h i = some b ∧ Occ G i b k) :
    ∃ G', Sim cx G' { S with H := ((fr, .drow e (.st n) xs (fr + 1)) :: (fr + 1, .hdr) :: gones m) ++ S.H } tm W' ∧ Ext G S.k W G' (St.k { S with H := ((fr, (Blk.drow e (.st n) xs (fr + 1) : Blk E)) :: (fr + 1, .hdr) :: gones m) ++ S.H }) W' ∧
      AtR (E := E) G' (St.k { S with H := ((fr, (Blk.drow e (.st n) xs (fr + 1) : Blk E)) :: (fr + 1, .hdr) :: gones m) ++ S.H }) W' (.own fr) v := by
  obtain ⟨h1, h2, h3⟩ := hS.release m hm hW hsize hos
  have g0 := fresh_gones hm hf0
  have g1 := fresh_gones hm hf1
  obtain ⟨G', k1, k2, k3, k4, _⟩ := h1.adoptD (id := fr) (hid := fr + 1) (by unfold St.h; simp only [g0]) g1 (by omega) h hnd (fun k hk => h3 k (hfp k hk)) (.inl g0)
  exact ⟨G', k1, h2.trans k2, k4⟩
/-- A deep row that is written: its slice stays. -/
theorem againD (hS : Sim cx G S tm W) {fr id : Nat} (hf : lk S.H fr = none) {e n hid : Nat} {xs xs' : List (E.S n)} (hb : S.h id = some (.drow e (.st n) xs hid)) (m : List Nat) (hm : ∀ i ∈ id :: m, ∃ b, S.h i = some b ∧ b.fz = false)
    (hW : ∀ k, k < W.heap.size → (∃ i ∈ id :: m, ∃ b, S.h i = some b ∧ Occ G i b k) ∨ W'.heap[k]? = W.heap[k]?) (hsize : W.heap.size ≤ W'.heap.size) (hos : W'.os = W.os ∧ W'.tape = W.tape ∧ W'.output = W.output)
    {d : Nat} {fp : List Nat} (h : DeepA E W' d (.slice e (.st n)) xs' (G.hd id) fp) (hnd : fp.Nodup) (hlen : xs'.length = xs.length) (hfp : ∀ k ∈ fp, W.heap.size ≤ k ∨ ∃ i ∈ id :: m, ∃ b, S.h i = some b ∧ Occ G i b k) :
    ∃ G', Sim cx G' { S with H := ((id, .drow e (.st n) xs' fr) :: (fr, .hdr) :: gones (id :: m)) ++ S.H } tm W' ∧ Ext G S.k W G' (St.k { S with H := ((id, (Blk.drow e (.st n) xs' fr : Blk E)) :: (fr, .hdr) :: gones (id :: m)) ++ S.H }) W' := by
  obtain ⟨h1, h2, h3⟩ := hS.release (id :: m) hm hW hsize hos
  have g0 := fresh_gones hm hf
  have hne : id ≠ fr := fun e => by
    have := St.h_k hb
    unfold St.k at this
    rw [e, hf] at this; cases this
  obtain ⟨b0, b1, b2, b3, hrow⟩ := hS.blks id _ hb
  obtain ⟨G', k1, k2, k3, k4, _⟩ := h1.adoptD (id := id) (hid := fr) (gones_h (by simp)) g0 hne h hnd (fun k hk => h3 k (hfp k hk)) (.inr ⟨rfl, by rw [b1, hlen], b2, fun h0 => by
    rcases hrow with ⟨A, hA, _⟩ | ⟨cap, cur, d, fps, hhd, _⟩
    · rw [hA] at h0; simp [capOf] at h0
    · exact ⟨cap, by rw [hhd, hlen]⟩⟩)
  exact ⟨G', k1, h2.trans k2⟩
theorem nilsDeep {K : Nat → Prop} : ∀ {ts : List Ty} {xs : List (At E)} {vs : List Value} {h : HT E.S ts} {l l' : List Nat}, AtsR G K W xs vs → xs.all nilAt = true → (ts.all fun | .rsl _ _ => false | _ => true) = true → RM.Out S.h (ofAts E ts xs) l h l' → DeepL E (DeepA E W' 1) ts h vs []
  | [], [], _, _, _, _, hr, _, _, _ => ⟨by rw [AtsR] at hr; exact hr, rfl⟩
  | [], _ :: _, _, _, _, _, _, _, _, ho => ho.elim
  | _ :: _, [], _, _, _, _, _, _, _, ho => ho.elim
  | t :: ts, x :: xs, _, h, _, _, ⟨v, r, hv, ha, hr⟩, hn, hf, ho => by
    simp only [List.all_cons, Bool.and_eq_true] at hn hf
    obtain ⟨y, l1, h1, ho⟩ := RM.Out_bind ho
    obtain ⟨z, l2, h2, ho⟩ := RM.Out_bind ho
    obtain rfl := ho.1
    refine ⟨v, r, [], [], hv, rfl, ?_, nilsDeep hr hn.2 hf.2 h2⟩
    by_cases hs : simpAt x = true
    · exact (SimpR.of ha hs).deep h1
    · have hx : x = .nils := by
        have := hn.1
        cases x <;> first | rfl | (simp [nilAt, simpAt] at this hs)
      subst hx
      cases t with
      | slice e t =>
        obtain rfl := h1.1
        obtain ⟨A, ha⟩ := ha
        exact .inl ⟨A, ha, rfl, rfl⟩
      | rsl e t => exact absurd hf.1 (by simp)
      | _ => exact h1.elim
theorem noRsl_all {n : Nat} (h : noRsl E n = true) : ((E.fl n).all fun | .rsl _ _ => false | _ => true) = true := h

/-! ### Reads -/
theorem dIndexAddr_sound (hT : T.OK P) (hS : Sim cx G S a.tmps W) {t : TypeId} {x i : Operand} {id hid e0 : Nat} {ty : Ty} {xs : List (Ty.D E.S ty)} (hx : evO (lk S.ρ) x = some (.c (.at (.own id)))) (hb : S.h id = some (.drow e0 ty xs hid)) {l l' : List Nat} {r : Res E}
    (h : RM.Out S.h (dIndexAddr T t id ty xs (evO (lk S.ρ) i)) l r l') : Ends P cx G S a W (Instr.indexAt t (a.eval x) (a.eval i)) r := by
  unfold dIndexAddr at h
  split at h
  rotate_left
  · exact h.elim
  rename_i k n hi
  have hi := ev_sound hS hi
  simp only [AVR, CvR, AtR] at hi
  rw [hi]
  split at h
  rotate_left
  · exact h.elim
  rename_i e hu
  have hu := hT.und _ _ hu
  have hx := ev_sound hS hx
  have hb' := RM.Out_bif h; clear h; obtain ⟨hsz, h⟩ := hb'
  obtain ⟨h0, h1, h⟩ := h
  simp only [decide_eq_true_eq] at h0 h1
  rw [one_sound h]
  obtain ⟨b0, b1, b2, b3, hrow⟩ := hS.blks id _ hb
  rw [hx.2.1]
  rcases hrow with ⟨A, hA, hnil, _⟩ | ⟨cap, cur, d, fps, hhd, hcap, hh, hlen, hmax, hcur, _⟩
  · subst hnil; simp at h1; omega
  · rw [hhd]
    refine Ends.pure hS (w := .pointer (some ((⟨G.loc id, 0, none⟩ : Addr).add (n.toNat * tsz E ty)))) ?_ ⟨hx.1, by rw [b1]; omega, by rw [add_lit, b2, Nat.zero_add, Nat.add_zero]⟩
    have hc : (0 ≤ n ∧ n < (xs.length : Int)) := ⟨h0, h1⟩
    simp [Instr.indexAt, asIntOf, run_underlying hu, hc, sizeIs_some hT hsz]
/-- The cells of an element. -/
theorem inAts_sound {K : Nat → Prop} {id hid i d : Nat} (hk : K id) (hh : K hid) : ∀ {ts : List Ty} {h : HT E.S ts} {vs : List Value} {fp : List Nat} {c : Nat}, DeepL E (DeepA E W d) ts h vs fp → (∀ j v, vs[j]? = some v → (∃ A n m, v = .slice A n m) → v = G.inh hid i (c + j)) →
    AtsR G K W (inAts id hid i (toAts E ts h) c) vs
  | [], _, _, _, _, hd, _ => hd.1
  | t :: ts, h, _, _, c, ⟨v, r, f1, f2, hv, hf, ha, hr⟩, hin => by
    subst hv
    have hr' : AtsR G K W (inAts id hid i (toAts E ts h.2) (c + 1)) r := inAts_sound hk hh hr fun j v hj hs => by
      have := hin (j + 1) v (by simpa using hj) hs
      rw [this, Nat.add_assoc, Nat.add_comm 1 j]
    cases t with
    | int k => refine ⟨v, r, rfl, ?_, hr'⟩; cases d <;> exact ha.1
    | bool => refine ⟨v, r, rfl, ?_, hr'⟩; cases d <;> exact ha.1
    | str => refine ⟨v, r, rfl, ?_, hr'⟩; cases d <;> exact ha.1
    | slice e t =>
      have hsl : ∃ A n m, v = .slice A n m := by
        cases d with
        | zero => exact ha.elim
        | succ d =>
          rcases ha with ⟨A, hw, _⟩ | ⟨g, cap, cur, fps, hw, _⟩
          · exact ⟨_, _, _, hw⟩
          · exact ⟨_, _, _, hw⟩
      exact ⟨v, r, rfl, ⟨hk, hh, hin 0 v rfl hsl, hsl⟩, hr'⟩
    | rsl e t => cases d <;> exact ha.elim
    | st n => cases d <;> exact ha.elim
    | arr k n => cases d <;> exact ha.elim
    | pbx b n => cases d <;> exact ha.elim
theorem inAts_one {K : Nat → Prop} {id hid i d : Nat} (hk : K id) (hh : K hid) {t : Ty} {x : Ty.D E.S t} {vs : List Value} {fp : List Nat} (hd : DeepE E (DeepA E W d) t x vs fp) (hin : ∀ j v, vs[j]? = some v → (∃ A n m, v = .slice A n m) → v = G.inh hid i (0 + j)) :
    AtsR G K W (inAts id hid i (toCv E t x).cells 0) vs := by
  cases t with
  | st n => exact inAts_sound hk hh hd hin
  | int k => obtain ⟨v, rfl, ha⟩ := hd; refine ⟨v, [], rfl, ?_, rfl⟩; cases d <;> exact ha.1
  | bool => obtain ⟨v, rfl, ha⟩ := hd; refine ⟨v, [], rfl, ?_, rfl⟩; cases d <;> exact ha.1
  | str => obtain ⟨v, rfl, ha⟩ := hd; refine ⟨v, [], rfl, ?_, rfl⟩; cases d <;> exact ha.1
  | slice e t =>
    obtain ⟨v, rfl, ha⟩ := hd
    have hsl : ∃ A n m, v = .slice A n m := by
      cases d with
      | zero => exact ha.elim
      | succ d =>
        rcases ha with ⟨A, hw, _⟩ | ⟨g, cap, cur, fps, hw, _⟩
        · exact ⟨_, _, _, hw⟩
        · exact ⟨_, _, _, hw⟩
    exact ⟨v, [], rfl, ⟨hk, hh, hin 0 v rfl hsl, hsl⟩, rfl⟩
  | rsl e t => obtain ⟨v, rfl, ha⟩ := hd; cases d <;> exact ha.elim
  | arr k n => obtain ⟨v, rfl, ha⟩ := hd; cases d <;> exact ha.elim
  | pbx b n => obtain ⟨v, rfl, ha⟩ := hd; cases d <;> exact ha.elim
theorem dLoad_sound (hT : T.OK P) (hS : Sim cx G S a.tmps W) {t : TypeId} {x : Operand} {id hid e0 i off : Nat} {ty : Ty} {xs : List (Ty.D E.S ty)} (hx : evO (lk S.ρ) x = some (.c (.at (.eptr id i off)))) (hb : S.h id = some (.drow e0 ty xs hid)) {l l' : List Nat} {r : Res E}
    (h : RM.Out S.h (partOf T t ((inAts id hid i (toCv E ty (el E ty xs i)).cells 0).drop off)) l r l') : Ends P cx G S a W (Instr.loadAt t (a.eval x)) r := by
  obtain ⟨hk, hi, hx⟩ := ev_sound hS hx
  obtain ⟨b0, b1, b2, b3, hrow⟩ := hS.blks id _ hb
  rcases hrow with ⟨A, _, hnil, _⟩ | ⟨cap, cur, d, fps, hhd, hcap, hh, hlen, hmax, hcur, hfp, hnd, hr, hin⟩
  · subst hnil; rw [b1] at hi; simp at hi
  rw [b1] at hi
  rw [el_get hi] at h
  have hcells := inAts_one (G := G) (K := S.k) (id := id) (hid := hid) (i := i) (St.h_k hb) b0 (hr.2 i hi) (fun j v hj hs => by
    obtain ⟨A, n, m, rfl⟩ := hs
    have hjs : j < tsz E ty := by
      have := (List.getElem?_eq_some_iff.1 hj).1
      simp only [List.length_take] at this; omega
    have hw : cur[i * tsz E ty + j]? = some (.slice A n m) := by
      rw [List.getElem?_take, if_pos hjs, List.getElem?_drop] at hj
      simpa using hj
    have := hin i j hi hjs ⟨A, n, m, hw⟩
    rw [hw] at this
    rw [Nat.zero_add]; simpa using this)
  obtain ⟨v, h2, h3, h4⟩ := part_load hT hS (ad := ⟨G.loc id, i * G.sz id + off, none⟩) (hcells.drop off) (fun j hj => by
    rw [hh.cell _ _ rfl j, b2]
    have hj' : off + j < tsz E ty ∧ i * tsz E ty + (off + j) < cur.size := by
      simp only [List.length_drop, List.length_take, Array.length_toList] at hj
      constructor
      · omega
      · have : (i + 1) * tsz E ty ≤ cap * tsz E ty := Nat.mul_le_mul_right _ (by omega)
        rw [Nat.add_mul] at this
        omega
    rw [Array.getElem?_eq_getElem (by omega)]
    simp [Nat.add_assoc]) h
  obtain ⟨x', u⟩ := r
  cases h4
  exact Ends.pure hS (by rw [hx]; simpa [Instr.loadAt, Instr.sureAddr] using h2) h3
theorem dLen_sound (hT : T.OK P) (hS : Sim cx G S a.tmps W) {t ty0 e : TypeId} {x : Operand} {id hid e0 : Nat} {ty : Ty} {xs : List (Ty.D E.S ty)} (hx : evO (lk S.ρ) x = some (.c (.at (.own id)))) (hb : S.h id = some (.drow e0 ty xs hid)) (hu : T.und t = some (.slice e)) :
    Ends P cx G S a W (Builtin.len_ #[t] ty0 #[a.eval x]) (.int .i64 (xs.length : Int), []) := by
  have hu := hT.und _ _ hu
  have run (A : Option Addr) (n c : Nat) : (Builtin.len_ #[t] ty0 #[.slice A n c]).run P W = .ok (.int .i64 (n : Int)) W := by simp [Builtin.len_, run_underlying hu, goInt]
  have hx := ev_sound hS hx
  obtain ⟨b0, b1, b2, b3, hrow⟩ := hS.blks id _ hb
  rw [hx.2.1]
  rcases hrow with ⟨A, hA, hnil, _⟩ | ⟨cap, cur, d, fps, hhd, _⟩
  · subst hnil
    rw [hA]
    exact Ends.pure hS (run _ _ _) rfl
  · rw [hhd]
    exact Ends.pure hS (run _ _ _) rfl

/-! ### Stores -/
theorem dStore_sound (hT : T.OK P) (hS : Sim cx G S a.tmps W) {fr : Nat} (hf : lk S.H fr = none) {t : TypeId} {x v : Operand} {id hid e s i off : Nat} {xs : List (E.S s)} (hx : evO (lk S.ρ) x = some (.c (.at (.eptr id i off)))) (hb : S.h id = some (.drow e (.st s) xs hid)) {l l' : List Nat} {r : Res E}
    (h : RM.Out S.h (dStore T t fr id e s xs hid i off (asCv (evO (lk S.ρ) v))) l r l') : Ends P cx G S a W (Instr.storeAt t (a.eval x) (a.eval v) >>= fun _ => Pure.pure undef) r := by
  unfold dStore at h
  split at h
  rotate_left
  · exact h.elim
  rename_i cv hcv
  split at h
  rotate_left
  · exact h.elim
  rename_i n hn
  have hv := ev_sound hS (asCv_some hcv)
  have hb' := RM.Out_bif h; clear h; obtain ⟨hc, h⟩ := hb'
  simp only [Bool.and_eq_true] at hc
  have hok := okCv_all hc.1
  have hlen := Nat.eq_of_beq_eq_true hc.2
  have hcells := CvR.cells (K := S.k) hv hok
  have hones := hcells.ones hok
  have hvl : (a.eval v).cells.toList.length = n := by rw [hcells.length]; exact hlen
  have hstore : ∀ (g o : Nat), a.eval x = .pointer (some ⟨g, o, none⟩) → ∀ W', (storeCells ⟨g, o, none⟩ (a.eval v).cells.toList).run P W = .ok () W' → (Instr.storeAt t (a.eval x) (a.eval v)).run P W = .ok () W' := by
    intro g o hx W' hr
    have hsz : (a.eval v).cells.size = n := by simpa using hvl
    rw [hx]
    simp [Instr.storeAt, Instr.sureAddr, storeVar, size_some hT hn, hsz, hr]
  obtain ⟨hk, hi, hx⟩ := ev_sound hS hx
  have hB := hS.blks id _ hb
  obtain ⟨b0, b1, b2, b3, hrow⟩ := hB
  rcases hrow with ⟨A, _, hnil, _⟩ | ⟨cap, cur, d, fps, hhd, hcap, hh, hlen', hmax, hcur, hfp, hnd, hr, hin⟩
  · subst hnil; rw [b1] at hi; simp at hi
  rw [b1] at hi
  have hsz : tsz E (.st s) = (E.fl s).length := rfl
  have hseg : i * tsz E (.st s) + tsz E (.st s) ≤ cur.toList.length := by
    have : (i + 1) * tsz E (.st s) ≤ cap * tsz E (.st s) := Nat.mul_le_mul_right _ (by omega)
    rw [Nat.add_mul] at this
    simp; omega
  have hheap : CellsAt W (G.loc id) cur.toList.toArray e := by simpa using hh
  rw [b2] at hx
  have hocc : ∀ k ∈ G.loc id :: fps.flatten, Occ G id (.drow e (.st s) xs hid : Blk E) k := fun k hk => by
    rcases List.mem_cons.1 hk with rfl | hk
    · exact .inl ⟨rfl, by rw [hhd]; exact hcap⟩
    · exact .inr (by rw [hfp]; exact hk)
  have hilt : i < fps.length := by rw [hr.1]; exact hi
  obtain ⟨hnl, hnf⟩ := List.nodup_cons.1 hnd
  -- the row behind the store
  have fin : ∀ (m : List Nat) (dn : Nat) (fn : List Nat) (x' : E.S s), (∀ j ∈ id :: m, ∃ b, S.h j = some b ∧ b.fz = false) → off + n ≤ tsz E (.st s) → DeepL E (DeepA E W dn) (E.fl s) (E.opn s x') (putAt (seg cur.toList i (tsz E (.st s))) off (a.eval v).cells.toList) fn →
      fn.Nodup → (∀ k ∈ fn, k ≠ G.loc id ∧ k ∉ (fps.set i []).flatten ∧ ∃ j ∈ id :: m, ∃ b, S.h j = some b ∧ Occ G j b k) →
      Ends P cx G S a W (Instr.storeAt t (a.eval x) (a.eval v) >>= fun _ => Pure.pure undef) (.dead, (id, .drow e (.st s) (xs.set i x') fr) :: (fr, .hdr) :: gones (id :: m)) := by
    intro m dn fn x' hm hon hd hfn hfnk
    have hrun := run_putC (P := P) (o := i * tsz E (.st s) + off) (vs := (a.eval v).cells.toList) hheap (by omega) hones
    let W' : World := W.setRow (G.loc id) (putAt cur.toList (i * tsz E (.st s) + off) (a.eval v).cells.toList).toArray
    have hWo : ∀ k, k ≠ G.loc id → W'.heap[k]? = W.heap[k]? := fun k hk => setRow_other W _ k _ hk
    have hdn : DeepL E (DeepA E W' (max d dn)) (E.fl s) (E.opn s x') (putAt (seg cur.toList i (tsz E (.st s))) off (a.eval v).cells.toList) fn := hd.raise (Nat.le_max_right _ _) (fun k hk => hWo k (hfnk k hk).1)
    have hmem : ∀ k, k ∈ (fps.set i fn).flatten → k ∈ fn ∨ k ∈ (fps.set i []).flatten := fun k hk => by
      rcases List.mem_append.1 ((flatten_set hilt fn).mem_iff.1 hk) with h | h
      · exact .inl h
      · exact .inr h
    have hrest : ∀ k, k ∈ (fps.set i []).flatten → k ∈ fps.flatten := fun k hk => (flatten_get hilt).mem_iff.2 (by simp [hk])
    have hA : DeepA E W' (max d dn + 1) (.slice e (.st s)) (xs.set i x') (G.hd id) (G.loc id :: (fps.set i fn).flatten) := by
      refine .inr ⟨G.loc id, cap, (putAt cur.toList (i * tsz E (.st s) + off) (a.eval v).cells.toList).toArray, fps.set i fn, by simpa using hhd, rfl, hcap, hheap.put (by omega), by simpa using hlen', hmax, ?_, by simp [hr.1], fun j hj => ?_⟩
      · simp [putAt_length _ _ _ (show i * tsz E (.st s) + off + (a.eval v).cells.toList.length ≤ cur.toList.length by omega)]; exact hcur
      · simp only [row_seg]
        have hj' : j < xs.length := by simpa using hj
        by_cases hji : j = i
        · subst hji
          rw [seg_put_same _ _ _ _ _ hseg (by omega)]
          simp only [List.getElem_set_self]
          rw [List.getD_eq_getElem?_getD, List.getElem?_set_self hilt]
          exact hdn
        · rw [seg_put_other _ _ _ _ _ _ hseg (by omega) hji, List.getElem_set_ne (fun e => hji e.symm), List.getD_eq_getElem?_getD, List.getElem?_set_ne (fun e => hji e.symm), ← List.getD_eq_getElem?_getD]
          exact (hr.2 j hj').raise (Nat.le_max_left _ _) (fun k hk => hWo k (fun e => hnl (e ▸ getD_mem hk)))
    have hperm := flatten_set hilt fn
    have hnd' : (G.loc id :: (fps.set i fn).flatten).Nodup := by
      refine List.nodup_cons.2 ⟨fun h => ?_, hperm.nodup_iff.2 (List.nodup_append.2 ⟨hfn, ?_, fun k hk k' hk' e => (hfnk k hk).2.1 (e ▸ hk')⟩)⟩
      · rcases hmem _ h with h | h
        · exact (hfnk _ h).1 rfl
        · exact hnl (hrest _ h)
      · exact (List.nodup_append.1 ((flatten_get hilt).nodup_iff.1 hnf)).2.1
    obtain ⟨G', h1, h2⟩ := againD (W' := W') hS hf hb m hm (fun k _ => by
      by_cases hk : k = G.loc id
      · exact .inl ⟨id, by simp, _, hb, hocc k (by simp [hk])⟩
      · exact .inr (hWo k hk)) (by simp [W']) setRow_same hA hnd' (by simp) (fun k hk => by
        rcases List.mem_cons.1 hk with rfl | hk
        · exact .inr ⟨id, by simp, _, hb, hocc _ (by simp)⟩
        · rcases hmem k hk with h | h
          · exact .inr (hfnk k h).2.2
          · exact .inr ⟨id, by simp, _, hb, hocc k (by simp [hrest k h])⟩)
    exact Ends.unit (r := (_, _)) ⟨_, G', hstore _ _ hx _ hrun, h1, h2⟩ rfl
  have hfi : ∀ k ∈ fps.getD i [], k ≠ G.loc id ∧ k ∉ (fps.set i []).flatten ∧ k ∈ fps.flatten := fun k hk => by
    have h1 := getD_mem hk
    refine ⟨fun e => hnl (e ▸ h1), fun h2 => ?_, h1⟩
    exact (List.nodup_append.1 ((flatten_get hilt).nodup_iff.1 hnf)).2.2 k hk k h2 rfl
  cases hsm : (cv.cells.all simpAt && Nat.ble (off + n) (E.fl s).length) with
  | true =>
    rw [hsm, cond_true] at h
    simp only [Bool.and_eq_true] at hsm
    have hon := Nat.le_of_ble_eq_true hsm.2
    obtain ⟨h', l1, h1, h⟩ := RM.Out_bind h
    obtain rfl := h.1
    rw [el_get hi] at h1
    have hold : DeepL E (DeepA E W d) (E.fl s) (E.opn s xs[i]) (seg cur.toList i (tsz E (.st s))) (fps.getD i []) := hr.2 i hi
    have hsl : (seg cur.toList i (tsz E (.st s))).length = tsz E (.st s) := by unfold seg; simp at hseg ⊢; omega
    have htl : (toAts E (E.fl s) (E.opn s xs[i])).length = (E.fl s).length := by
      have : ∀ (ts : List Ty) (h : HT E.S ts), (toAts E ts h).length = ts.length := by
        intro ts
        induction ts with
        | nil => intro h; rfl
        | cons t ts ih => intro h; simp [toAts, ih]
      exact this _ _
    refine fin [] d (fps.getD i []) _ (fun j hj => by simp at hj; subst hj; exact ⟨_, hb, rfl⟩) (by rw [hsz]; exact hon) ?_ ((List.nodup_append.1 ((flatten_get hilt).nodup_iff.1 hnf)).1) (fun k hk => ⟨(hfi k hk).1, (hfi k hk).2.1, id, by simp, _, hb, hocc k (by simp [(hfi k hk).2.2])⟩)
    rw [E.opn_shut]
    refine DeepL.upd hold (by rw [putAt_length _ _ _ (by omega), hsl]; exact hsz) (fun c hc => ?_) h1
    by_cases hco : off ≤ c ∧ c < off + n
    · refine .inr ?_
      rw [putAt_get _ _ _ (by rw [hlen, htl]; exact hon), putAt_get _ _ _ (by omega), if_pos (by omega), if_pos (by omega)]
      have hc1 : c - off < cv.cells.length := by omega
      have hc2 : c - off < (a.eval v).cells.toList.length := by omega
      refine ⟨_, _, List.getElem?_eq_getElem hc1, List.getElem?_eq_getElem hc2, ?_⟩
      exact SimpR.of (hcells.get (c - off) hc1 hc2) (List.all_eq_true.1 hsm.1 _ (List.getElem_mem hc1))
    · refine .inl ?_
      rw [putAt_get _ _ _ (by rw [hlen, htl]; exact hon), putAt_get _ _ _ (by omega), if_neg (by omega), if_neg (by omega)]
      exact ⟨rfl, rfl⟩
  | false =>
    rw [hsm, cond_false] at h
    have hb' := RM.Out_bif h; clear h; obtain ⟨hc2, h⟩ := hb'
    simp only [Bool.and_eq_true] at hc2
    obtain rfl := Nat.eq_of_beq_eq_true hc2.1.1
    have hns := Nat.eq_of_beq_eq_true hc2.1.2
    obtain ⟨h', l1, h1, h⟩ := RM.Out_bind h
    obtain ⟨m, l2, h2, h⟩ := RM.Out_bind h
    have hb' := RM.Out_bif h; clear h; obtain ⟨hndm, h⟩ := hb'
    have hndm := nodupB_iff hndm
    obtain rfl := h.1
    obtain ⟨him, hmn⟩ := List.nodup_cons.1 hndm
    obtain ⟨fn, hown, hhand⟩ := ownAll_sound hS (fun _ h => h) hcells h1 h2
    obtain ⟨dn, hdn⟩ := OwnL.deep (noRsl_all hc2.2) hown
    have hput : putAt (seg cur.toList i (tsz E (.st s))) 0 (a.eval v).cells.toList = (a.eval v).cells.toList := by
      have hsl : (seg cur.toList i (tsz E (.st s))).length = tsz E (.st s) := by unfold seg; simp at hseg ⊢; omega
      unfold putAt
      simp only [List.take_zero, List.nil_append, Nat.zero_add]
      rw [List.drop_eq_nil_of_le (by omega), List.append_nil]
    refine fin m dn fn _ (fun j hj => ?_) (by rw [hsz]; omega) (by rw [E.opn_shut, hput]; exact hdn) (hhand.nodup hmn) (fun k hk => ?_)
    · rcases List.mem_cons.1 hj with rfl | hj
      · exact ⟨_, hb, rfl⟩
      · exact hhand.wr j hj
    · obtain ⟨j, hj, b, hbj, ho⟩ := hhand.blks k hk
      have hji : j ≠ id := fun e => him (e ▸ hj)
      refine ⟨fun e => hji (hS.inj j id b _ k hbj hb ho (hocc k (by simp [e]))), fun h => hji (hS.inj j id b _ k hbj hb ho (hocc k (List.mem_cons_of_mem _ ((flatten_get hilt).mem_iff.2 (List.mem_append_right _ h))))), j, List.mem_cons_of_mem _ hj, b, hbj, ho⟩
end Mir
