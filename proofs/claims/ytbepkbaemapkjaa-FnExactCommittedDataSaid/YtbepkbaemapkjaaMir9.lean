/- The mirror machine: stores. -/
import Derived.Test.YtbepkbaemapkjaaMir8
namespace Mir
set_option linter.unusedVariables false
set_option linter.unusedSimpArgs false
open Go
variable {E : Env} {P : Program} {T : Tb} {cx : Cx} {G G' : Gh} {S : St E} {tm : Array Value} {a : Act} {W W' : World}

/-! ### Lists of cells -/
theorem putAt_get {α : Type} (l vs : List α) (o : Nat) (h : o + vs.length ≤ l.length) (j : Nat) : (putAt l o vs)[j]? = if o ≤ j ∧ j < o + vs.length then vs[j - o]? else l[j]? := by
  unfold putAt
  simp only [List.getElem?_append, List.length_append, List.length_take, List.getElem?_take, List.getElem?_drop]
  have hm : min o l.length = o := by omega
  rw [hm]
  by_cases h1 : j < o
  · have : ¬ (o ≤ j ∧ j < o + vs.length) := by omega
    rw [if_pos (by omega), if_pos h1, if_neg this, if_pos h1]
  · by_cases h2 : j < o + vs.length
    · rw [if_pos h2, if_neg h1, if_pos ⟨by omega, h2⟩]
    · rw [if_neg h2, if_neg (by omega)]
      congr 1
      omega
theorem putAt_length {α : Type} (l vs : List α) (o : Nat) (h : o + vs.length ≤ l.length) : (putAt l o vs).length = l.length := by
  unfold putAt
  simp
  omega
def seg {α : Type} (l : List α) (i sz : Nat) : List α := (l.drop (i * sz)).take sz
theorem seg_get {α : Type} (l : List α) (i sz j : Nat) : (seg l i sz)[j]? = if j < sz then l[i * sz + j]? else none := by
  unfold seg
  rw [List.getElem?_take]
  split
  · rw [List.getElem?_drop]
  · rfl
theorem seg_put_same {α : Type} (l vs : List α) (i sz off : Nat) (h : i * sz + sz ≤ l.length) (ho : off + vs.length ≤ sz) : seg (putAt l (i * sz + off) vs) i sz = putAt (seg l i sz) off vs := by
  have hl : (seg l i sz).length = sz := by unfold seg; simp; omega
  apply List.ext_getElem?
  intro j
  rw [seg_get, putAt_get _ _ _ (by omega), putAt_get _ _ _ (by omega), seg_get]
  by_cases hj : j < sz
  · rw [if_pos hj, if_pos hj]
    by_cases hc : off ≤ j ∧ j < off + vs.length
    · rw [if_pos hc, if_pos (by omega)]
      congr 1
      omega
    · rw [if_neg hc, if_neg (by omega)]
  · rw [if_neg hj, if_neg (by omega), if_neg hj]
theorem seg_put_other {α : Type} (l vs : List α) (i i' sz off : Nat) (h : i * sz + sz ≤ l.length) (ho : off + vs.length ≤ sz) (hne : i' ≠ i) : seg (putAt l (i * sz + off) vs) i' sz = seg l i' sz := by
  apply List.ext_getElem?
  intro j
  rw [seg_get, seg_get]
  by_cases hj : j < sz
  · rw [if_pos hj, if_pos hj, putAt_get _ _ _ (by omega), if_neg ?_]
    rcases Nat.lt_or_gt_of_ne hne with hlt | hgt
    · have : (i' + 1) * sz ≤ i * sz := Nat.mul_le_mul_right _ hlt
      rw [Nat.add_mul] at this
      omega
    · have : (i + 1) * sz ≤ i' * sz := Nat.mul_le_mul_right _ hgt
      rw [Nat.add_mul] at this
      omega
  · rw [if_neg hj, if_neg hj]
/-- A block of cells is written at a place. -/
theorem run_put {W : World} {g o : Nat} {t : TypeId} {cur : List Value} {vs : List Value} (h : W.heap[g]? = some (.cells cur.toArray t (0, 0))) (hl : o + vs.length ≤ cur.length) (h1 : ∀ v ∈ vs, v.oneCell' = true) :
    (storeCells ⟨g, o, none⟩ vs).run P W = .ok () (W.setRow g (putAt cur o vs).toArray) := by
  have := run_storeCells_at P g o t vs 0 cur.toArray W h (by simpa using hl) h1
  simpa [putAt] using this
theorem run_putC {W : World} {g o : Nat} {t : TypeId} {vs : List Value} : ∀ {cur : List Value}, CellsAt W g cur.toArray t → o + vs.length ≤ cur.length → (∀ v ∈ vs, v.oneCell' = true) → (storeCells ⟨g, o, none⟩ vs).run P W = .ok () (W.setRow g (putAt cur o vs).toArray) := by
  rintro cur ⟨fz, h, hfz⟩ hl h1
  rcases hfz with rfl | hfz
  · exact run_put h hl h1
  · have go : ∀ (vs : List Value) (i : Nat) (cur : Array Value) (w : World), w.heap[g]? = some (.cells cur t fz) → cur.size ≤ fz.1 → o + i + vs.length ≤ cur.size → (∀ v ∈ vs, v.oneCell' = true) →
        (storeCells ⟨g, o, none⟩ vs i).run P w = .ok () (w.setRow g (cur.toList.take (o + i) ++ vs ++ cur.toList.drop (o + i + vs.length)).toArray) := by
      intro vs
      induction vs with
      | nil =>
        intro i cur w hg _ _ _
        simp only [storeCells, List.append_nil, List.length_nil, Nat.add_zero, List.take_append_drop, Array.toArray_toList]
        rw [setRow_self w g cur t fz hg]
        rfl
      | cons v rest ih =>
        intro i cur w hg hf hl h1
        have hi : o + i < cur.size := by simp at hl; omega
        have hadd : (⟨g, o, none⟩ : Addr).add i = ⟨g, o + i, none⟩ := by unfold Addr.add; split <;> simp_all
        have hcell : w.cell? ⟨g, o + i, none⟩ = some cur[o + i] := by simp [World.cell?, hg, hi]
        have hfro : w.frozen? ⟨g, o + i, none⟩ = false := by
          obtain ⟨lo, hi'⟩ := fz
          simp only [World.frozen?, hg, Bool.and_eq_false_iff, decide_eq_false_iff_not]
          simp only at hf
          exact .inl (by omega)
        have hst : (store ((⟨g, o, none⟩ : Addr).add i) v).run P w = .ok () (w.setRow g (cur.setIfInBounds (o + i) v)) := by
          rw [hadd, run_store P w _ v _ (h1 v (by simp)), hcell]
          simp [hfro, setCell_eq_setRow w g (o + i) cur t fz v hg]
        have ih := ih (i + 1) (cur.setIfInBounds (o + i) v) (w.setRow g (cur.setIfInBounds (o + i) v)) (setRow_heap w g cur _ t _ hg) (by simpa using hf) (by simp at hl ⊢; omega) (fun x hx => h1 x (by simp [hx]))
        simp only [storeCells, Sem.run_bind, hst, Result.andThen_ok, ih, setRow_setRow]
        congr 3
        have e := list_seg_step cur.toList (o + i) v rest (by simp at hl ⊢; omega)
        simpa [Array.toList_setIfInBounds, Nat.add_assoc] using e
    have := go vs 0 cur.toArray W h (by simpa using hfz) (by simpa using hl) h1
    simpa [putAt] using this
theorem CellsAt.put {W : World} {g o : Nat} {e : Nat} {cur vs : List Value} (h : CellsAt W g cur.toArray e) (hl : o + vs.length ≤ cur.length) : CellsAt (W.setRow g (putAt cur o vs).toArray) g (putAt cur o vs).toArray e := by
  obtain ⟨fz, h1, h2⟩ := h
  refine ⟨fz, setRow_heap W _ _ _ _ _ h1, ?_⟩
  rcases h2 with h2 | h2
  · exact .inl h2
  · exact .inr (by simp [putAt_length _ _ _ hl] at h2 ⊢; exact h2)
theorem AtR.one {K : Nat → Prop} {x : At E} {w : Value} (h : AtR G K W x w) (hok : okAt x = true) : w.oneCell' = true := by
  have := h.cells hok
  cases w <;> first | rfl | skip
  · exfalso; cases x <;> simp [okAt, AtR] at hok h
    · obtain ⟨d, h⟩ := h
      cases d with
      | zero => exact h.elim
      | succ d => obtain ⟨A, c, hv, _⟩ := h; cases hv
  · exfalso; cases x <;> simp [okAt, AtR] at hok h
    · obtain ⟨d, h⟩ := h
      cases d with
      | zero => exact h.elim
      | succ d => obtain ⟨A, c, hv, _⟩ := h; cases hv
theorem AtsR.ones {K : Nat → Prop} : ∀ {xs : List (At E)} {vs : List Value}, AtsR G K W xs vs → xs.all okAt = true → ∀ v ∈ vs, v.oneCell' = true
  | [], _, h, _, v, hv => by rw [AtsR] at h; subst h; cases hv
  | x :: xs, _, ⟨v, r, hv, ha, hr⟩, hok, w, hw => by
    subst hv
    simp only [List.all_cons, Bool.and_eq_true] at hok
    rcases List.mem_cons.1 hw with rfl | hw
    · exact ha.one hok.1
    · exact hr.ones hok.2 w hw
theorem Ends.unit {m : Sem Unit} {r : Res E} (h : ∃ W' G', m.run P W = .ok () W' ∧ Sim cx G' { S with H := r.2 ++ S.H } a.tmps W' ∧ Ext G S.k W G' (St.k { S with H := r.2 ++ S.H }) W') (hr : r.1 = .dead) : Ends P cx G S a W (m >>= fun _ => Pure.pure undef) r := by
  obtain ⟨W', G', h1, h2, h3⟩ := h
  exact ⟨undef, W', G', by simp [h1], h2, h3, by rw [hr]; trivial⟩
theorem setRow_same {W : World} {g : Nat} {cs : Array Value} : (W.setRow g cs).os = W.os ∧ (W.setRow g cs).tape = W.tape ∧ (W.setRow g cs).output = W.output := ⟨rfl, rfl, rfl⟩
theorem row_seg {l : List Value} {i sz : Nat} : (l.drop (i * sz)).take sz = seg l i sz := rfl

theorem store_sound (hT : T.OK P) (hS : Sim cx G S a.tmps W) {t : TypeId} {x : Operand} {v : Operand} {l l' : List Nat} {r : Res E} (h : RM.Out S.h (aStore T t (evO (lk S.ρ) x) (asCv (evO (lk S.ρ) v))) l r l') :
    Ends P cx G S a W (Instr.storeAt t (a.eval x) (a.eval v) >>= fun _ => Pure.pure undef) r := by
  unfold aStore at h
  split at h
  rotate_left
  · exact h.elim
  rename_i cv n hcv hn
  have hv := ev_sound hS (asCv_some hcv)
  have hb' := RM.Out_bif h; clear h; obtain ⟨hok, h⟩ := hb'
  replace hok := okCv_all hok
  have hcells := CvR.cells (K := S.k) hv hok
  have hones := hcells.ones hok
  -- the store's run
  have hstore : ∀ (g o : Nat), a.eval x = .pointer (some ⟨g, o, none⟩) → cv.cells.length = n → ∀ W', (storeCells ⟨g, o, none⟩ (a.eval v).cells.toList).run P W = .ok () W' → (Instr.storeAt t (a.eval x) (a.eval v)).run P W = .ok () W' := by
    intro g o hx hl W' hr
    have hsz : (a.eval v).cells.size = n := by
      have := hcells.length
      rw [← hl, ← this]; simp
    rw [hx]
    simp [Instr.storeAt, Instr.sureAddr, storeVar, size_some hT hn, hsz, hr]
  -- one cell
  have simple : ∀ (ty : Ty) {l1 l2 : List Nat} {d : Ty.D E.S ty}, ((∃ k, ty = .int k) ∨ ty = .bool ∨ ty = .str) → RM.Out S.h (ofCv E ty cv) l1 d l2 → ∃ w m, (a.eval v).cells.toList = [w] ∧ RoA E W G.F m ty d w := by
    intro ty l1 l2 d hty hd
    cases cv with
    | agg xs => rcases hty with ⟨k, rfl⟩ | rfl | rfl <;> exact hd.elim
    | arr k n xs => rcases hty with ⟨k, rfl⟩ | rfl | rfl <;> exact hd.elim
    | «at» y =>
      have hd : RM.Out S.h (ofAt E ty y) l1 d l2 := by rcases hty with ⟨k, rfl⟩ | rfl | rfl <;> exact hd
      obtain ⟨w, r', hw, ha, hr'⟩ := hcells
      rw [AtsR] at hr'
      subst hr'
      have hin : InF G S G.F y := by
        cases y <;> first | trivial | (exfalso; rcases hty with ⟨k, rfl⟩ | rfl | rfl <;> exact hd.elim)
      obtain ⟨m, hm⟩ := ofAt_sound hS (fun _ h => h) ha hin hd
      exact ⟨w, m, hw, hm⟩
  have leaf : ∀ {id i off : Nat} {e : Nat} (ty : Ty) (xs : List (Ty.D E.S ty)) {l1 : List Nat}, ((∃ k, ty = .int k) ∨ ty = .bool ∨ ty = .str) → S.h id = some (.row e ty xs false) → BlkR G S.k W id (.row e ty xs false) → i < G.ln id → a.eval x = .pointer (some ⟨G.loc id, i * G.sz id + off, none⟩) →
      RM.Out S.h (bif Nat.beq off 0 && Nat.beq n 1 then (ofCv E ty cv).bind fun d => .pure (.dead, [(id, .row e ty (xs.set i d) false)]) else .fail) l1 r l' → Ends P cx G S a W (Instr.storeAt t (a.eval x) (a.eval v) >>= fun _ => Pure.pure undef) r := by
    intro id i off e ty xs l1 hty hb hB hi hx h
    have hb' := RM.Out_bif h; clear h; obtain ⟨hc, h⟩ := hb'
    simp only [Bool.and_eq_true] at hc
    obtain rfl := Nat.eq_of_beq_eq_true hc.1
    have hn1 := Nat.eq_of_beq_eq_true hc.2
    obtain ⟨d, l2, hd, h⟩ := RM.Out_bind h
    obtain rfl := h.1
    obtain ⟨w, m, hw, hm⟩ := simple ty hty hd
    have htsz : tsz E ty = 1 := by rcases hty with ⟨k, rfl⟩ | rfl | rfl <;> rfl
    have hroe : ∀ (RA : RAT E) (x : Ty.D E.S ty) (vs : List Value), RoE E RA ty x vs ↔ ∃ v, vs = [v] ∧ RA ty x v := by
      rcases hty with ⟨k, rfl⟩ | rfl | rfl <;> exact fun _ _ _ => Iff.rfl
    have hcl : cv.cells.length = n := by
      rw [← hcells.length, hw, hn1]; rfl
    obtain ⟨b1, b2, b3, hrow⟩ := hB
    rcases hrow with ⟨A, _, hnil⟩ | ⟨cap, cur, dp, hhd, hcap, hh, hlen', hmax, hcur, hel⟩
    · subst hnil; rw [b1] at hi; simp at hi
    · rw [b1] at hi
      have hheap : CellsAt W (G.loc id) cur.toList.toArray e := by simpa using hh
      rw [htsz] at b2 hcur hel
      rw [b2, Nat.mul_one, Nat.add_zero] at hx
      have hseg : i * 1 + 1 ≤ cur.toList.length := by simp; omega
      have hrun := run_putC (P := P) (o := i) (vs := (a.eval v).cells.toList) hheap (by rw [hw]; simp; omega) hones
      refine Ends.unit (r := (_, _)) ⟨_, G, hstore _ _ hx hcl _ hrun, ?_⟩ rfl
      rw [hw]
      exact hS.write hb (k0 := G.loc id) ⟨rfl, by show 0 < capOf (G.hd id); rw [hhd]; exact hcap⟩ rfl (b := .row e ty (xs.set i d) false) rfl (fun k hk => hk.1) (fun k hk => setRow_other W _ k _ hk) (by simp) setRow_same (fun K' hK hE => by
        refine ⟨by simp [b1], by rw [b2, htsz], by rw [htsz]; omega, .inr ⟨cap, (putAt cur.toList i [w]).toArray, max dp m, by simpa using hhd, hcap, hheap.put (by simp; omega), by simpa using hlen', hmax, ?_, fun j hj => ?_⟩⟩
        · rw [htsz]; simp [putAt_length _ _ _ (show i + [w].length ≤ cur.toList.length by simp; omega)]; omega
        · simp only [htsz, row_seg]
          have he : putAt cur.toList i [w] = putAt cur.toList (i * 1 + 0) [w] := by simp
          have hsame : seg (putAt cur.toList i [w]) i 1 = [w] := by
            rw [he, seg_put_same _ _ _ _ _ hseg (by simp)]
            unfold putAt seg; simp
          have hother : j ≠ i → seg (putAt cur.toList i [w]) j 1 = seg cur.toList j 1 := fun hji => by
            rw [he, seg_put_other _ _ _ _ _ _ hseg (by simp) hji]
          by_cases hji : j = i
          · subst hji
            rw [hsame, hroe]
            simp only [List.getElem_set_self]
            exact ⟨w, rfl, RoA.more (fun _ h => h) hE.W m _ (Nat.le_max_right _ _) _ _ _ hm⟩
          · rw [hother hji]
            have hj' : j < xs.length := by simpa using hj
            rw [List.getElem_set_ne (fun e => hji e.symm)]
            exact (hel j hj').mono fun t x v => RoA.more (fun _ h => h) hE.W dp _ (Nat.le_max_left _ _) t x v)
  split at h
  · rename_i id off hx
    have hx := ev_sound hS hx
    obtain ⟨b, hb, h⟩ := h
    have hB := hS.blks id b hb
    dsimp only at h
    split at h
    · rename_i t0 cells
      split at h
      · exact h.elim
      · have hb' := RM.Out_bif h; clear h; obtain ⟨hc, h⟩ := hb'
        simp only [Bool.and_eq_true] at hc
        have hlen := Nat.eq_of_beq_eq_true hc.1
        have hle := Nat.le_of_ble_eq_true hc.2
        obtain rfl := h.1
        obtain ⟨vs, hh, hr⟩ := hB
        have hvl := hcells.length
        have hcl := hr.length
        have hrun := run_put (P := P) (o := off) (vs := (a.eval v).cells.toList) hh (by omega) hones
        refine Ends.unit (r := (_, _)) ⟨_, G, hstore _ _ hx.2 hlen _ hrun, ?_⟩ rfl
        exact hS.write hb rfl rfl rfl (fun k hk => hk) (fun k hk => setRow_other W _ k _ hk) (by simp) setRow_same (fun K' hK hE => ⟨_, setRow_heap W _ _ _ _ _ hh, (hr.ext hE).putAt (hcells.ext hE) off⟩)
    · rename_i t0 k m ys
      split at h
      · rename_i k' m' ys'
        have hb' := RM.Out_bif h; clear h; obtain ⟨hc, h⟩ := hb'
        simp only [Bool.and_eq_true] at hc
        obtain rfl := Nat.eq_of_beq_eq_true hc.1.1.1
        obtain rfl := Nat.eq_of_beq_eq_true hc.1.1.2
        have hn0 := Nat.eq_of_beq_eq_true hc.1.2
        obtain rfl := ikEq_eq hc.2
        obtain rfl := h.1
        obtain ⟨b1, b2, b3, hh⟩ := hB
        obtain ⟨hl, hvv⟩ := hv
        have hn' : n = m := hn0
        have hcs : (a.eval v).cells.toList = ys'.map (Value.int k') := by rw [hvv]; simp [Value.cells]
        have hrun := run_put (P := P) (o := 0) (vs := (a.eval v).cells.toList) hh (by rw [hcs]; simp; omega) hones
        refine Ends.unit (r := (_, _)) ⟨_, G, hstore _ _ hx.2 (by simp [Cv.cells, hl, hn']) _ hrun, ?_⟩ rfl
        have hput : putAt (ys.map (Value.int k')) 0 (a.eval v).cells.toList = ys'.map (Value.int k') := by
          rw [hcs]; unfold putAt; simp; omega
        rw [hput]
        exact hS.write hb rfl rfl rfl (fun k hk => hk) (fun k hk => setRow_other W _ k _ hk) (by simp) setRow_same (fun K' hK hE => ⟨hl, b2, b3, setRow_heap W _ _ _ _ _ hh⟩)
      · exact h.elim
    · exact h.elim
  · rename_i id i off hx
    have hx := ev_sound hS hx
    obtain ⟨b, hb, h⟩ := h
    have hB := hS.blks id b hb
    obtain ⟨hk, hi, hx⟩ := hx
    dsimp only at h
    split at h
    · rename_i e ty xs
      cases ty with
      | st s =>
        dsimp only at h
        have hb' := RM.Out_bif h; clear h; obtain ⟨hc, h⟩ := hb'
        simp only [Bool.and_eq_true] at hc
        have hlen := Nat.eq_of_beq_eq_true hc.1
        have hle := Nat.le_of_ble_eq_true hc.2
        obtain ⟨u, l1, hu, h⟩ := RM.Out_bind h
        have hb' := RM.Out_bif h; clear h; obtain ⟨hnone, h⟩ := hb'
        obtain ⟨hd, l2, hd1, h⟩ := RM.Out_bind h
        obtain rfl := h.1
        obtain ⟨⟨F', hS1, hF1, hf1⟩, hfx⟩ := frz_sound hS hu
        have hin : ∀ x ∈ cv.cells, InF G S F' x := fun x hx => (hfx x hx).inF hf1
        have hb1 : St.h { S with H := u ++ S.H } id = some (.row e (.st s) xs false) := by
          rw [h_append]
          cases hl : lk u id with
          | none => exact hb
          | some b => rw [hl] at hnone; cases hnone
        obtain ⟨b1, b2, b3, hrow⟩ := hB
        rcases hrow with ⟨A, _, hnil⟩ | ⟨cap, cur, d, hhd, hcap, hh, hlen', hmax, hcur, hel⟩
        · subst hnil; rw [b1] at hi; simp at hi
        · rw [b1] at hi
          rw [el_get hi] at hd1
          have hsz : tsz E (.st s) = (E.fl s).length := rfl
          have hvl : (a.eval v).cells.toList.length = n := by rw [hcells.length]; exact hlen
          have hseg : i * tsz E (.st s) + tsz E (.st s) ≤ cur.toList.length := by
            have : (i + 1) * tsz E (.st s) ≤ cap * tsz E (.st s) := Nat.mul_le_mul_right _ (by omega)
            rw [Nat.add_mul] at this
            simp; omega
          have hheap : CellsAt W (G.loc id) cur.toList.toArray e := by simpa using hh
          rw [b2] at hx
          have hrun := run_putC (P := P) (o := i * tsz E (.st s) + off) (vs := (a.eval v).cells.toList) hheap (by omega) hones
          refine Ends.unit (r := (_, _)) ⟨_, { G with F := F' }, hstore _ _ hx hlen _ hrun, ?_⟩ rfl
          have hold : RoL E (RoA E W G.F d) (E.fl s) (E.opn s xs[i]) (seg cur.toList i (tsz E (.st s))) := hel i hi
          have hats := (toAts_sound (G := G) (K := S.k) (fun _ h => h) hold).putAt hcells off
          have hin' : ∀ x ∈ putAt (toAts E (E.fl s) (E.opn s xs[i])) off cv.cells, InF G S F' x := by
            intro y hy
            unfold putAt at hy
            have hro : ∀ (ts : List Ty) (h : HT E.S ts), ∀ z ∈ toAts E ts h, InF G S F' z := by
              intro ts
              induction ts with
              | nil => intro h z hz; cases hz
              | cons t ts ih =>
                intro h z hz
                rcases List.mem_cons.1 hz with rfl | hz
                · cases t <;> trivial
                · exact ih _ z hz
            rcases List.mem_append.1 hy with hy | hy
            · rcases List.mem_append.1 hy with hy | hy
              · exact hro _ _ y (List.mem_of_mem_take hy)
              · exact hin y hy
            · exact hro _ _ y (List.mem_of_mem_drop hy)
          obtain ⟨dn, hdn⟩ := ofAts_sound hS hF1 hats hin' hd1
          have hw := hS1.write hb1 (k0 := G.loc id) ⟨rfl, by show 0 < capOf (G.hd id); rw [hhd]; exact hcap⟩ rfl (b := .row e (.st s) (xs.set i (E.shut s hd)) false) rfl (fun k hk => hk.1) (fun k hk => setRow_other W _ k _ hk) (by simp) setRow_same (fun K' hK hE => by
            refine ⟨by simp [b1], b2, b3, .inr ⟨cap, (putAt cur.toList (i * tsz E (.st s) + off) (a.eval v).cells.toList).toArray, max d dn, by simpa using hhd, hcap, hheap.put (by omega), by simpa using hlen', hmax, ?_, fun j hj => ?_⟩⟩
            · simp [putAt_length _ _ _ (show i * tsz E (.st s) + off + (a.eval v).cells.toList.length ≤ cur.toList.length by omega)]; exact hcur
            · simp only [row_seg]
              by_cases hji : j = i
              · subst hji
                rw [seg_put_same _ _ _ _ _ hseg (by omega)]
                simp only [List.getElem_set_self]
                show RoL E _ (E.fl s) (E.opn s (E.shut s hd)) _
                rw [E.opn_shut]
                exact hdn.mono fun t x v => RoA.more (fun _ h => h) hE.W dn _ (Nat.le_max_right _ _) t x v
              · rw [seg_put_other _ _ _ _ _ _ hseg (by omega) hji]
                have hj' : j < xs.length := by simpa using hj
                rw [List.getElem_set_ne (fun e => hji e.symm)]
                exact (hel j hj').mono fun t x v => RoA.more hF1 (fun b hb => hE.W b (hF1 b hb)) d _ (Nat.le_max_left _ _) t x v)
          have hE1 : Ext G S.k W { G with F := F' } (St.k { S with H := u ++ S.H }) W := ext_F hF1
          exact ⟨hw.1, hE1.trans hw.2⟩
      | slice e t => exact h.elim
      | arr k n => exact h.elim
      | rsl e t => exact h.elim
      | pbx b n => exact h.elim
      | int k => exact leaf _ _ (.inl ⟨k, rfl⟩) hb hB hi hx h
      | bool => exact leaf _ _ (.inr (.inl rfl)) hb hB hi hx h
      | str => exact leaf _ _ (.inr (.inr rfl)) hb hB hi hx h
    · rename_i t0 k m ys
      have hb' := RM.Out_bif h; clear h; obtain ⟨hc, h⟩ := hb'
      simp only [Bool.and_eq_true] at hc
      obtain rfl := Nat.eq_of_beq_eq_true hc.1
      have hn1 := Nat.eq_of_beq_eq_true hc.2
      obtain ⟨d, l2, hd, h⟩ := RM.Out_bind h
      obtain rfl := h.1
      obtain ⟨w, m', hw, hm⟩ := simple (.int k) (.inl ⟨k, rfl⟩) hd
      have hwd : w = .int k d := by cases m' <;> exact hm
      subst hwd
      have hcl : cv.cells.length = n := by
        rw [← hcells.length, hw, hn1]; rfl
      obtain ⟨b1, b2, b3, hh⟩ := hB
      rw [b3, Nat.mul_one, Nat.add_zero] at hx
      have hrun := run_put (P := P) (o := i) (vs := (a.eval v).cells.toList) hh (by rw [hw]; simp; omega) hones
      refine Ends.unit (r := (_, _)) ⟨_, G, hstore _ _ hx hcl _ hrun, ?_⟩ rfl
      have hput : putAt (ys.map (Value.int k)) i (a.eval v).cells.toList = (ys.set i d).map (Value.int k) := by
        rw [hw, List.map_set]
        apply List.ext_getElem?
        intro j
        rw [putAt_get _ _ _ (by simp; omega), List.getElem?_set]
        by_cases hj : j = i
        · subst hj
          have hlt : j < (ys.map (Value.int k)).length := by simp; omega
          simp [hlt]
          omega
        · rw [if_neg (by simp; omega), if_neg (fun e => hj e.symm)]
      rw [hput]
      exact hS.write hb rfl rfl rfl (fun k hk => hk) (fun k hk => setRow_other W _ k _ hk) (by simp) setRow_same (fun K' hK hE => ⟨by simpa using b1, b2, b3, setRow_heap W _ _ _ _ _ hh⟩)
    · exact h.elim
  · exact h.elim
end Mir
