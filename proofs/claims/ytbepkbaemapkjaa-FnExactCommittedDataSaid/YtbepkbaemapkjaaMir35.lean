/- The mirror machine: deep rows, 3: rows that are made, put together. -/
import Derived.Test.YtbepkbaemapkjaaMir34
namespace Mir
set_option linter.unusedVariables false
set_option linter.unusedSimpArgs false
open Go
variable {E : Env} {P : Program} {T : Tb} {cx : Cx} {G G' : Gh} {S : St E} {tm : Array Value} {a : Act} {W W' : World}

/-- A new deep row in a new block. -/
theorem freshD (hS : Sim cx G S tm W) {fr : Nat} (hf0 : lk S.H fr = none) (hf1 : lk S.H (fr + 1) = none) (m : List Nat) (hm : ∀ i ∈ m, ∃ b, S.h i = some b ∧ b.fz = false)
    {e n d cap : Nat} {xs : List (E.S n)} {cs tail : List Value} {fps : List (List Nat)} (hrow : DeepC E W d (.st n) xs cs fps) (hfn : fps.flatten.Nodup) (hfps : ∀ k ∈ fps.flatten, ∃ i ∈ m, ∃ b, S.h i = some b ∧ Occ G i b k)
    (hlen : xs.length ≤ cap) (hmax : cap ≤ maxLen) (htail : cap * tsz E (.st n) ≤ (cs ++ tail).length) (hW : W' = W.alloc (.cells (cs ++ tail).toArray e) ∨ W' = W.drew.alloc (.cells (cs ++ tail).toArray e)) :
    ∃ G', Sim cx G' { S with H := ((fr, .drow e (.st n) xs (fr + 1)) :: (fr + 1, .hdr) :: gones m) ++ S.H } tm W' ∧ Ext G S.k W G' (St.k { S with H := ((fr, (Blk.drow e (.st n) xs (fr + 1) : Blk E)) :: (fr + 1, .hdr) :: gones m) ++ S.H }) W' ∧
      AtR (E := E) G' (St.k { S with H := ((fr, (Blk.drow e (.st n) xs (fr + 1) : Blk E)) :: (fr + 1, .hdr) :: gones m) ++ S.H }) W' (.own fr) (.slice (some ⟨W.heap.size, 0, none⟩) xs.length cap) := by
  have hold : ∀ k, k < W.heap.size → W'.heap[k]? = W.heap[k]? := by
    rcases hW with rfl | rfl
    · exact fun k hk => heap_alloc_old W _ k hk
    · exact fun k hk => drewAlloc_old W _ k hk
  have hnew : W'.heap[W.heap.size]? = some (.cells (cs ++ tail).toArray e (0, 0)) := by
    rcases hW with rfl | rfl
    · exact heap_alloc_new W _
    · exact drewAlloc_new W _
  have hsize : W.heap.size ≤ W'.heap.size := by
    rcases hW with rfl | rfl
    · rw [World.size_alloc]; exact Nat.le_succ _
    · rw [World.size_alloc]; exact Nat.le_succ _
  have hos : W'.os = W.os ∧ W'.tape = W.tape ∧ W'.output = W.output := by
    rcases hW with rfl | rfl <;> exact ⟨rfl, rfl, rfl⟩
  have hlt : ∀ k ∈ fps.flatten, k < W.heap.size := fun k hk => by
    obtain ⟨i, _, b, hb, ho⟩ := hfps k hk
    exact ho.lt (hS.blks i b hb)
  rcases Nat.eq_zero_or_pos cap with h0 | h0
  · -- no room: the slice is as nil
    subst h0
    have hx : xs = [] := List.eq_nil_of_length_eq_zero (by omega)
    subst hx
    have hfl : fps = [] := List.eq_nil_of_length_eq_zero hrow.2.1
    subst hfl
    exact newD hS hf0 hf1 m hm (fun k hk => .inr (hold k hk)) hsize hos (d := 1) (v := .slice (some ⟨W.heap.size, 0, none⟩) 0 0) (fp := []) (.inl ⟨_, rfl, rfl, rfl⟩) List.nodup_nil (fun k hk => by cases hk)
  · refine newD hS hf0 hf1 m hm (fun k hk => .inr (hold k hk)) hsize hos (d := d + 1) (fp := W.heap.size :: fps.flatten) (.inr ⟨W.heap.size, cap, (cs ++ tail).toArray, fps, rfl, rfl, h0, .of hnew, hlen, hmax, by simpa using htail, (hrow.raise (Nat.le_refl d) (fun k hk => hold k (hlt k hk))).row⟩) ?_ ?_
    · exact List.nodup_cons.2 ⟨fun h => by have := hlt _ h; omega, hfn⟩
    · intro k hk
      rcases List.mem_cons.1 hk with rfl | hk
      · exact .inl (Nat.le_refl _)
      · exact .inr (hfps k hk)
theorem dMake_sound (hT : T.OK P) (hS : Sim cx G S a.tmps W) {fr : Nat} (hf0 : lk S.H fr = none) (hf1 : lk S.H (fr + 1) = none) {t e : TypeId} {s : Nat} {lo co : Operand} (helem : T.elem t = some (e, .st s)) {l l' : List Nat} {r : Res E}
    (h : RM.Out S.h (dMake T fr e s (opdEq lo co) (evO (lk S.ρ) lo) (evO (lk S.ρ) co)) l r l') : Ends P cx G S a W (Instr.makeSlice t (a.eval lo) (a.eval co)) r := by
  unfold dMake at h
  have hu := Tb.elem_some hT helem
  split at h
  rotate_left
  · exact h.elim
  rename_i b sz zs hby hsz hzv
  have hb' := RM.Out_bif h; clear h; obtain ⟨hc, h⟩ := hb'
  simp only [Bool.and_eq_true] at hc
  obtain ⟨⟨⟨⟨⟨hc1, hc2⟩, hc3⟩, hc4⟩, hc5⟩, hc6⟩ := hc
  obtain rfl := Nat.eq_of_beq_eq_true hc1
  have hpos : 0 < tsz E (.st s) := Nat.le_of_ble_eq_true hc2
  have hbpos : 0 < b := Nat.le_of_ble_eq_true hc3
  obtain ⟨z, l1, hz, h⟩ := RM.Out_bind h
  obtain ⟨w, hzr, hcv, ie, hie, hiz⟩ := zero_sound hT hzv (K := S.k)
  obtain ⟨vs, rfl, hats⟩ := hcv G W
  have hzE : DeepL E (DeepA E W 1) (E.fl s) z vs [] := nilsDeep hats hc5 (noRsl_all hc6) hz
  have hiby : ie.bytes = b := by have := hT.bytes _ _ hby; rw [hie] at this; simpa using this
  have hisz : ie.size = tsz E (.st s) := by have := hT.size _ _ hsz; rw [hie] at this; simpa using this
  have hvl : vs.length = tsz E (.st s) := by
    have : ∀ {ts : List Ty} {h : HT E.S ts} {vs : List Value} {fp : List Nat}, DeepL E (DeepA E W 1) ts h vs fp → vs.length = ts.length := by
      intro ts
      induction ts with
      | nil => intro h vs fp hd; rw [hd.1]; rfl
      | cons t ts ih =>
        rintro h vs fp ⟨v, r, f1, f2, rfl, _, _, hr⟩
        rw [List.length_cons, List.length_cons, ih hr]
    exact this hzE
  have hcell : (Value.agg vs.toArray).cells = vs.toArray := rfl
  have hzs : (Value.agg vs.toArray).cells.size = tsz E (.st s) := by rw [hcell]; simpa using hvl
  split at h
  rotate_left
  · exact h.elim
  rename_i lv cv hl hcv'
  have hlv : a.eval lo = .int .i64 lv := ev_sound hS hl
  have hcv : a.eval co = .int .i64 cv := ev_sound hS hcv'
  have made : ∀ (ln : Nat) (xs : List (E.S s)), 0 ≤ lv → lv ≤ cv → lv.toNat = ln → xs = List.replicate ln (E.shut s z) → room cv.toNat b = true → Ends P cx G S a W (Instr.makeSlice t (a.eval lo) (a.eval co)) (.a (.own fr), [(fr, .drow e (.st s) xs (fr + 1)), (fr + 1, .hdr)]) := by
    intro ln xs h0 hle hln hxs hroom
    have hroom : cv.toNat * b ≤ 140737488355328 := by simpa [room] using hroom
    have hcb : cv.toNat ≤ cv.toNat * b := Nat.le_mul_of_pos_right _ hbpos
    have hcl : (cv.toNat : Int) = cv := by omega
    have hrun := run_make (P := P) W t e ie (Value.agg vs.toArray) hu hie hiz .i64 .i64 lv cv h0 hle (by
      rw [hiby, ← hcl, ← Int.natCast_mul, Nat.mul_comm]; omega) (by omega)
    subst hxs
    have hrow : DeepC E W 1 (.st s) (List.replicate ln (E.shut s z)) (zcells (Value.agg vs.toArray).cells ln) (List.replicate ln []) := zcells_deep (by rw [E.opn_shut, hcell]; simpa using hzE) hzs hpos ln
    have hlc : ln * tsz E (.st s) ≤ cv.toNat * tsz E (.st s) := Nat.mul_le_mul_right _ (by omega)
    have hcut : zcells (Value.agg vs.toArray).cells ln ++ (madeCells (Value.agg vs.toArray).cells (cv.toNat * ie.size)).toList.drop (ln * tsz E (.st s)) = (madeCells (Value.agg vs.toArray).cells (cv.toNat * ie.size)).toList := by
      have h1 : (madeCells (Value.agg vs.toArray).cells (cv.toNat * ie.size)).toList.take (ln * tsz E (.st s)) = zcells (Value.agg vs.toArray).cells ln := by
        unfold madeCells zcells
        rw [hisz, hzs]
        simp only [Array.toList_map, Array.toList_range, ← List.map_take, List.take_range, Nat.min_eq_left hlc]
      rw [← h1, List.take_append_drop]
    obtain ⟨G', h1, h2, h3⟩ := freshD (W' := W.alloc (.cells (zcells (Value.agg vs.toArray).cells ln ++ (madeCells (Value.agg vs.toArray).cells (cv.toNat * ie.size)).toList.drop (ln * tsz E (.st s))).toArray e)) (cap := cv.toNat) (e := e) hS hf0 hf1 [] (fun i hi => by cases hi) hrow (by rw [flatten_nils]; exact List.nodup_nil) (fun k hk => by rw [flatten_nils] at hk; cases hk) (by simp; omega) (by simp only [maxLen]; omega) (by rw [hcut]; simp [madeCells, hisz]) (.inl rfl)
    rw [hcut, Array.toArray_toList] at h1 h2 h3
    rw [List.length_replicate] at h3
    subst hln
    refine ⟨_, _, _, ?_, h1, h2, h3⟩
    rw [hlv, hcv]
    exact hrun
  cases hsame : opdEq lo co with
  | true =>
    rw [hsame] at h
    have heq : lv = cv := by
      unfold opdEq at hsame
      split at hsame
      · obtain rfl := Nat.eq_of_beq_eq_true hsame
        rw [hlv] at hcv; cases hcv; rfl
      · simp only [decide_eq_true_eq] at hsame
        subst hsame
        have e1 := hlv
        have e2 := hcv
        simp only [Act.eval, Value.int.injEq] at e1 e2
        rw [← e1.2, ← e2.2]
      · cases hsame
    subst heq
    obtain ⟨h0, hroom, h⟩ := h
    obtain rfl := h.1
    simp only [decide_eq_true_eq] at h0
    exact made lv.toNat _ h0 (Int.le_refl _) rfl rfl hroom
  | false =>
    rw [hsame] at h
    obtain ⟨h0, h1, hroom, h⟩ := h
    obtain rfl := h.1
    simp only [decide_eq_true_eq] at h0 h1
    subst h0
    exact made 0 _ (Int.le_refl _) h1 rfl rfl hroom
/-- The parts of a literal, one behind the other. -/
theorem partsD_sound (hS : Sim cx G S a.tmps W) {n : Nat} (hno : noRsl E n = true) : ∀ {ps : List (Nat × Operand)} {k : Nat} {l l' : List Nat} {q : List (E.S n) × List Nat}, RM.Out S.h (partsD E n (ps.map fun p => (p.1, evO (lk S.ρ) p.2)) k) l q l' →
    ∃ cs fps d, DeepC E W d (.st n) q.1 cs fps ∧ q.1.length = ps.length ∧ Hand G S q.2 fps.flatten ∧
      ∀ (done rest : List Value), done.length = k * tsz E (.st n) → rest.length = ps.length * tsz E (.st n) → Instr.fill (fun i => some (i * tsz E (.st n), tsz E (.st n))) (done ++ rest).toArray (ps.map fun p => (p.1, a.eval p.2)) = some (done ++ cs).toArray
  | [], k, _, _, q, h => by
    rw [h.1]
    refine ⟨[], [], 0, DeepC.nil, rfl, Hand.nil, fun done rest _ hr => ?_⟩
    have : rest = [] := List.eq_nil_of_length_eq_zero (by simpa using hr)
    subst this
    rfl
  | (j, x) :: ps, k, l, l', q, h => by
    simp only [List.map_cons, partsD] at h
    have hb' := RM.Out_bif h; clear h; obtain ⟨hj, h⟩ := hb'
    obtain rfl := Nat.eq_of_beq_eq_true hj
    split at h
    rotate_left
    · exact h.elim
    rename_i xs hv
    have hb' := RM.Out_bif h; clear h; obtain ⟨hok, h⟩ := hb'
    obtain ⟨h', l1, h1, h⟩ := RM.Out_bind h
    obtain ⟨m, l2, h2, h⟩ := RM.Out_bind h
    obtain ⟨q', l3, h3, h⟩ := RM.Out_bind h
    obtain rfl := h.1
    obtain ⟨cs, fps, d, i1, i2, i3, i4⟩ := partsD_sound hS hno h3
    have hx := ev_sound hS (asCv_some hv)
    obtain ⟨vs, hvv, hats⟩ := hx
    obtain ⟨fn, hown, hhand⟩ := ownAll_sound hS (fun _ h => h) hats h1 h2
    obtain ⟨dn, hdn⟩ := OwnL.deep (noRsl_all hno) hown
    have hvl : vs.length = (E.fl n).length := by
      have : ∀ {ts : List Ty} {h : HT E.S ts} {vs : List Value} {fp : List Nat}, DeepL E (DeepA E W dn) ts h vs fp → vs.length = ts.length := by
        intro ts
        induction ts with
        | nil => intro h vs fp hd; rw [hd.1]; rfl
        | cons t ts ih =>
          rintro h vs fp ⟨v, r, f1, f2, rfl, _, _, hr⟩
          rw [List.length_cons, List.length_cons, ih hr]
      exact this hdn
    have hone := DeepC.one (n := n) (x := E.shut n h') (by rw [E.opn_shut]; exact hdn) hvl
    refine ⟨vs ++ cs, fn :: fps, max dn d, (hone.raise (Nat.le_max_left _ _) (fun _ _ => rfl)).append (i1.raise (Nat.le_max_right _ _) (fun _ _ => rfl)), by simp [i2], by simpa using hhand.app hS i3, fun done rest hd hr => ?_⟩
    have hsz : tsz E (.st n) = (E.fl n).length := rfl
    rw [List.length_cons, Nat.add_mul, Nat.one_mul] at hr
    have hcell : (a.eval x).cells = vs.toArray := by rw [hvv]; rfl
    rw [List.map_cons, fill_step (fun i => some (i * tsz E (.st n), tsz E (.st n))) (done ++ rest).toArray j (a.eval x) _ rfl (by rw [hcell, List.size_toArray]; exact hvl) (by rw [hcell]; simp; omega)]
    rw [hcell]
    have hp : putAt (done ++ rest) (j * tsz E (.st n)) vs = (done ++ vs) ++ rest.drop (tsz E (.st n)) := by
      unfold putAt
      rw [← List.drop_drop, ← hd, List.take_left, List.drop_left, hvl]
      rfl
    have := i4 (done ++ vs) (rest.drop (tsz E (.st n))) (by rw [List.length_append, hd, hvl, Nat.add_mul, Nat.one_mul]; rfl) (by simp; omega)
    simp only [List.append_assoc] at this
    rw [← this]
    congr 1
    simp only [hp, List.append_assoc]
theorem dBuild_sound (hT : T.OK P) (hS : Sim cx G S a.tmps W) {fr : Nat} (hf0 : lk S.H fr = none) (hf1 : lk S.H (fr + 1) = none) {t e : TypeId} {s len : Nat} {parts : Array (Nat × Operand)} (helem : T.elem t = some (e, .st s)) {l l' : List Nat} {r : Res E}
    (h : RM.Out S.h (dBuild T fr e s len (parts.toList.map fun p => (p.1, evO (lk S.ρ) p.2))) l r l') : Ends P cx G S a W (Instr.buildSlice t len (parts.map fun (i, x) => (i, a.eval x))) r := by
  unfold dBuild at h
  have hu := Tb.elem_some hT helem
  split at h
  rotate_left
  · exact h.elim
  rename_i sz hsz
  have hb' := RM.Out_bif h; clear h; obtain ⟨hc, h⟩ := hb'
  simp only [Bool.and_eq_true] at hc
  obtain ⟨⟨⟨⟨⟨hc1, hc2⟩, hc3⟩, hc4⟩, hc5⟩, hc6⟩ := hc
  obtain rfl := Nat.eq_of_beq_eq_true hc1
  have hpos : 0 < tsz E (.st s) := Nat.le_of_ble_eq_true hc2
  have hsmall := Nat.le_of_ble_eq_true hc3
  have hpl := Nat.eq_of_beq_eq_true hc6
  rw [List.length_map] at hpl
  obtain ⟨q, l1, hq, h⟩ := RM.Out_bind h
  have hb' := RM.Out_bif h; clear h; obtain ⟨hnd, h⟩ := hb'
  have hnd := nodupB_iff hnd
  obtain rfl := h.1
  obtain ⟨cs, fps, d, hrow, hql, hhand, hfill⟩ := partsD_sound hS hc5 hq
  obtain ⟨ie, w, hie, hiz, hisz, hzs⟩ : ∃ ie w, P.info? e = some ie ∧ ie.zero = some w ∧ ie.size = tsz E (.st s) ∧ w.cells.size = tsz E (.st s) := by
    unfold zOK at hc4
    split at hc4
    · rename_i w hw
      obtain ⟨ie, h1, h2⟩ := zero_info hT hw
      have := hT.size _ _ hsz
      rw [h1] at this
      exact ⟨ie, w, h1, h2, by simpa using this, by have := Nat.eq_of_beq_eq_true hc4; simpa using this⟩
    · cases hc4
  have hf := hfill [] (zcells w.cells len) (by simp) (by rw [zcells_len, hzs, hpl])
  simp only [List.nil_append] at hf
  have hlen : q.1.length = len := by rw [hql, hpl]
  have hrun : (Instr.buildSlice t len (parts.map fun (i, x) => (i, a.eval x))).run P W = .ok (.slice (some ⟨W.heap.size, 0, none⟩) len len) (W.alloc (.cells cs.toArray e)) := by
    have hsm : ¬ len * tsz E (.st s) > 2 ^ 24 := by omega
    have hparts' : (parts.map fun (i, x) => (i, a.eval x)).toList = parts.toList.map fun p => (p.1, a.eval p.2) := by simp
    by_cases h0 : len * tsz E (.st s) = 0
    · have h00 : len = 0 := by
        rcases Nat.mul_eq_zero.1 h0 with h | h
        · exact h
        · omega
      subst h00
      have hz0 : (zcells w.cells 0).toArray = #[] := by simp [zcells]
      rw [hz0] at hf
      simp [Instr.buildSlice, run_underlying hu, Go.sizeOf, typeInfo, hie, hisz]
      rw [show Array.map (fun _ => (default : Value)) (Array.range 0) = #[] by (apply Array.ext'; simp), hf]
      rfl
    · refine run_buildSlice W t e len _ cs.toArray ie w hu hie hiz (by rw [hisz]; exact hsm) (by rw [hisz]; exact h0) ?_
      rw [hparts', hisz, ← hf]
      congr 1
      simp only [zcells, Array.toArray_toList]
      rw [hzs]
  obtain ⟨G', h1, h2, h3⟩ := freshD (W' := W.alloc (.cells (cs ++ []).toArray e)) (cap := len) (e := e) hS hf0 hf1 q.2 hhand.wr hrow (hhand.nodup hnd) hhand.blks (Nat.le_of_eq hlen) (by simp only [maxLen]; have := Nat.le_mul_of_pos_right len hpos; omega) (by rw [List.append_nil, hrow.1, hlen]; exact Nat.le_refl _) (.inl rfl)
  rw [List.append_nil] at h1 h2 h3
  rw [hlen] at h3
  exact ⟨_, _, _, hrun, h1, h2, h3⟩
/-- What a deep row is, as a source of cells. -/
theorem drow_src (hS : Sim cx G S tm W) {id : Nat} {e : Nat} {n : Nat} {xs : List (E.S n)} {hid : Nat} (hb : S.h id = some (.drow e (.st n) xs hid)) :
    ∃ A cap cs fps d, G.hd id = .slice A xs.length cap ∧ xs.length ≤ cap ∧ DeepC E W d (.st n) xs cs fps ∧ fps.flatten.Nodup ∧ (∀ k ∈ fps.flatten, Occ G id (.drow e (.st n) xs hid : Blk E) k) ∧ Src P W (tsz E (.st n)) (.slice A xs.length cap) xs.length cs ∧
      ((cap = 0 ∧ xs = []) ∨ (0 < cap ∧ cap ≤ maxLen ∧ A = some ⟨G.loc id, 0, none⟩ ∧ Occ G id (.drow e (.st n) xs hid : Blk E) (G.loc id) ∧ G.loc id ∉ fps.flatten ∧ ∃ cur : List Value, CellsAt W (G.loc id) cur.toArray e ∧ cap * tsz E (.st n) ≤ cur.length ∧ cur.take (xs.length * tsz E (.st n)) = cs)) := by
  have hpos := tsz_pos E (.st n)
  rcases drow_deep hS hb with ⟨A, hA, rfl⟩ | ⟨cap, cur, d, fps, hhd, hcap, hh, hlen, hmax, hcur, hnd, hr, ho⟩
  · exact ⟨A, 0, [], [], 0, hA, Nat.le_refl _, DeepC.nil, List.nodup_nil, fun k hk => (by cases hk), Src.slice (by simp) (fun h => absurd h (by simp)) (fun _ => rfl), .inl ⟨rfl, rfl⟩⟩
  · obtain ⟨h1, h2⟩ := List.nodup_cons.1 hnd
    have hrow := hr.cells hcur hlen
    refine ⟨_, cap, _, fps, d, hhd, hlen, hrow, h2, fun k hk => ho k (by simp [hk]), Src.slice hrow.1 (fun _ => ⟨_, rfl, fun j hj => ?_⟩) (fun h => ?_), .inr ⟨hcap, hmax, rfl, ho _ (by simp), h1, cur.toList, by simpa using hh, by simpa using hcur, rfl⟩⟩
    · rw [hh.cell _ _ rfl]
      simp at hj ⊢
    · rw [hrow.1] at h
      rcases Nat.mul_eq_zero.1 h with h | h
      · exact h
      · omega
end Mir
