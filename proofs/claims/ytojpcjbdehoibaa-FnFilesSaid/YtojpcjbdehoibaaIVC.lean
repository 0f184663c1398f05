/- Pure laws: runs of a disk; FnFiles. -/
import Derived.Test.YtojpcjbdehoibaaIVB
namespace Mir.Y
set_option linter.unusedVariables false
set_option linter.unusedSimpArgs false
open Go
variable {L A M B : List File} {n : ByteArray}
theorem extract_size (s : ByteArray) (k : Nat) (h : k ≤ s.size) : (s.extract 0 k).size = k := by rw [ByteArray.size_extract]; omega
theorem withinM (N : Nat) (x a b : Int) : impl_within.m N x a b = some (decide (x ≥ a) && decide (x ≤ b)) := by
  unfold impl_within.m
  cases decide (x ≥ a) <;> rfl
theorem inM (N : Nat) (x a b : Int) : spec_l01In.m N x a b = some (decide (x ≥ a) && decide (x ≤ b)) := by
  unfold spec_l01In.m
  cases decide (x ≥ a) <;> rfl
theorem stepE {N : Nat} (hN : Big N) (h : DI L) (a : FileAct) (ha : okAct a) : ∃ (L' : List File) (c : Int), impl_step.m N (Disk.mk 300 L) a = some (Disk.mk 300 L', c) ∧ spec_l03Step.m N (Disk.mk 300 L) a = some (Disk.mk 300 L', c) ∧ DI L' := by
  have hl := h.len
  have hu := h.used
  have cp := copyD (N := N) (Disk.mk 300 L) (show L.length ≤ 1000 by omega)
  -- what an act that answers no code leaves
  have fin : ∀ (L' : List File) (c : Int), impl_Disk_do.m N (Disk.mk 300 L) a = some (c, Disk.mk 300 (if c = 0 then L' else L)) → spec_l03Step.m N (Disk.mk 300 L) a = some (Disk.mk 300 (if c = 0 then L' else L), c) → DI L' →
      ∃ (L' : List File) (c : Int), impl_step.m N (Disk.mk 300 L) a = some (Disk.mk 300 L', c) ∧ spec_l03Step.m N (Disk.mk 300 L) a = some (Disk.mk 300 L', c) ∧ DI L' := by
    intro L' c h1 h2 h3
    refine ⟨if c = 0 then L' else L, c, ?_, h2, by split <;> assumption⟩
    unfold impl_step.m
    rw [cp, ob_some, h1, ob_some]
    by_cases hc : c = 0
    · subst hc; rfl
    · rw [if_neg hc]
      have : (c != 0) = true := by rw [bne_iff_ne]; exact hc
      simp only [this, cond_true, cp, ob_some]
  have hN3 : ∀ n ∈ fN, n.size ≤ 100 := by decide
  rcases ha with ⟨hK, hn, hd⟩ | ⟨hK, hn⟩ | ⟨hK, hn, hto⟩ | ⟨hK, hn⟩ | ⟨hK, hn, hn0, hn1⟩ | ⟨hK, hk⟩
  · -- append
    obtain ⟨A, M, B, p⟩ := fp_of a.Name h.srt
    have pu := p.used
    have pl := p.len
    have i0 : impl_Disk_do.m N (Disk.mk 300 L) a = ob (impl_Disk_append_.m N (Disk.mk 300 L) a.Name a.Data) fun y1 => some (y1.1, y1.2) := by
      unfold impl_Disk_do.m; rw [hK]; rfl
    have s0 : spec_l03Step.m N (Disk.mk 300 L) a = ob (spec_l03Append.m N (Disk.mk 300 L) a) fun y1 => some (y1.1, y1.2) := by
      unfold spec_l03Step.m; rw [hK]; rfl
    have e8 : ((L.length : Int) == 8) = false := by rw [beq_eq_false_iff_ne]; omega
    have ew : w64 (300 - (usedN L : Int)) = 300 - (usedN L : Int) := w_small (by omega) (by omega)
    have es : w64 ((usedN L : Int) + (a.Data.size : Int)) = (usedN L : Int) + (a.Data.size : Int) := w_small (by omega) (by omega)
    have fI := fileAtP hN 300 p (by omega)
    have fS := findP hN 300 p (by omega)
    have uI := usedI hN 300 (L := L) (by omega) (by omega)
    have uS := usedS hN 300 (L := L) (by omega) (by omega)
    by_cases hf : (usedN L : Int) + (a.Data.size : Int) > 300
    · -- no room
      refine fin L 7 ?_ ?_ h
      · rw [i0]
        unfold impl_Disk_append_.m
        rw [fI, ob_some, nameI hN _ hn, ob_some, uI]
        simp only [Bool.not_true, cond_false, e8, ew, ob_some, decide_eq_true (show (a.Data.size : Int) > 300 - (usedN L : Int) by omega), cond_true]
        cases M.isEmpty <;> rfl
      · rw [s0]
        unfold spec_l03Append.m
        rw [fS, ob_some, nameS hN _ hn, ob_some, uS]
        simp only [Bool.not_true, cond_false, e8, es, ob_some, decide_eq_true hf, cond_true]
        by_cases hM : M = []
        · rw [if_pos hM]; rfl
        · rw [if_neg hM, decide_eq_false (show ¬ (A.length : Int) < 0 by omega)]; rfl
    · rcases p.mid with rfl | ⟨z, rfl, hz⟩
      · -- a new file
        have p' : Fp L (File.mk a.Name a.Data 0).Name A [] B := p
        have hput := putP hN 300 p' (by omega)
        refine fin (A ++ File.mk a.Name a.Data 0 :: B) 0 ?_ ?_ (h.put p rfl hn ⟨Int.le_refl _, by simp⟩ (by rw [usedN_app, usedN_cons]; simp [usedN] at pu ⊢; unfold usedN at *; omega))
        · rw [i0]
          unfold impl_Disk_append_.m
          rw [fI, ob_some, nameI hN _ hn, ob_some, uI]
          have hi : A.length < (A ++ File.mk a.Name ByteArray.empty 0 :: B).length := by simp
          have hg : (A ++ File.mk a.Name ByteArray.empty 0 :: B).getD A.length File.dz = File.mk a.Name ByteArray.empty 0 := by
            rw [getD_at hi, List.getElem_append_right (Nat.le_refl _)]; simp
          have hset : (A ++ File.mk a.Name ByteArray.empty 0 :: B).set A.length (File.mk a.Name a.Data 0) = A ++ File.mk a.Name a.Data 0 :: B := by
            rw [List.set_append_right _ _ (Nat.le_refl _)]; simp
          have he : ByteArray.empty ++ a.Data = a.Data := ByteArray.empty_append
          have hz0 : ByteArray.empty.size + a.Data.size ≤ 9223372036854775807 := by
            have : ByteArray.empty.size = 0 := rfl
            omega
          simp only [Bool.not_true, Bool.not_false, List.isEmpty_nil, cond_false, cond_true, e8, ew, ob_some, decide_eq_false (show ¬ (a.Data.size : Int) > 300 - (usedN L : Int) by omega), insF p (show L.length ≤ 1000 by omega), nn_dec, lt_dec hi, Int.toNat_natCast, hg, he, decide_eq_true hz0, hset]
          rfl
        · rw [s0]
          unfold spec_l03Append.m
          rw [fS, ob_some, nameS hN _ hn, ob_some, uS, if_pos rfl]
          have he : ByteArray.empty ++ a.Data = a.Data := ByteArray.empty_append
          have hz0 : ByteArray.empty.size + a.Data.size ≤ 9223372036854775807 := by
            have : ByteArray.empty.size = 0 := rfl
            omega
          simp only [Bool.not_true, cond_false, cond_true, e8, es, ob_some, decide_eq_false hf, show decide ((-1:Int) < 0) = true from rfl, show decide ((-1:Int) ≥ 0) = false from rfl, decide_eq_true hz0, he, hput]
          rfl
      · -- one that is there
        obtain ⟨hi, hg⟩ := p.hit
        have hzm : z ∈ L := by rw [p.eq]; simp
        have hzs := h.sure z hzm
        have hzu := usedN_mem hzm
        have p' : Fp L (File.mk z.Name (z.Data ++ a.Data) z.Sure).Name A [z] B := by show Fp L z.Name A [z] B; rw [hz]; exact p
        have hput := putP hN 300 p' (by omega)
        have hsz : z.Data.size + a.Data.size ≤ 9223372036854775807 := by omega
        have hset := p.set (File.mk z.Name (z.Data ++ a.Data) z.Sure)
        refine fin (A ++ File.mk z.Name (z.Data ++ a.Data) z.Sure :: B) 0 ?_ ?_ (h.put p hz hn ⟨hzs.1, by show z.Sure ≤ ((z.Data ++ a.Data).size : Int); rw [ByteArray.size_append]; omega⟩ (by
          rw [usedN_app, usedN_cons]
          have e1 : usedN [z] = z.Data.size := by simp [usedN]
          have e2 : (File.mk z.Name (z.Data ++ a.Data) z.Sure).Data.size = z.Data.size + a.Data.size := ByteArray.size_append
          omega))
        · rw [i0]
          unfold impl_Disk_append_.m
          rw [fI, ob_some, nameI hN _ hn, ob_some, uI]
          simp only [Bool.not_true, Bool.not_false, List.isEmpty_cons, cond_false, cond_true, e8, ew, ob_some, decide_eq_false (show ¬ (a.Data.size : Int) > 300 - (usedN L : Int) by omega), nn_dec, lt_dec hi, Int.toNat_natCast, hg, decide_eq_true hsz, hset]
          rfl
        · rw [s0]
          unfold spec_l03Append.m
          rw [fS, ob_some, nameS hN _ hn, ob_some, uS, if_neg (by simp)]
          simp only [Bool.not_true, cond_false, cond_true, e8, es, ob_some, decide_eq_false hf, decide_eq_false (show ¬ (A.length : Int) < 0 by omega), decide_eq_true (show (A.length : Int) ≥ 0 by omega), nn_dec, lt_dec hi, Int.toNat_natCast, hg, decide_eq_true hsz, hput]
          rfl
  -- what is done at a place
  all_goals try
    obtain ⟨A, M, B, p⟩ := fp_of a.Name h.srt
    have pu := p.used
    have pl := p.len
    have fI := fileAtP hN 300 p (by omega)
    have fS := findP hN 300 p (by omega)
    have none_ : M = [] → ∃ (L' : List File) (c : Int), impl_step.m N (Disk.mk 300 L) a = some (Disk.mk 300 L', c) ∧ spec_l03Step.m N (Disk.mk 300 L) a = some (Disk.mk 300 L', c) ∧ DI L' := by
      intro hM
      subst hM
      refine fin L 5 ?_ ?_ h
      · unfold impl_Disk_do.m
        rw [fI, withinM, hK]
        rfl
      · unfold spec_l03Step.m
        rw [fS, hK, if_pos rfl]
        rfl
    rcases p.mid with hM | ⟨z, rfl, hz⟩
    · exact none_ hM
    obtain ⟨hi, hg⟩ := p.hit
    have hzm : z ∈ L := by rw [p.eq]; simp
    have hzs := h.sure z hzm
    have hzu := usedN_mem hzm
    have e1 : usedN [z] = z.Data.size := by simp [usedN]
  · -- sync
    have p' : Fp L (File.mk z.Name z.Data (z.Data.size : Int)).Name A [z] B := by show Fp L z.Name A [z] B; rw [hz]; exact p
    have hput := putP hN 300 p' (by omega)
    refine fin (A ++ File.mk z.Name z.Data (z.Data.size : Int) :: B) 0 ?_ ?_ (h.put p hz hn ⟨by show (0 : Int) ≤ (z.Data.size : Int); omega, Int.le_refl _⟩ (by rw [usedN_app, usedN_cons]; show usedN A + (z.Data.size + usedN B) ≤ 300; omega))
    · unfold impl_Disk_do.m
      rw [fI, withinM, hK]
      simp only [ob_some, List.isEmpty_cons, Bool.not_false, Bool.not_true, cond_false, cond_true, nn_dec, lt_dec hi, Int.toNat_natCast, hg, p.set]
      rfl
    · unfold spec_l03Step.m
      rw [fS, hK, if_neg (by simp)]
      simp only [ob_some, decide_eq_false (show ¬ (A.length : Int) < 0 by omega), cond_false, nn_dec, lt_dec hi, cond_true, Int.toNat_natCast, hg, hput]
      rfl
  · -- rename
    have hdr := h.drop p
    obtain ⟨A', M', B', q⟩ := fp_of a.To hdr.srt
    have ql := q.len
    have qu := q.used
    have hAB : (A ++ B).length = A.length + B.length := List.length_append
    have uAB := usedN_app A B
    have gI := fileAtP hN 300 q (by omega)
    have q' : Fp (A ++ B) (File.mk a.To z.Data z.Sure).Name A' M' B' := q
    have hput := putP hN 300 q' (by omega)
    have hwo := withoutF (N := N) 300 p (by omega)
    have hdl := delF (N := N) p (by omega)
    refine fin (A' ++ File.mk a.To z.Data z.Sure :: B') 0 ?_ ?_ (hdr.put q rfl hto hzs (by
      rw [usedN_app, usedN_cons]
      show usedN A' + (z.Data.size + usedN B') ≤ 300
      omega))
    · have hr : impl_Disk_rename.m N (Disk.mk 300 L) (A.length : Int) a.To = some (0, Disk.mk 300 (A' ++ File.mk a.To z.Data z.Sure :: B')) := by
        unfold impl_Disk_rename.m
        rw [nameI hN _ hto, ob_some]
        simp only [Bool.not_true, cond_false, nn_dec, lt_dec hi, cond_true, hdl, ob_some, gI, Int.toNat_natCast, hg]
        rcases q.mid with rfl | ⟨y, rfl, hy⟩
        · simp only [List.isEmpty_nil, Bool.not_true, cond_false, insF q (show (A ++ B).length ≤ 1000 by omega), ob_some]
        · obtain ⟨hj, _⟩ := q.hit
          simp only [List.isEmpty_cons, Bool.not_false, cond_true, lt_dec hj, q.set]
      unfold impl_Disk_do.m
      rw [fI, withinM, hK]
      simp only [ob_some, List.isEmpty_cons, Bool.not_false, Bool.not_true, cond_false, cond_true, nn_dec, lt_dec hi, hr]
      rfl
    · unfold spec_l03Step.m
      rw [fS, hK, if_neg (by simp)]
      simp only [ob_some, decide_eq_false (show ¬ (A.length : Int) < 0 by omega), cond_false, nn_dec, lt_dec hi, cond_true, Int.toNat_natCast, hg, nameS hN _ hto, Bool.not_true, hwo, hput]
      rfl
  · -- drop
    refine fin (A ++ B) 0 ?_ ?_ (h.drop p)
    · unfold impl_Disk_do.m
      rw [fI, withinM, hK]
      simp only [ob_some, List.isEmpty_cons, Bool.not_false, Bool.not_true, cond_false, cond_true, nn_dec, lt_dec hi, delF (N := N) p (show L.length ≤ 1000 by omega)]
      rfl
    · unfold spec_l03Step.m
      rw [fS, hK, if_neg (by simp)]
      simp only [ob_some, decide_eq_false (show ¬ (A.length : Int) < 0 by omega), cond_false, nn_dec, lt_dec hi, cond_true, withoutF (N := N) 300 p (show L.length ≤ 1000 by omega)]
      rfl
  · -- cut
    by_cases hc : a.N ≤ (z.Data.size : Int)
    · have hw : (decide (a.N ≥ 0) && decide (a.N ≤ (z.Data.size : Int))) = true := by rw [decide_eq_true hn0, decide_eq_true hc]; rfl
      have p' : Fp L (File.mk z.Name (z.Data.extract 0 a.N.toNat) (if a.N < z.Sure then a.N else z.Sure)).Name A [z] B := by show Fp L z.Name A [z] B; rw [hz]; exact p
      have hput := putP hN 300 p' (by omega)
      have hxs := extract_size z.Data a.N.toNat (by omega)
      have g1 : ∀ x : File, (L.set A.length x).getD A.length File.dz = x := fun x => by rw [List.getD_eq_getElem?_getD, List.getElem?_set_self hi]; rfl
      have g2 : ∀ x : File, (A ++ x :: B).getD A.length File.dz = x := fun x => by rw [← p.set x]; exact g1 x
      refine fin (A ++ File.mk z.Name (z.Data.extract 0 a.N.toNat) (if a.N < z.Sure then a.N else z.Sure) :: B) 0 ?_ ?_ (h.put p hz hn ⟨by show (0 : Int) ≤ (if a.N < z.Sure then a.N else z.Sure); split <;> omega, by show (if a.N < z.Sure then a.N else z.Sure) ≤ ((z.Data.extract 0 a.N.toNat).size : Int); rw [hxs]; split <;> omega⟩ (by
        rw [usedN_app, usedN_cons]
        show usedN A + ((z.Data.extract 0 a.N.toNat).size + usedN B) ≤ 300
        omega))
      · unfold impl_Disk_do.m
        rw [fI, withinM, hK]
        simp only [ob_some, List.isEmpty_cons, Bool.not_false, Bool.not_true, cond_false, cond_true, nn_dec, lt_dec hi, Int.toNat_natCast, hg, withinM, hw, g1, g2, List.set_set, p.set, decide_eq_true hn0, decide_eq_true hc]
        rfl
      · unfold spec_l03Step.m
        rw [fS, hK, if_neg (by simp)]
        simp only [ob_some, decide_eq_false (show ¬ (A.length : Int) < 0 by omega), cond_false, nn_dec, lt_dec hi, cond_true, Int.toNat_natCast, hg, inM, hw, Bool.not_true, decide_eq_true hn0, decide_eq_true hc, hput]
        rfl
    · have hw : (decide (a.N ≥ 0) && decide (a.N ≤ (z.Data.size : Int))) = false := by rw [decide_eq_false hc, Bool.and_false]
      refine fin L 4 ?_ ?_ h
      · unfold impl_Disk_do.m
        rw [fI, withinM, hK]
        simp only [ob_some, List.isEmpty_cons, Bool.not_false, Bool.not_true, cond_false, cond_true, nn_dec, lt_dec hi, Int.toNat_natCast, hg, withinM, hw]
        rfl
      · unfold spec_l03Step.m
        rw [fS, hK, if_neg (by simp)]
        simp only [ob_some, decide_eq_false (show ¬ (A.length : Int) < 0 by omega), cond_false, nn_dec, lt_dec hi, cond_true, Int.toNat_natCast, hg, inM, hw]
        rfl
  · -- crash
    refine fin (crL a.Keep L 0) 0 ?_ ?_ (h.crash a.Keep)
    · unfold impl_Disk_do.m
      rw [hK, crashI hN 300 h a.Keep hk]; rfl
    · unfold spec_l03Step.m
      rw [hK, crashS hN 300 h a.Keep hk]; rfl
/-! ### Runs -/
def gAct (a : FileAct) : Prop := okAct a ∧ a.Name.size ≤ 100 ∧ a.To.size ≤ 100 ∧ a.Data.size ≤ 100 ∧ a.Keep.length ≤ 3
theorem runE {N : Nat} (hN : Big N) (acts : List FileAct) (hl : acts.length ≤ 120) (ha : ∀ a ∈ acts, gAct a) : ∃ (L : List File) (cs : List Int), impl_FileRun.m N 300 acts = some (Disk.mk 300 L, cs, 0) ∧ spec_FileRun.m N 300 acts = some (Disk.mk 300 L, cs, 0) ∧ DI L ∧ cs.length = acts.length := by
  have go : ∀ (m i K K' : Nat) (L : List File) (cs : List Int), i + m = acts.length → m < K → m < K' → DI L → cs.length = i → ∃ (L' : List File) (cs' : List Int),
      miter (fun rec => impl_FileRun.step10 N 300 acts rec) K ((acts.length : Int), (i : Int), 0, 300, L, cs) = some (Disk.mk 300 L', cs', 0) ∧ miter (fun rec => spec_FileRun.step10 N 300 acts rec) K' (.s1 (i : Int) 0 300 L cs) = some (Disk.mk 300 L', cs', 0) ∧ DI L' ∧ cs'.length = acts.length := by
    intro m
    induction m with
    | zero =>
      intro i K K' L cs hi hK hK' h hc
      obtain ⟨K, rfl⟩ : ∃ q, K = q + 1 := ⟨K - 1, by omega⟩
      obtain ⟨K', rfl⟩ : ∃ q, K' = q + 1 := ⟨K' - 1, by omega⟩
      have := h.len
      refine ⟨L, cs, ?_, ?_, h, by omega⟩
      · rw [miterS]
        simp only [impl_FileRun.step10, decide_eq_false (show ¬ (i : Int) < (acts.length : Int) by omega), cond_false]
      · rw [miterS]
        simp only [spec_FileRun.step10, decide_eq_false (show ¬ (i : Int) < (acts.length : Int) by omega), cond_false, ownD (N := N) (Disk.mk 300 L) (show L.length ≤ 1000 by omega), ob_some]
    | succ m ih =>
      intro i K K' L cs hi hK hK' h hc
      obtain ⟨K, rfl⟩ : ∃ q, K = q + 1 := ⟨K - 1, by omega⟩
      obtain ⟨K', rfl⟩ : ∃ q, K' = q + 1 := ⟨K' - 1, by omega⟩
      have hi' : i < acts.length := by omega
      obtain ⟨oa, z1, z2, z3, ok⟩ := ha _ (List.getElem_mem hi')
      obtain ⟨L', c, r1, r2, r3⟩ := stepE hN h acts[i] oa
      have hr : room (cs.length + ([c] : List Int).length) 8 = true := roomB (by simp; omega) (by omega)
      obtain ⟨L2, cs2, q1, q2, q3, q4⟩ := ih (i + 1) K K' L' (cs ++ [c]) (by omega) (by omega) (by omega) r3 (by simp; omega)
      refine ⟨L2, cs2, ?_, ?_, q3, q4⟩
      · rw [miterS]
        simp only [impl_FileRun.step10, lt_dec hi', nn_dec, cond_true, Int.toNat_natCast, getD_at hi', r1, ob_some, hr, w_up i _ hi' (show acts.length ≤ 1048576 by omega)]
        exact q1
      · rw [miterS]
        simp only [spec_FileRun.step10, lt_dec hi', nn_dec, cond_true, cond_false, Int.toNat_natCast, getD_at hi', decide_eq_false (show ¬ (acts[i].Name.size : Int) > 65536 by omega), decide_eq_false (show ¬ (acts[i].To.size : Int) > 65536 by omega), decide_eq_false (show ¬ (acts[i].Data.size : Int) > 65536 by omega), decide_eq_false (show ¬ (acts[i].Keep.length : Int) > 4096 by omega), r2, ob_some, hr, w_up i _ hi' (show acts.length ≤ 1048576 by omega)]
        exact q2
  have dE : DI [] := by refine ⟨List.Pairwise.nil, fun f hf => (by cases hf), fun f hf => (by cases hf), ?_⟩; exact Nat.zero_le _
  obtain ⟨L, cs, g1, g2, g3, g4⟩ := go acts.length 0 N N [] [] (by omega) (by omega) (by omega) dE rfl
  refine ⟨L, cs, ?_, ?_, g3, g4⟩
  · unfold impl_FileRun.m impl_isList_impl_FileAct.m impl_NewDisk.m
    rw [decide_eq_true (show (acts.length : Int) ≤ 4096 by omega), withinM, decide_eq_false (show ¬ (acts.length : Int) > 120 by omega)]
    exact g1
  · unfold spec_FileRun.m spec_NewDisk.m
    rw [decide_eq_false (show ¬ (acts.length : Int) > 4096 by omega), inM, decide_eq_false (show ¬ (acts.length : Int) > 120 by omega)]
    refine Eq.trans ?_ g2
    show spec_FileRun.lp10 N 300 acts (.s0 0 0 300 [] []) = _
    unfold spec_FileRun.lp10
    obtain ⟨M, hM⟩ : ∃ M, N = M + 1 := ⟨N - 1, by omega⟩
    have un : ∀ (g : (spec_FileRun.A10 → Option spec_FileRun.R) → (spec_FileRun.A10 → Option spec_FileRun.R)) (s), miter g N s = g (miter g M) s := by rw [hM]; intro g s; rfl
    rw [un, un]
    rfl
/-! ### What is drawn -/
theorem pickF (N : Nat) {s : l00Src} {t : Nat} (h : SrcOK s t) (ht : t ≤ 4000000) (l : List ByteArray) (h1 : 1 < l.length) (h2 : l.length ≤ 256) : ∃ n q, n < l.length ∧ spec_l00Src_pick_.m N s l = some (l.getD n ByteArray.empty, q) ∧ SrcOK q (t + 1) := by
  obtain ⟨b, q, e, b0, b1, hq⟩ := nextS N h ht (show (1:Int) < (l.length : Int) by omega) (by omega)
  refine ⟨b.toNat, q, by omega, ?_, hq⟩
  have hz : ((l.length : Int) == 0) = false := by rw [beq_eq_false_iff_ne]; omega
  unfold spec_l00Src_pick_.m
  rw [hz, cond_false, e, ob_some, decide_eq_true b0, cond_true, decide_eq_true b1, cond_true]
theorem fileNameS (N : Nat) {s : l00Src} {t : Nat} (h : SrcOK s t) (ht : t ≤ 3999990) : ∃ n q, n ∈ fN ∧ spec_l00Src_fileName.m N s = some (n, q) ∧ SrcOK q (t + 1) := by
  obtain ⟨n, q, n1, n2, n3⟩ := pickF N h (by omega) fN (by decide) (by decide)
  refine ⟨fN.getD n ByteArray.empty, q, ?_, ?_, n3⟩
  · rw [getD_at n1]; exact List.getElem_mem _
  · show ob (spec_l00Src_pick_.m N s fN) (fun y2 => some (y2.1, y2.2)) = _
    rw [n2, ob_some]
def fdL : List ByteArray := [(⟨#[97, 98, 99]⟩ : ByteArray), (⟨#[100, 101, 102, 103, 104]⟩ : ByteArray), ByteArray.empty, (⟨#[48, 49, 50, 51, 52, 53, 54, 55, 56, 57]⟩ : ByteArray)]
theorem sizeV (N : Nat) {s : l00Src} {t : Nat} (h : SrcOK s t) {n : Int} (h1 : 1 ≤ n) (hn : n ≤ 1000) : ∃ z : Int, spec_l00Src_size_.m N s n = some z ∧ 1 ≤ z ∧ z ≤ n := by
  unfold spec_l00Src_size_.m
  have hc := h.len
  have e1 : Int.tdiv (s.code.length : Int) 12 = ((s.code.length / 12 : Nat) : Int) := rfl
  have e2 : w64 ((s.code.length / 12 : Nat) : Int) = ((s.code.length / 12 : Nat) : Int) := w_small (by omega) (by omega)
  have e3 : w64 (1 + ((s.code.length / 12 : Nat) : Int)) = 1 + ((s.code.length / 12 : Nat) : Int) := w_small (by omega) (by omega)
  rw [show (!decide ((12:Int) = 0)) = true from rfl, cond_true, e1, e2, e3]
  by_cases hc : n < 1 + ((s.code.length / 12 : Nat) : Int)
  · exact ⟨n, by simp only [if_pos hc], h1, Int.le_refl _⟩
  · exact ⟨1 + ((s.code.length / 12 : Nat) : Int), by simp only [if_neg hc], by omega, by omega⟩
theorem actsS {N : Nat} (hN : Big N) (a0 : l00Src) : ∀ (i K : Nat) (q : l00Src) (t : Nat) (acts : List FileAct), i < K → SrcOK q t → t + 10 * i ≤ 3000000 → acts.length + i ≤ 100 → (∀ a ∈ acts, gAct a) →
    ∃ acts' q', miter (fun rec => spec_l00Src_fileActs.step3 N a0 rec) K ((i : Int), q.code, q.«at», q.seed, acts) = some (acts', q') ∧ acts'.length ≤ 100 ∧ ∀ a ∈ acts', gAct a := by
  have nm : ∀ n ∈ fN, n.size ≤ 100 := by decide
  intro i
  induction i with
  | zero =>
    intro K q t acts hK hq ht hl ha
    obtain ⟨K, rfl⟩ : ∃ j, K = j + 1 := ⟨K - 1, by omega⟩
    rw [miterS]
    simp only [spec_l00Src_fileActs.step3, decide_eq_false (show ¬ ((0 : Nat) : Int) > 0 by omega), cond_false]
    exact ⟨acts, _, rfl, by omega, ha⟩
  | succ i ih =>
    intro K q t acts hK hq ht hl ha
    obtain ⟨K, rfl⟩ : ∃ j, K = j + 1 := ⟨K - 1, by omega⟩
    have w : w64 (((i + 1 : Nat) : Int) - 1) = (i : Int) := by rw [w_small (by omega) (by omega)]; omega
    have rm : ∀ x : FileAct, room (acts.length + ([x] : List FileAct).length) 88 = true := fun x => roomB (by simp; omega) (by omega)
    obtain ⟨n1, q1, a1, a2, a3⟩ := fileNameS N hq (by omega)
    obtain ⟨d, q2, d1, d2, d3⟩ := pickF N a3 (by omega) fdL (by decide) (by decide)
    obtain ⟨b, q3, e, b0, b1, h3⟩ := nextS N d3 (by omega) (show (1:Int) < 10 by omega) (by omega)
    have a2' : spec_l00Src_fileName.m N (l00Src.mk q.code q.«at» q.seed) = some (n1, q1) := a2
    have d2' : spec_l00Src_pick_.m N q1 [(⟨#[97, 98, 99]⟩ : ByteArray), (⟨#[100, 101, 102, 103, 104]⟩ : ByteArray), ByteArray.empty, (⟨#[48, 49, 50, 51, 52, 53, 54, 55, 56, 57]⟩ : ByteArray)] = some (fdL.getD d ByteArray.empty, q2) := d2
    have next : ∀ (x : FileAct) (q' : l00Src) (t' : Nat), gAct x → SrcOK q' t' → t' + 10 * i ≤ 3000000 → ∃ acts' q'', miter (fun rec => spec_l00Src_fileActs.step3 N a0 rec) K ((i : Int), q'.code, q'.«at», q'.seed, acts ++ [x]) = some (acts', q'') ∧ acts'.length ≤ 100 ∧ ∀ a ∈ acts', gAct a := by
      intro x q' t' hx hq' ht'
      refine ih K q' t' (acts ++ [x]) (by omega) hq' ht' (by simp; omega) fun a h => ?_
      rcases List.mem_append.1 h with h | h
      · exact ha a h
      · rw [List.mem_singleton] at h; rw [h]; exact hx
    have z0 : ByteArray.empty.size ≤ 100 := by decide
    rw [miterS]
    simp only [spec_l00Src_fileActs.step3, decide_eq_true (show ((i + 1 : Nat) : Int) > 0 by omega), cond_true, decide_eq_true (show (acts.length : Int) < 120 by omega), a2', ob_some, d2', e, w, rm]
    by_cases c0 : b = 0
    · have e0 : (b == 0) = true := by rw [beq_iff_eq]; exact c0
      obtain ⟨n2, q4, f1, f2, f3⟩ := fileNameS N h3 (by omega)
      simp only [e0, cond_true, f2, ob_some]
      exact next _ q4 _ ⟨.inr (.inl ⟨rfl, f1⟩), nm _ f1, z0, z0, by simp⟩ f3 (by omega)
    have e0 : (b == 0) = false := by rw [beq_eq_false_iff_ne]; exact c0
    by_cases c1 : b = 1
    · have e1 : (b == 1) = true := by rw [beq_iff_eq]; exact c1
      obtain ⟨n2, q4, f1, f2, f3⟩ := fileNameS N h3 (by omega)
      simp only [e0, e1, cond_true, cond_false, f2, ob_some]
      exact next _ q4 _ ⟨.inr (.inl ⟨rfl, f1⟩), nm _ f1, z0, z0, by simp⟩ f3 (by omega)
    have e1 : (b == 1) = false := by rw [beq_eq_false_iff_ne]; exact c1
    by_cases c2 : b = 2
    · have e2 : (b == 2) = true := by rw [beq_iff_eq]; exact c2
      obtain ⟨n2, q4, f1, f2, f3⟩ := fileNameS N h3 (by omega)
      obtain ⟨n3, q5, g1, g2, g3⟩ := fileNameS N f3 (by omega)
      simp only [e0, e1, e2, cond_true, cond_false, f2, g2, ob_some]
      exact next _ q5 _ ⟨.inr (.inr (.inl ⟨rfl, f1, g1⟩)), nm _ f1, nm _ g1, z0, by simp⟩ g3 (by omega)
    have e2 : (b == 2) = false := by rw [beq_eq_false_iff_ne]; exact c2
    by_cases c3 : b = 3
    · have e3 : (b == 3) = true := by rw [beq_iff_eq]; exact c3
      obtain ⟨k, q4, f1, f2, f3, f4⟩ := nextS N h3 (by omega) (show (1:Int) < 2 by omega) (by omega)
      obtain ⟨n3, q5, g1, g2, g3⟩ := fileNameS N f4 (by omega)
      obtain ⟨m, q6, h1, h2, h4, h5⟩ := nextS N g3 (by omega) (show (1:Int) < 9 by omega) (by omega)
      have hk2 : ((([4, 6] : List Int).length : Nat) : Int) = 2 := rfl
      simp only [e0, e1, e2, e3, cond_true, cond_false, f1, g2, h1, ob_some, decide_eq_true f2, hk2, decide_eq_true f3]
      refine next _ q6 _ ⟨?_, nm _ g1, z0, z0, by simp⟩ h5 (by omega)
      by_cases hk0 : k = 0
      · subst hk0
        exact .inr (.inr (.inr (.inl ⟨rfl, g1⟩)))
      · have hk1 : k = 1 := by omega
        subst hk1
        exact .inr (.inr (.inr (.inr (.inl ⟨rfl, g1, h2, by show m ≤ 1000; omega⟩))))
    have e3 : (b == 3) = false := by rw [beq_eq_false_iff_ne]; exact c3
    by_cases c4 : b = 4
    · have e4 : (b == 4) = true := by rw [beq_iff_eq]; exact c4
      obtain ⟨k, q4, f1, f2, f3, f4⟩ := nextS N h3 (by omega) (show (1:Int) < 9 by omega) (by omega)
      obtain ⟨m, q5, g1, g2, g3, g4⟩ := nextS N f4 (by omega) (show (1:Int) < 5 by omega) (by omega)
      obtain ⟨o, q6, h1, h2, h4, h5⟩ := nextS N g4 (by omega) (show (1:Int) < 30 by omega) (by omega)
      have wm : w64 (m - 1) = m - 1 := w_small (by omega) (by omega)
      simp only [e0, e1, e2, e3, e4, cond_true, cond_false, f1, g1, h1, ob_some, wm]
      refine next _ q6 _ ⟨.inr (.inr (.inr (.inr (.inr ⟨rfl, fun x hx => ?_⟩)))), z0, z0, z0, by simp⟩ h5 (by omega)
      simp only [List.mem_cons, List.not_mem_nil, or_false] at hx
      rcases hx with rfl | rfl | rfl <;> omega
    have e4 : (b == 4) = false := by rw [beq_eq_false_iff_ne]; exact c4
    simp only [e0, e1, e2, e3, e4, cond_false]
    have hd : (fdL.getD d ByteArray.empty).size ≤ 20 := by
      have : ∀ n, n < 4 → (fdL.getD n ByteArray.empty).size ≤ 20 := by decide
      exact this d d1
    exact next _ q3 _ ⟨.inl ⟨rfl, a1, hd⟩, nm _ a1, z0, by show (fdL.getD d ByteArray.empty).size ≤ 100; omega, by simp⟩ h3 (by omega)
theorem actsOf {N : Nat} (hN : Big N) (a : List Int) (hl : a.length ≤ 1048576) (hb' : ∀ x ∈ a, 0 ≤ x ∧ x < 256) : ∃ acts, spec_FileActsOf.m N a = some acts ∧ acts.length ≤ 100 ∧ ∀ x ∈ acts, gAct x := by
  have h := srcNew (show a.length ≤ 2000000 by omega) hb'
  obtain ⟨z, z1, z2, z3⟩ := sizeV N h (show (1:Int) ≤ 20 by omega) (by omega)
  obtain ⟨n, q, e, n0, n1, hq⟩ := nextS N h (by omega) (show (1:Int) < z + 3 by omega) (by omega)
  have w : w64 (z + 3) = z + 3 := w_small (by omega) (by omega)
  obtain ⟨i, rfl⟩ : ∃ i : Nat, n = (i : Int) := ⟨n.toNat, by omega⟩
  obtain ⟨acts, q', r1, r2, r3⟩ := actsS hN (l00Src.mk a 0 (Int.tmod (a.length : Int) 1000)) i N q 1 [] (by omega) hq (by omega) (by simp; omega) (fun x hx => by cases hx)
  refine ⟨acts, ?_, r2, r3⟩
  have r1' : spec_l00Src_fileActs.lp3 N (l00Src.mk a 0 (Int.tmod (a.length : Int) 1000)) ((i : Int), q.code, q.«at», q.seed, []) = some (acts, q') := r1
  unfold spec_FileActsOf.m spec_l00Src_fileActs.m
  rw [srcS, ob_some, z1, ob_some, w, e, ob_some, r1', ob_some]
/-! ### FnFiles -/
theorem okD {N : Nat} (hN : Big N) (h : DI L) : impl_DiskOK.m N (Disk.mk 300 L) = some true := by
  have hl := h.len
  have hu := h.used
  unfold impl_DiskOK.m
  rw [withinM, ob_some, usedI hN 300 (by omega) (by omega)]
  simp only [ob_some, show (decide ((300:Int) ≥ 0) && decide ((300:Int) ≤ 3000)) = true from rfl, Bool.not_true, cond_false, decide_eq_false (show ¬ (L.length : Int) > 8 by omega), decide_eq_false (show ¬ (usedN L : Int) > 300 by omega)]
  unfold impl_DiskOK.lp4
  exact miter_up (step := fun rec => impl_DiskOK.step4 N (Disk.mk 300 L) rec) (n := L.length) (st := fun i => ((L.length : Int), (i : Int))) (fun i hi rec => by
    have hm := List.getElem_mem hi
    have hs := h.sure _ hm
    have hw : (decide (L[i].Sure ≥ 0) && decide (L[i].Sure ≤ (L[i].Data.size : Int))) = true := by rw [decide_eq_true hs.1, decide_eq_true hs.2]; rfl
    simp only [impl_DiskOK.step4, lt_dec hi, nn_dec, cond_true, Int.toNat_natCast, getD_at hi, nameI hN _ (h.nm _ hm), ob_some, Bool.not_true, cond_false, withinM, hw]
    by_cases h0 : 0 < i
    · have hd : w64 ((i : Int) - 1) = ((i - 1 : Nat) : Int) := w_dn i h0 (by omega)
      have hlt : slt L[i - 1].Name L[i].Name = true := List.pairwise_iff_getElem.1 h.srt (i - 1) i (by omega) hi (by omega)
      simp only [decide_eq_true (show (i : Int) > 0 by omega), cond_true, hd, nn_dec, lt_dec (show i - 1 < L.length by omega), Int.toNat_natCast, getD_at (show i - 1 < L.length by omega), hlt, Bool.not_true, cond_false]
      rw [w_up i _ hi (by omega)]
    · rw [decide_eq_false (show ¬ (i : Int) > 0 by omega), cond_false, w_up i _ hi (by omega)]) (fun rec => by simp [impl_DiskOK.step4]) L.length 0 N (by omega) (by omega)
theorem sameD {N : Nat} (hN : Big N) (d : Disk) (hl : d.Files.length ≤ 1000) : laws_sameDisk.m N d d = some true := by
  unfold laws_sameDisk.m laws_sameDisk.lp4
  simp only [bne_self_eq_false, cond_false]
  exact miter_up (step := fun rec => laws_sameDisk.step4 N d d rec) (n := d.Files.length) (st := fun i => (i : Int)) (fun i hi rec => by
    simp only [laws_sameDisk.step4, lt_dec hi, nn_dec, cond_true, Int.toNat_natCast, getD_at hi, seq_t.2 rfl, beq_self_eq_true, Bool.and_self, Bool.not_true, cond_false]
    rw [w_up i _ hi (by omega)]) (fun rec => by simp [laws_sameDisk.step4]) d.Files.length 0 N (by omega) (by omega)
theorem sameI {N : Nat} (hN : Big N) (l : List Int) (hl : l.length ≤ 1000) : laws_sameInts.m N l l = some true := by
  unfold laws_sameInts.m laws_sameInts.lp4
  simp only [bne_self_eq_false, cond_false]
  exact miter_up (step := fun rec => laws_sameInts.step4 N l l rec) (n := l.length) (st := fun i => (i : Int)) (fun i hi rec => by
    simp only [laws_sameInts.step4, lt_dec hi, nn_dec, cond_true, Int.toNat_natCast, bne_self_eq_false, cond_false]
    rw [w_up i _ hi (by omega)]) (fun rec => by simp [laws_sameInts.step4]) l.length 0 N (by omega) (by omega)
theorem Fp.there (p : Fp L n A M B) {z : File} (hz : z ∈ L) (he : z.Name = n) : M = [z] := by
  rw [p.eq] at hz
  rcases List.mem_append.1 hz with hz | hz
  · exact absurd he (slt_ne (p.lo z hz))
  · rcases List.mem_append.1 hz with hz | hz
    · rcases p.mid with rfl | ⟨y, rfl, _⟩
      · cases hz
      · rw [List.mem_singleton] at hz; rw [hz]
    · exact absurd he.symm (slt_ne (p.hi z hz))
theorem textF {N : Nat} (hN : Big N) (s : ByteArray) (h : s.size ≤ 65536) : impl_isText.m N [s] = some true := by
  obtain ⟨M, rfl⟩ : ∃ M, N = M + 9 := ⟨N - 9, by omega⟩
  unfold impl_isText.m slices_ContainsFunc_string_string__impl_isText_1.m slices_IndexFunc_string_string__impl_isText_1.m
  have : slices_IndexFunc_string_string__impl_isText_1.lp2 (M + 9) [s] ((([s] : List ByteArray).length : Int), 0) = bif decide ((s.size : Int) > 65536) then some 0 else some (-1) := by
    unfold slices_IndexFunc_string_string__impl_isText_1.lp2
    kernel_rfl
  rw [this, decide_eq_false (show ¬ (s.size : Int) > 65536 by omega)]
  rfl
theorem dataD {N : Nat} (hN : Big N) (h : DI L) {f : File} (hf : f ∈ L) : impl_FileData.m N (Disk.mk 300 L) f.Name = some (f.Data, 0) := by
  have hl := h.len
  have nm : ∀ n ∈ fN, n.size ≤ 100 := by decide
  have := nm _ (h.nm f hf)
  obtain ⟨A, M, B, p⟩ := fp_of f.Name h.srt
  obtain rfl := p.there hf rfl
  obtain ⟨h1, h2⟩ := p.hit
  unfold impl_FileData.m
  rw [textF hN _ (by omega), ob_some, okD hN h, ob_some, fileAtP hN 300 p (by omega)]
  simp only [ob_some, Bool.not_true, cond_false, List.isEmpty_cons, Bool.not_false, nn_dec, lt_dec h1, cond_true, Int.toNat_natCast, h2]
theorem stepCrash {N : Nat} (hN : Big N) (h : DI L) (keep : List Int) (hk : ∀ k ∈ keep, (-1000 : Int) ≤ k ∧ k ≤ 1000) : impl_FileStep.m N (Disk.mk 300 L) (FileAct.mk 5 0 ByteArray.empty ByteArray.empty ByteArray.empty keep) = some (Disk.mk 300 (crL keep L 0), 0) := by
  have hl := h.len
  unfold impl_FileStep.m impl_step.m impl_Disk_do.m
  rw [okD hN h, ob_some, copyD (N := N) (Disk.mk 300 L) (show L.length ≤ 1000 by omega)]
  simp only [Bool.not_true, cond_false, ob_some, show ((5:Int) == 1) = false from rfl, show ((5:Int) == 5) = true from rfl, cond_true]
  rw [crashI hN 300 h keep hk]
  rfl
theorem crF_sure (f : File) (h : f.Sure = (f.Data.size : Int)) : crF f none = f := by
  obtain ⟨nm, d, s⟩ := f
  have h : s = (d.size : Int) := h
  subst h
  unfold crF keepN
  simp only [Int.toNat_natCast]
  have : d.extract 0 d.size = d := by simp
  rw [this]
theorem crL_nil : ∀ (l : List File) (i : Nat), (∀ f ∈ l, f.Sure = (f.Data.size : Int)) → crL [] l i = l
  | [], _, _ => rfl
  | f :: r, i, h => by
    simp only [crL]
    rw [show ([] : List Int)[i]? = none from rfl, crF_sure f (h f List.mem_cons_self), crL_nil r (i + 1) fun x hx => h x (List.mem_cons_of_mem _ hx)]
theorem pureFnFiles (a0 a1 : List Int) (h0 : ∃ n, WfE E (WfA E n) (.slice 5 (.int .u8)) a0) (h1 : ∃ n, WfE E (WfA E n) (.slice 5 (.int .u8)) a1) : ∃ N, laws_FnFiles.m N a0 a1 = some true := by
  have w0 := wfBytes h0
  have w1 := wfBytes h1
  refine ⟨16777216, ?_⟩
  have hN : Big 16777216 := Nat.le_refl _
  generalize 16777216 = N at hN
  unfold laws_FnFiles.m
  by_cases c0 : (a0.length : Int) > 1048576
  · rw [decide_eq_true c0]; rfl
  by_cases c1 : (a1.length : Int) > 1048576
  · rw [decide_eq_true c1, decide_eq_false c0]; rfl
  obtain ⟨acts, t1, t2, t3⟩ := actsOf hN a0 (by omega) w0
  obtain ⟨L, cs, r1, r2, hD, r4⟩ := runE hN acts (by omega) t3
  have hl := hD.len
  have hu := hD.used
  obtain ⟨x, x1, x2, x3⟩ := lawsAt N a1 0 30 (by omega) w1 (by omega) (by omega) (by omega) (by omega)
  obtain ⟨y, y1, y2, y3⟩ := lawsAt N a1 1 30 (by omega) w1 (by omega) (by omega) (by omega) (by omega)
  obtain ⟨z, z1, z2, z3⟩ := lawsAt N a1 2 9 (by omega) w1 (by omega) (by omega) (by omega) (by omega)
  have wy : w64 (y - 3) = y - 3 := w_small (by omega) (by omega)
  have hk : ∀ k ∈ ([x, y - 3, z] : List Int), (-1000 : Int) ≤ k ∧ k ≤ 1000 := by
    intro k hk
    simp only [List.mem_cons, List.not_mem_nil, or_false] at hk
    rcases hk with rfl | rfl | rfl <;> omega
  have hX := hD.crash [x, y - 3, z]
  have used_ : impl_DiskUsed.m N (Disk.mk 300 L) = some ((usedN L : Int), 0) := by
    unfold impl_DiskUsed.m
    rw [okD hN hD, ob_some, usedI hN 300 (by omega) (by omega)]; rfl
  rw [decide_eq_false c0, decide_eq_false c1, t1, ob_some, r1, ob_some, r2, ob_some, used_, ob_some]
  simp only [cond_false, bne_self_eq_false, sameI hN cs (show cs.length ≤ 1000 by omega), ob_some, Bool.not_true, sameD hN (Disk.mk 300 L) (show L.length ≤ 1000 by omega), okD hN hD, decide_eq_false (show ¬ (usedN L : Int) > 300 by omega), x1, y1, z1, wy, stepCrash hN hD _ hk, crL_length]
  unfold laws_FnFiles.lp14
  generalize hkeep : ([x, y - 3, z] : List Int) = keep at hk hX
  have hcl : (crL keep L 0).length = L.length := crL_length _ _ _
  exact miter_up (step := fun rec => laws_FnFiles.step14 N a0 a1 rec) (n := L.length) (st := fun i => ((i : Int), (300 : Int), L, (300 : Int), crL keep L 0)) (fun i hi rec => by
    have hs := hD.sure _ (List.getElem_mem hi)
    have hi' : i < (crL keep L 0).length := by omega
    have hg : (crL keep L 0)[i] = crF L[i] keep[i]? := by rw [crL_get keep L 0 i hi, Nat.zero_add]
    have hz := crF_size L[i] keep[i]? hs
    have hkb := keepN_b L[i] keep[i]? hs
    have hdat := dataD hN hX (List.getElem_mem hi')
    rw [hg, show (crF L[i] keep[i]?).Name = L[i].Name from rfl] at hdat
    have hn : (crF L[i] keep[i]?).Name = L[i].Name := rfl
    have hsu : (crF L[i] keep[i]?).Sure = keepN L[i] keep[i]? := rfl
    have hpre : L[i].Data.extract 0 (crF L[i] keep[i]?).Data.size = (crF L[i] keep[i]?).Data := by
      show L[i].Data.extract 0 (crF L[i] keep[i]?).Data.size = L[i].Data.extract 0 (keepN L[i] keep[i]?).toNat
      congr 1
      omega
    simp only [laws_FnFiles.step14, lt_dec hi', lt_dec hi, nn_dec, cond_true, Int.toNat_natCast, getD_at hi, getD_at hi', hg, hdat, ob_some, bne_self_eq_false, cond_false, seq_t.2 rfl, Bool.not_true, hn, hz, hsu, decide_eq_false (show ¬ keepN L[i] keep[i]? < L[i].Sure by omega), decide_eq_false (show ¬ keepN L[i] keep[i]? > (L[i].Data.size : Int) by omega), decide_eq_true (show 0 ≤ keepN L[i] keep[i]? by omega), decide_eq_true hkb.2]
    have hpre2 : L[i].Data.extract 0 (keepN L[i] keep[i]?).toNat = (crF L[i] keep[i]?).Data := rfl
    rw [hpre2, seq_t.2 rfl]
    simp only [Bool.not_true, cond_false]
    rw [w_up i _ hi (by omega)]) (fun rec => by
    have hs2 : ∀ f ∈ crL keep L 0, f.Sure = (f.Data.size : Int) := by
      intro f hf
      obtain ⟨g, g1, k, rfl⟩ := crL_mem keep L 0 f hf
      exact (crF_size g k (hD.sure g g1)).symm
    simp only [laws_FnFiles.step14, hcl, ge_dec, cond_false, stepCrash hN hX [] (fun k hk => by cases hk), ob_some, beq_self_eq_true, cond_true, crL_nil _ 0 hs2, sameD hN (Disk.mk 300 (crL keep L 0)) (show (crL keep L 0).length ≤ 1000 by omega)]) L.length 0 N (by omega) (by omega)
end Mir.Y
