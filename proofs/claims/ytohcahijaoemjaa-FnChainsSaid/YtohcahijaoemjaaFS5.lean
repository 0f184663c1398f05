/- Pure laws: PublicRoot, Digits. -/
import Derived.Test.YtohcahijaoemjaaFS4
namespace Mir.Y
set_option linter.unusedVariables false
set_option linter.unusedSimpArgs false
open Go
def leaf4 (s : ByteArray) : List ByteArray := [leafK s 0, leafK s 1, leafK s 2, leafK s 3]
theorem specLeaves {N : Nat} (hN : Big N) (s : ByteArray) (hs : s.size = 32) : spec_l08Leaves.m N s = some (leaf4 s) := by
  unfold spec_l08Leaves.m spec_l08Leaves.lp3
  exact miter_up (step := fun rec => spec_l08Leaves.step3 N s rec) (n := 4) (st := fun j => ((j : Int), (List.range j).map fun (i : Nat) => leafK s (i : Int))) (fun j hj rec => by
    simp only [spec_l08Leaves.step3, decide_eq_true (show (j : Int) < 4 by omega), cond_true, specLeaf hN s _ hs, ob_some]
    rw [room16 (by simp; omega), cond_true, w_up j 4 hj (by omega), List.range_succ, List.map_append]
    rfl) (fun rec => by rfl) 4 0 N (by omega) (by omega)
theorem implLeaves {N : Nat} (hN : Big N) (s : ByteArray) (hs : s.size = 32) : impl_keyLeaves.m N s = some (leaf4 s) := by
  unfold impl_keyLeaves.m impl_keyLeaves.lp3
  exact miter_up (step := fun rec => impl_keyLeaves.step3 N s rec) (n := 4) (st := fun j => ((j : Int), (List.range j).map fun (i : Nat) => leafK s (i : Int))) (fun j hj rec => by
    simp only [impl_keyLeaves.step3, decide_eq_true (show (j : Int) < 4 by omega), cond_true, implLeaf hN s _ hs, ob_some]
    rw [room16 (by simp; omega), cond_true, w_up j 4 hj (by omega), List.range_succ, List.map_append]
    rfl) (fun rec => by rfl) 4 0 N (by omega) (by omega)
def ndH (a b : ByteArray) : ByteArray := hb ((⟨#[1]⟩ ++ a) ++ b)
theorem specNode {N : Nat} (hN : Big N) (a b : ByteArray) (ha : a.size = 32) (hb' : b.size = 32) : spec_l06Node.m N a b = some (ndH a b) := by
  unfold spec_l06Node.m
  have hb1 : ([(1:Int)] ++ bytesOf a) ++ bytesOf b = bytesOf ((⟨#[1]⟩ ++ a) ++ b) := by
    rw [bytesOf_append, bytesOf_append]; rfl
  have hsz : ((⟨#[1]⟩ ++ a) ++ b : ByteArray).size = 65 := by
    rw [size_append, size_append, ha, hb']; rfl
  rw [roomS (by rw [bytesOf_length, ha]; simp), roomS (by rw [List.length_append, bytesOf_length, bytesOf_length, ha, hb']; simp), cond_true, cond_true, hb1, specHash hN _ (by omega)]
  rfl
theorem implNode {N : Nat} (hN : Big N) (a b : ByteArray) (ha : a.size = 32) (hb' : b.size = 32) : impl_nodeHash.m N a b = some (ndH a b) := by
  unfold impl_nodeHash.m
  have hsz : ((⟨#[1]⟩ ++ a) ++ b : ByteArray).size = 65 := by
    rw [size_append, size_append, ha, hb']; rfl
  simp only [size_append, q1, ha, hb']
  rw [cap63 (by omega), cap63 (by omega), cond_true, cond_true, implHash hN _ (by omega)]
  rfl
theorem sTree1 (M n : Nat) (a : ByteArray) : spec_l06Tree.mF (M + 9) (n + 1) [a] = some a := by kernel_rfl
theorem sTree2 (M n : Nat) (a b : ByteArray) : spec_l06Tree.mF (M + 9) (n + 2) [a, b] = ob (spec_l06Node.m (M + 9) a b) fun y => some y := by kernel_rfl
theorem sTree4 (M n : Nat) (a b c d : ByteArray) : spec_l06Tree.mF (M + 9) (n + 3) [a, b, c, d] = ob (spec_l06Tree.mF (M + 9) (n + 2) [a, b]) fun y3 => ob (spec_l06Tree.mF (M + 9) (n + 2) [c, d]) fun y4 => ob (spec_l06Node.m (M + 9) y3 y4) fun y => some y := by kernel_rfl
theorem iTree2 (M n : Nat) (a b : ByteArray) : impl_treeHash.mF (M + 9) (n + 2) [a, b] = ob (impl_nodeHash.m (M + 9) a b) fun y => some y := by kernel_rfl
theorem iTree4 (M n : Nat) (a b c d : ByteArray) : impl_treeHash.mF (M + 9) (n + 3) [a, b, c, d] = ob (impl_treeHash.mF (M + 9) (n + 2) [a, b]) fun y3 => ob (impl_treeHash.mF (M + 9) (n + 2) [c, d]) fun y4 => ob (impl_nodeHash.m (M + 9) y3 y4) fun y => some y := by kernel_rfl
theorem leafK_size (s : ByteArray) (i : Int) : (leafK s i).size = 32 := hb_size _
theorem ndH_size (a b : ByteArray) : (ndH a b).size = 32 := hb_size _
def rootH (s : ByteArray) : ByteArray := ndH (ndH (leafK s 0) (leafK s 1)) (ndH (leafK s 2) (leafK s 3))
theorem specTree {N : Nat} (hN : Big N) (s : ByteArray) : spec_l06Tree.m N (leaf4 s) = some (rootH s) := by
  obtain ⟨M, rfl⟩ : ∃ M, N = M + 9 := ⟨N - 9, by omega⟩
  show spec_l06Tree.mF (M + 9) ((M + 6) + 3) [leafK s 0, leafK s 1, leafK s 2, leafK s 3] = _
  rw [sTree4, sTree2, sTree2, specNode hN _ _ (leafK_size s 0) (leafK_size s 1), specNode hN _ _ (leafK_size s 2) (leafK_size s 3)]
  simp only [ob_some]
  rw [specNode hN _ _ (ndH_size _ _) (ndH_size _ _)]
  rfl
theorem implTree {N : Nat} (hN : Big N) (s : ByteArray) : impl_treeHash.m N (leaf4 s) = some (rootH s) := by
  obtain ⟨M, rfl⟩ : ∃ M, N = M + 9 := ⟨N - 9, by omega⟩
  show impl_treeHash.mF (M + 9) ((M + 6) + 3) [leafK s 0, leafK s 1, leafK s 2, leafK s 3] = _
  rw [iTree4, iTree2, iTree2, implNode hN _ _ (leafK_size s 0) (leafK_size s 1), implNode hN _ _ (leafK_size s 2) (leafK_size s 3)]
  simp only [ob_some]
  rw [implNode hN _ _ (ndH_size _ _) (ndH_size _ _)]
  rfl
def rootR (s : ByteArray) : ByteArray × Int := bif decide ((s.size : Int) > 65536) then (ByteArray.empty, 2) else bif (s.size : Int) != 32 then (ByteArray.empty, 1) else (rootH s, 0)
theorem implRootR {N : Nat} (hN : Big N) (s : ByteArray) : impl_PublicRoot.m N s = some (rootR s) := by
  unfold impl_PublicRoot.m rootR
  simp only [seedCode hN, ob_some]
  cases decide ((s.size : Int) > 65536) with
  | true => rfl
  | false =>
    cases h1 : (s.size : Int) != 32 with
    | true => rfl
    | false =>
      rw [implLeaves hN s (sz32 h1)]
      have e0 : inB 0 0 3 = true := by decide
      rw [e0]
      simp only [cond_false, cond_true, ob_some, bne_self_eq_false]
      rw [implTree hN s]
      rfl
/-! ### Digits -/
theorem byteS : ∀ n, n < 256 → w64 (wu8 (Int.tdiv ((n : Nat) : Int) 16)) = ((n / 16 : Nat) : Int) ∧ w64 (Int.tmod ((n : Nat) : Int) 16) = ((n % 16 : Nat) : Int) := by decide +kernel
theorem byteI : ∀ n, n < 256 → w64 (Int.fdiv ((n : Nat) : Int) (2 ^ (min (Int.toNat (4:Int)) 8))) = ((n / 16 : Nat) : Int) ∧ w64 (ibit .and .u8 ((n : Nat) : Int) 15) = ((n % 16 : Nat) : Int) := by decide +kernel
def by8 (h : ByteArray) (j : Nat) : Nat := (sb h (j : Int)).toNat
theorem by8_eq (h : ByteArray) (j : Nat) : sb h (j : Int) = ((by8 h j : Nat) : Int) ∧ by8 h j < 256 := by
  have := sb_range h (j : Int)
  unfold by8
  omega
def dgs (h : ByteArray) (n : Nat) : List Int := (List.range n).flatMap fun j => [((by8 h j / 16 : Nat) : Int), ((by8 h j % 16 : Nat) : Int)]
theorem dgs_length (h : ByteArray) : ∀ n, (dgs h n).length = 2 * n
  | 0 => rfl
  | n + 1 => by
    have := dgs_length h n
    simp only [dgs] at this ⊢
    rw [List.range_succ, List.flatMap_append, List.length_append, this]
    simp; omega
theorem dgs_snoc (h : ByteArray) (n : Nat) : dgs h n ++ [((by8 h n / 16 : Nat) : Int), ((by8 h n % 16 : Nat) : Int)] = dgs h (n + 1) := by
  simp only [dgs]
  rw [List.range_succ, List.flatMap_append]
  rfl
theorem room8 {n : Nat} (h : n ≤ 4096) : room n 8 = true := by simp only [room, decide_eq_true_eq]; omega
def sumI (h : ByteArray) : Nat → Int
  | 0 => 0
  | j + 1 => sumI h j + (30 - ((by8 h j / 16 : Nat) : Int) - ((by8 h j % 16 : Nat) : Int))
theorem sumI_le (h : ByteArray) : ∀ j, 0 ≤ sumI h j ∧ sumI h j ≤ 30 * j
  | 0 => ⟨Int.le_refl _, Int.le_refl _⟩
  | j + 1 => by
    obtain ⟨a, b⟩ := sumI_le h j
    have := (by8_eq h j).2
    simp only [sumI]
    omega
def sumS (l : List Int) : Nat → Int
  | 0 => 0
  | j + 1 => sumS l j + (15 - l.getD j 0)
theorem sumS_le (l : List Int) (hl : ∀ j, 0 ≤ l.getD j 0 ∧ l.getD j 0 ≤ 15) : ∀ j, 0 ≤ sumS l j ∧ sumS l j ≤ 15 * j
  | 0 => ⟨Int.le_refl _, Int.le_refl _⟩
  | j + 1 => by
    obtain ⟨a, b⟩ := sumS_le l hl j
    have := hl j
    simp only [sumS]
    omega
theorem sum_eq (h : ByteArray) : sumS (dgs h 8) 16 = sumI h 8 := by
  simp only [sumS, sumI]
  simp only [dgs, List.range, List.range.loop, List.flatMap_cons, List.flatMap_nil, List.cons_append, List.nil_append, List.getD_cons_zero, List.getD_cons_succ, List.append_nil]
  omega
theorem dgs_range (h : ByteArray) : ∀ j, 0 ≤ (dgs h 8).getD j 0 ∧ (dgs h 8).getD j 0 ≤ 15 := by
  intro j
  rw [List.getD_eq_getElem?_getD]
  cases hj : (dgs h 8)[j]? with
  | none => exact ⟨Int.le_refl _, by decide⟩
  | some x =>
    have hm := List.mem_of_getElem? hj
    simp only [dgs, List.mem_flatMap] at hm
    obtain ⟨i, _, hx⟩ := hm
    have := (by8_eq h i).2
    simp only [List.mem_cons, List.not_mem_nil, or_false] at hx
    simp only [Option.getD_some]
    rcases hx with rfl | rfl <;> omega
def digB (s : ByteArray) : List Int := dgs (hb s) 8 ++ [w64 (Int.tdiv (sumI (hb s) 8) 16), Int.tmod (sumI (hb s) 8) 16]
theorem digB_length (s : ByteArray) : (digB s).length = 18 := by
  unfold digB
  rw [List.length_append, dgs_length]; rfl
theorem specDigits {N : Nat} (hN : Big N) (s : ByteArray) (h : s.size ≤ 2097152) : spec_l08Digits.m N s = some (digB s) := by
  unfold spec_l08Digits.m
  rw [specHash hN s h, ob_some]
  have hsz := hb_size s
  have hd : digB s = dgs (hb s) 8 ++ [w64 (Int.tdiv (sumI (hb s) 8) 16), Int.tmod (sumI (hb s) 8) 16] := rfl
  rw [hd]
  generalize hb s = q at hsz
  have h5 : spec_l08Digits.lp5 N s (q, 0, 0, []) = spec_l08Digits.lp9 N s (0, 0, dgs q 8) := by
    unfold spec_l08Digits.lp5
    exact miter_up (step := fun rec => spec_l08Digits.step5 N s (spec_l08Digits.lp9 N s) rec) (n := 8) (st := fun j => (q, (0:Int), (j : Int), dgs q j)) (fun j hj rec => by
      obtain ⟨b1, b2⟩ := by8_eq q j
      obtain ⟨c1, c2⟩ := byteS _ b2
      simp only [spec_l08Digits.step5, decide_eq_true (show (j : Int) < 8 by omega), nn_dec, cond_true, hsz, decide_eq_true (show (j : Int) < ((32 : Nat) : Int) by omega), show (!decide ((16:Int) = 0)) = true from rfl, b1, c1, c2]
      rw [room8 (by rw [dgs_length]; simp; omega), cond_true, dgs_snoc, w_up j 8 hj (by omega)]) (fun rec => by rfl) 8 0 N (by omega) (by omega)
  rw [h5]
  have hr := dgs_range q
  have hl := dgs_length q 8
  rw [← sum_eq]
  generalize dgs q 8 = l at hr hl
  unfold spec_l08Digits.lp9
  exact miter_up (step := fun rec => spec_l08Digits.step9 N s rec) (n := 16) (st := fun j => (sumS l j, (j : Int), l)) (fun j hj rec => by
    obtain ⟨b1, b2⟩ := sumS_le l hr j
    obtain ⟨c1, c2⟩ := hr j
    have e1 : w64 (15 - l.getD j 0) = 15 - l.getD j 0 := w_small (by omega) (by omega)
    have e2 : w64 (sumS l j + (15 - l.getD j 0)) = sumS l (j + 1) := w_small (by omega) (by omega)
    simp only [spec_l08Digits.step9, decide_eq_true (show (j : Int) < 16 by omega), nn_dec, cond_true, hl, decide_eq_true (show (j : Int) < ((2 * 8 : Nat) : Int) by omega), Int.toNat_natCast, e1, e2]
    rw [w_up j 16 hj (by omega)]) (fun rec => by
    simp only [spec_l08Digits.step9, decide_eq_false (show ¬ ((16 : Nat) : Int) < 16 by omega), cond_false, show (!decide ((16:Int) = 0)) = true from rfl, cond_true]
    rw [room8 (by rw [hl]; simp), cond_true]) 16 0 N (by omega) (by omega)
theorem implDigits {N : Nat} (hN : Big N) (s : ByteArray) (h : s.size ≤ 2097152) : impl_digits.m N s = some (digB s) := by
  unfold impl_digits.m
  rw [implHash hN s h, ob_some]
  have hsz := hb_size s
  unfold digB
  generalize hb s = q at hsz
  unfold impl_digits.lp4
  exact miter_up (step := fun rec => impl_digits.step4 N s rec) (n := 8) (st := fun j => (sumI q j, q, (j : Int), dgs q j)) (fun j hj rec => by
    obtain ⟨b1, b2⟩ := by8_eq q j
    obtain ⟨c1, c2⟩ := byteI _ b2
    obtain ⟨s1, s2⟩ := sumI_le q j
    have e1 : w64 ((30:Int) - ((by8 q j / 16 : Nat) : Int)) = 30 - ((by8 q j / 16 : Nat) : Int) := w_small (by omega) (by omega)
    have e2 : w64 ((30:Int) - ((by8 q j / 16 : Nat) : Int) - ((by8 q j % 16 : Nat) : Int)) = 30 - ((by8 q j / 16 : Nat) : Int) - ((by8 q j % 16 : Nat) : Int) := w_small (by omega) (by omega)
    have e3 : w64 (sumI q j + (30 - ((by8 q j / 16 : Nat) : Int) - ((by8 q j % 16 : Nat) : Int))) = sumI q (j + 1) := w_small (by omega) (by omega)
    simp only [impl_digits.step4, decide_eq_true (show (j : Int) < 8 by omega), nn_dec, cond_true, hsz, decide_eq_true (show (j : Int) < ((32 : Nat) : Int) by omega), show (!decide ((4:Int) < 0)) = true from rfl, b1, c1, c2, e1, e2, e3]
    rw [room8 (by rw [dgs_length]; simp; omega), cond_true, dgs_snoc, w_up j 8 hj (by omega)]) (fun rec => by
    simp only [impl_digits.step4, decide_eq_false (show ¬ ((8 : Nat) : Int) < 8 by omega), cond_false, show (!decide ((16:Int) = 0)) = true from rfl, cond_true]
    rw [room8 (by rw [dgs_length]; simp), cond_true]) 8 0 N (by omega) (by omega)
def digR (s : ByteArray) : List Int × Int := bif decide ((s.size : Int) > 65536) then ([], 2) else (digB s, 0)
theorem specDigR {N : Nat} (hN : Big N) (s : ByteArray) (h : s.size ≤ 2097152) : spec_Digits.m N s = some (digR s) := by
  unfold spec_Digits.m digR
  rw [specDigits hN s h]
  cases decide ((s.size : Int) > 65536) <;> rfl
theorem implDigR {N : Nat} (hN : Big N) (s : ByteArray) (h : s.size ≤ 2097152) : impl_Digits.m N s = some (digR s) := by
  unfold impl_Digits.m digR
  rw [isText1 hN, implDigits hN s h]
  cases decide ((s.size : Int) > 65536) <;> rfl
end Mir.Y
