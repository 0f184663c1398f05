/- Pure laws: SignWith, SignNext. -/
import Derived.Test.YtohcahijaoemjaaFS7
namespace Mir.Y
set_option linter.unusedVariables false
set_option linter.unusedSimpArgs false
open Go
/-! ### Ways up -/
theorem sT1 (M : Nat) (a : ByteArray) : spec_l06Tree.m (M + 9) [a] = some a := by
  show spec_l06Tree.mF (M + 9) ((M + 8) + 1) [a] = _
  exact sTree1 M (M + 8) a
theorem sT2 {M : Nat} (hN : Big (M + 9)) (a b : ByteArray) (ha : a.size = 32) (hb' : b.size = 32) : spec_l06Tree.m (M + 9) [a, b] = some (ndH a b) := by
  show spec_l06Tree.mF (M + 9) ((M + 7) + 2) [a, b] = _
  rw [sTree2, specNode hN _ _ ha hb']; rfl
theorem iT1 (M : Nat) (a : ByteArray) : impl_treeHash.m (M + 9) [a] = some a := by
  show impl_treeHash.mF (M + 9) ((M + 8) + 1) [a] = _
  kernel_rfl
theorem iT2 {M : Nat} (hN : Big (M + 9)) (a b : ByteArray) (ha : a.size = 32) (hb' : b.size = 32) : impl_treeHash.m (M + 9) [a, b] = some (ndH a b) := by
  show impl_treeHash.mF (M + 9) ((M + 7) + 2) [a, b] = _
  rw [iTree2, implNode hN _ _ ha hb']; rfl
theorem sP20 (M n : Nat) (a b : ByteArray) : spec_l06Path.mF (M + 9) (n + 2) [a, b] 0 = ob (spec_l06Tree.m (M + 9) [b]) fun y => some [y] := by kernel_rfl
theorem sP21 (M n : Nat) (a b : ByteArray) : spec_l06Path.mF (M + 9) (n + 2) [a, b] 1 = ob (spec_l06Tree.m (M + 9) [a]) fun y => some [y] := by kernel_rfl
theorem sP40 (M n : Nat) (a b c d : ByteArray) : spec_l06Path.mF (M + 9) (n + 3) [a, b, c, d] 0 = ob (spec_l06Path.mF (M + 9) (n + 2) [a, b] 0) fun y => ob (spec_l06Tree.m (M + 9) [c, d]) fun z => bif room (y.length + [z].length) 16 then some (y ++ [z]) else none := by kernel_rfl
theorem sP41 (M n : Nat) (a b c d : ByteArray) : spec_l06Path.mF (M + 9) (n + 3) [a, b, c, d] 1 = ob (spec_l06Path.mF (M + 9) (n + 2) [a, b] 1) fun y => ob (spec_l06Tree.m (M + 9) [c, d]) fun z => bif room (y.length + [z].length) 16 then some (y ++ [z]) else none := by kernel_rfl
theorem sP42 (M n : Nat) (a b c d : ByteArray) : spec_l06Path.mF (M + 9) (n + 3) [a, b, c, d] 2 = ob (spec_l06Path.mF (M + 9) (n + 2) [c, d] 0) fun y => ob (spec_l06Tree.m (M + 9) [a, b]) fun z => bif room (y.length + [z].length) 16 then some (y ++ [z]) else none := by kernel_rfl
theorem sP43 (M n : Nat) (a b c d : ByteArray) : spec_l06Path.mF (M + 9) (n + 3) [a, b, c, d] 3 = ob (spec_l06Path.mF (M + 9) (n + 2) [c, d] 1) fun y => ob (spec_l06Tree.m (M + 9) [a, b]) fun z => bif room (y.length + [z].length) 16 then some (y ++ [z]) else none := by kernel_rfl
theorem iP20 (M n : Nat) (a b : ByteArray) : impl_inclusion.mF (M + 9) (n + 2) [a, b] 0 = ob (impl_treeHash.m (M + 9) [b]) fun y => some [y] := by kernel_rfl
theorem iP21 (M n : Nat) (a b : ByteArray) : impl_inclusion.mF (M + 9) (n + 2) [a, b] 1 = ob (impl_treeHash.m (M + 9) [a]) fun y => some [y] := by kernel_rfl
theorem iP40 (M n : Nat) (a b c d : ByteArray) : impl_inclusion.mF (M + 9) (n + 3) [a, b, c, d] 0 = ob (impl_inclusion.mF (M + 9) (n + 2) [a, b] 0) fun y => ob (impl_treeHash.m (M + 9) [c, d]) fun z => bif room (y.length + [z].length) 16 then some (y ++ [z]) else none := by kernel_rfl
theorem iP41 (M n : Nat) (a b c d : ByteArray) : impl_inclusion.mF (M + 9) (n + 3) [a, b, c, d] 1 = ob (impl_inclusion.mF (M + 9) (n + 2) [a, b] 1) fun y => ob (impl_treeHash.m (M + 9) [c, d]) fun z => bif room (y.length + [z].length) 16 then some (y ++ [z]) else none := by kernel_rfl
theorem iP42 (M n : Nat) (a b c d : ByteArray) : impl_inclusion.mF (M + 9) (n + 3) [a, b, c, d] 2 = ob (impl_inclusion.mF (M + 9) (n + 2) [c, d] 0) fun y => ob (impl_treeHash.m (M + 9) [a, b]) fun z => bif room (y.length + [z].length) 16 then some (y ++ [z]) else none := by kernel_rfl
theorem iP43 (M n : Nat) (a b c d : ByteArray) : impl_inclusion.mF (M + 9) (n + 3) [a, b, c, d] 3 = ob (impl_inclusion.mF (M + 9) (n + 2) [c, d] 1) fun y => ob (impl_treeHash.m (M + 9) [a, b]) fun z => bif room (y.length + [z].length) 16 then some (y ++ [z]) else none := by kernel_rfl
def pathV (s : ByteArray) (i : Int) : List ByteArray := bif i == 0 then [leafK s 1, ndH (leafK s 2) (leafK s 3)] else bif i == 1 then [leafK s 0, ndH (leafK s 2) (leafK s 3)] else bif i == 2 then [leafK s 3, ndH (leafK s 0) (leafK s 1)] else [leafK s 2, ndH (leafK s 0) (leafK s 1)]
theorem four {i : Int} (h0 : 0 ≤ i) (h3 : i ≤ 3) : i = 0 ∨ i = 1 ∨ i = 2 ∨ i = 3 := by omega
theorem specPath {N : Nat} (hN : Big N) (s : ByteArray) (i : Int) (h0 : 0 ≤ i) (h3 : i ≤ 3) : spec_l06Path.m N (leaf4 s) i = some (pathV s i) := by
  obtain ⟨M, rfl⟩ : ∃ M, N = M + 9 := ⟨N - 9, by omega⟩
  show spec_l06Path.mF (M + 9) ((M + 6) + 3) [leafK s 0, leafK s 1, leafK s 2, leafK s 3] i = _
  rcases four h0 h3 with rfl | rfl | rfl | rfl
  · rw [sP40, sP20, sT1, sT2 hN _ _ (leafK_size _ _) (leafK_size _ _)]; rfl
  · rw [sP41, sP21, sT1, sT2 hN _ _ (leafK_size _ _) (leafK_size _ _)]; rfl
  · rw [sP42, sP20, sT1, sT2 hN _ _ (leafK_size _ _) (leafK_size _ _)]; rfl
  · rw [sP43, sP21, sT1, sT2 hN _ _ (leafK_size _ _) (leafK_size _ _)]; rfl
theorem implPath {N : Nat} (hN : Big N) (s : ByteArray) (i : Int) (h0 : 0 ≤ i) (h3 : i ≤ 3) : impl_inclusion.m N (leaf4 s) i = some (pathV s i) := by
  obtain ⟨M, rfl⟩ : ∃ M, N = M + 9 := ⟨N - 9, by omega⟩
  show impl_inclusion.mF (M + 9) ((M + 6) + 3) [leafK s 0, leafK s 1, leafK s 2, leafK s 3] i = _
  rcases four h0 h3 with rfl | rfl | rfl | rfl
  · rw [iP40, iP20, iT1, iT2 hN _ _ (leafK_size _ _) (leafK_size _ _)]; rfl
  · rw [iP41, iP21, iT1, iT2 hN _ _ (leafK_size _ _) (leafK_size _ _)]; rfl
  · rw [iP42, iP20, iT1, iT2 hN _ _ (leafK_size _ _) (leafK_size _ _)]; rfl
  · rw [iP43, iP21, iT1, iT2 hN _ _ (leafK_size _ _) (leafK_size _ _)]; rfl
/-! ### Signatures -/
def sgL (s : ByteArray) (i : Int) (m : ByteArray) (n : Nat) : List ByteArray := (List.range n).map fun (k : Nat) => chn (sec s i (k : Int)) 0 (dgN m k)
theorem sgL_len (s : ByteArray) (i : Int) (m : ByteArray) (n : Nat) : (sgL s i m n).length = n := by simp [sgL]
theorem sgL_snoc (s : ByteArray) (i : Int) (m : ByteArray) (n : Nat) : sgL s i m n ++ [chn (sec s i (n : Int)) 0 (dgN m n)] = sgL s i m (n + 1) := by simp [sgL, List.range_succ]
def sigV (s : ByteArray) (i : Int) (m : ByteArray) : Signature := ⟨i, sgL s i m 18, pathV s i⟩
theorem specSign {N : Nat} (hN : Big N) (s : ByteArray) (i : Int) (m : ByteArray) (hs : s.size = 32) (hm : m.size ≤ 2097152) (h0 : 0 ≤ i) (h3 : i ≤ 3) : spec_l08Sign.m N s i m = some (sigV s i m) := by
  unfold spec_l08Sign.m
  rw [specDigits hN m hm, ob_some]
  unfold spec_l08Sign.lp4
  have hd := digB_length m
  exact miter_up (step := fun rec => spec_l08Sign.step4 N s i m rec) (n := 18) (st := fun j => ((j : Int), (0:Int), sgL s i m j, digB m)) (fun j hj rec => by
    obtain ⟨d1, d2⟩ := dgN_eq m j
    have hc : spec_l08Chain.m N (sec s i (j : Int)) 0 ((dgN m j : Nat) : Int) = some (chn (sec s i (j : Int)) 0 (dgN m j)) := specChain hN (sec s i (j : Int)) 0 (dgN m j) (hb_size _) (by omega) d2
    simp only [spec_l08Sign.step4, decide_eq_true (show (j : Int) < 18 by omega), nn_dec, cond_true, hd, decide_eq_true (show (j : Int) < ((18 : Nat) : Int) by omega), Int.toNat_natCast, specSecret hN s i _ hs, ob_some, d1, hc]
    rw [room16 (by rw [sgL_len]; simp; omega), cond_true, sgL_snoc, w_up j 18 hj (by omega)]) (fun rec => by
    show ob (spec_l08Leaves.m N s) _ = _
    rw [specLeaves hN s hs, ob_some, specPath hN s i h0 h3]
    rfl) 18 0 N (by omega) (by omega)
theorem implSign {N : Nat} (hN : Big N) (s : ByteArray) (i : Int) (m : ByteArray) (hs : s.size = 32) (hm : m.size ≤ 2097152) (h0 : 0 ≤ i) (h3 : i ≤ 3) : impl_signWith.m N s i m = some (sigV s i m) := by
  unfold impl_signWith.m
  have hd := digB_length m
  rw [implLeaves hN s hs, ob_some, implPath hN s i h0 h3, ob_some, implDigits hN m hm, ob_some, hd]
  unfold impl_signWith.lp3
  have hc : ∀ j, impl_chain.m N (sec s i ((j : Nat) : Int)) 0 ((dgN m j : Nat) : Int) = some (chn (sec s i (j : Int)) 0 (dgN m j)) := fun j => implChain hN (sec s i (j : Int)) 0 (dgN m j) (hb_size _) (by omega) (dgN_eq m j).2
  have main := miter_up (step := fun rec => impl_signWith.step3 N s i m rec) (n := 18) (st := fun j => bif decide (j = 0) then impl_signWith.A3.s0 ((18 : Nat) : Int) 0 0 (pathV s i) (digB m) else impl_signWith.A3.s1 ((18 : Nat) : Int) (j : Int) 0 (sgL s i m j) (pathV s i) (digB m)) (r := some (sigV s i m)) (fun j hj rec => by
    have hj1 : decide (j + 1 = 0) = false := decide_eq_false (by omega)
    rcases Nat.eq_zero_or_pos j with rfl | hp
    · obtain ⟨d1, d2⟩ := dgN_eq m 0
      have hc0 := hc 0
      simp only [decide_true, cond_true, hj1, cond_false, impl_signWith.step3, hd, decide_eq_true (show (0 : Int) < ((18 : Nat) : Int) by omega), Int.le_refl, show Int.toNat 0 = 0 from rfl, implSecret hN s i _ hs, ob_some, d1]
      rw [show impl_chain.m N (sec s i 0) 0 ((dgN m 0 : Nat) : Int) = some (chn (sec s i 0) 0 (dgN m 0)) from hc0, ob_some, show room ([chn (sec s i 0) 0 (dgN m 0)] : List ByteArray).length 16 = true from rfl, cond_true]
      rfl
    · obtain ⟨d1, d2⟩ := dgN_eq m j
      have hj0 : decide (j = 0) = false := decide_eq_false (by omega)
      simp only [hj0, hj1, cond_false, impl_signWith.step3, hd, nn_dec, cond_true, decide_eq_true (show (j : Int) < ((18 : Nat) : Int) by omega), Int.toNat_natCast, implSecret hN s i _ hs, ob_some, d1, hc]
      rw [room16 (by rw [sgL_len]; simp; omega), cond_true, sgL_snoc, w_up j 18 hj (by omega)]) (fun rec => by
    simp only [show decide (18 = 0) = false from rfl, cond_false, impl_signWith.step3, ge_dec]
    rfl) 18 0 N (by omega) (by omega)
  exact main
def zSig : Signature := ⟨0, [], []⟩
def swR (s : ByteArray) (i : Int) (m : ByteArray) : Signature × Int := bif decide ((s.size : Int) > 65536) || decide ((m.size : Int) > 65536) then (zSig, 2) else bif (s.size : Int) != 32 then (zSig, 1) else bif inB i 0 3 then (sigV s i m, 0) else (zSig, 4)
theorem specSW {N : Nat} (hN : Big N) (s : ByteArray) (i : Int) (m : ByteArray) (hm : m.size ≤ 2097152) : spec_SignWith.m N s i m = some (swR s i m) := by
  unfold spec_SignWith.m swR spec_l08Index.m
  simp only [l01In, ob_some]
  cases decide ((s.size : Int) > 65536) with
  | true => rfl
  | false =>
    cases decide ((m.size : Int) > 65536) with
    | true => rfl
    | false =>
      cases h1 : (s.size : Int) != 32 with
      | true => rfl
      | false =>
        cases h2 : inB i 0 3 with
        | false => rfl
        | true =>
          obtain ⟨i0, i3⟩ := inB_iff.1 h2
          rw [specSign hN s i m (sz32 h1) hm i0 i3]
          rfl
theorem implSW {N : Nat} (hN : Big N) (s : ByteArray) (i : Int) (m : ByteArray) (hm : m.size ≤ 2097152) : impl_SignWith.m N s i m = some (swR s i m) := by
  unfold impl_SignWith.m swR
  simp only [isText1 hN, seedCode hN, ob_some, Bool.not_not]
  cases decide ((s.size : Int) > 65536) with
  | true => cases decide ((m.size : Int) > 65536) <;> rfl
  | false =>
    cases decide ((m.size : Int) > 65536) with
    | true => rfl
    | false =>
      cases h1 : (s.size : Int) != 32 with
      | true => rfl
      | false =>
        cases h2 : inB i 0 3 with
        | false => rfl
        | true =>
          obtain ⟨i0, i3⟩ := inB_iff.1 h2
          rw [implSign hN s i m (sz32 h1) hm i0 i3]
          rfl
/-! ### Marks on signatures -/
theorem pathV_len (s : ByteArray) (i : Int) : (pathV s i).length = 2 := by
  unfold pathV
  cases i == 0 <;> cases i == 1 <;> cases i == 2 <;> rfl
theorem swR_len (s : ByteArray) (i : Int) (m : ByteArray) : (swR s i m).1.Parts.length ≤ 1048576 ∧ (swR s i m).1.Path.length ≤ 1048576 := by
  have hz : zSig.Parts.length ≤ 1048576 ∧ zSig.Path.length ≤ 1048576 := ⟨Nat.zero_le _, Nat.zero_le _⟩
  have hv : (sigV s i m).Parts.length ≤ 1048576 ∧ (sigV s i m).Path.length ≤ 1048576 := by
    constructor
    · show (sgL s i m 18).length ≤ _; rw [sgL_len]; omega
    · show (pathV s i).length ≤ _; rw [pathV_len]; omega
  unfold swR
  cases decide ((s.size : Int) > 65536) || decide ((m.size : Int) > 65536) with
  | true => exact hz
  | false =>
    cases (s.size : Int) != 32 with
    | true => exact hz
    | false =>
      cases inB i 0 3 with
      | true => exact hv
      | false => exact hz
end Mir.Y
