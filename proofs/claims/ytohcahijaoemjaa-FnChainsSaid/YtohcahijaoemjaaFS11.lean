/- Pure laws: no key signs twice. -/
import Derived.Test.YtohcahijaoemjaaFS10
namespace Mir.Y
set_option linter.unusedVariables false
set_option linter.unusedSimpArgs false
open Go
theorem used_get : ∀ n, n < 4 → ∀ i, i < 4 → ((List.replicate 4 false).set n true).getD i false = ((i : Int) == (n : Int)) := by decide
theorem inB4 {n : Nat} (h : n < 4) : inB (n : Int) 0 3 = true := inB_iff.2 (by omega)
theorem snR_new {d m : ByteArray} (hd : d.size = 32) (hm : m.size ≤ 16) {n : Nat} (hn : n < 4) : snR ⟨d, List.replicate 4 false⟩ n m = (⟨d, (List.replicate 4 false).set n true⟩, sigV d n m, 0) := by
  have h1 : sgOK ⟨d, List.replicate 4 false⟩ = true := by simp [sgOK, hd]
  have h2 : (List.replicate 4 false).getD n false = false := by
    have : ∀ n, n < 4 → (List.replicate 4 false).getD n false = false := by decide
    exact this n hn
  unfold snR
  rw [decide_eq_false (show ¬ (m.size : Int) > 65536 by omega), h1, inB4 hn]
  simp only [cond_false, Bool.not_true, Int.toNat_natCast, h2]
theorem snR_used {d m : ByteArray} (hd : d.size = 32) (hm : m.size ≤ 16) {n : Nat} (hn : n < 4) : snR ⟨d, (List.replicate 4 false).set n true⟩ n m = (⟨d, (List.replicate 4 false).set n true⟩, zSig, 13) := by
  have h1 : sgOK ⟨d, (List.replicate 4 false).set n true⟩ = true := by simp [sgOK, hd]
  have h2 : ((List.replicate 4 false).set n true).getD n false = true := by rw [used_get n hn n hn]; exact beq_self_eq_true _
  unfold snR
  rw [decide_eq_false (show ¬ (m.size : Int) > 65536 by omega), h1, inB4 hn]
  simp only [cond_false, cond_true, Bool.not_true, Int.toNat_natCast, h2]
theorem onceLoop {N : Nat} (hN : Big N) (a0 a1 : List Int) (d : ByteArray) {n : Nat} (hn : n < 4) : laws_FnOnce.lp11 N a0 a1 ((n : Int), 0, d, (List.replicate 4 false).set n true, d, (List.replicate 4 false).set n true, d, (List.replicate 4 false).set n true) = some true := by
  have hu := used_get n hn
  have hl : ((List.replicate 4 false).set n true).length = 4 := by rw [List.length_set]; rfl
  generalize (List.replicate 4 false).set n true = U at hu hl
  unfold laws_FnOnce.lp11
  refine miter_up (n := 4) (st := fun i => ((n : Int), (i : Int), d, U, d, U, d, U)) (fun i hi rec => ?_) (fun rec => ?_) 4 0 N (by omega) (by omega)
  · have e1 := hu i hi
    have e2 : w64 ((i : Int) + 1) = ((i + 1 : Nat) : Int) := w_up i 4 hi (by omega)
    have e3 : decide ((i : Int) < 4) = true := decide_eq_true (by omega)
    have e4 : decide ((i : Int) < (U.length : Int)) = true := decide_eq_true (by omega)
    simp only [laws_FnOnce.step11, e3, e4, nn_dec, cond_true, cond_false, Int.toNat_natCast, e1, e2, beq_self_eq_true, Bool.not_true]
  · simp [laws_FnOnce.step11]
theorem pureOnce (a0 a1 : List Int) (h0 : ∃ n, WfE E (WfA E n) (.slice 5 (.int .u8)) a0) (h1 : ∃ n, WfE E (WfA E n) (.slice 5 (.int .u8)) a1) : ∃ N, laws_FnOnce.m N a0 a1 = some true := by
  refine ⟨16777216, ?_⟩
  generalize hN' : 16777216 = N
  have hN : Big N := by omega
  unfold laws_FnOnce.m
  by_cases c0 : (a0.length : Int) > 1048576
  · rw [decide_eq_true c0]; rfl
  by_cases c1 : (a1.length : Int) > 1048576
  · rw [decide_eq_false c0, decide_eq_true c1]; rfl
  rw [decide_eq_false c0, decide_eq_false c1]
  obtain ⟨d, e1, hd⟩ := hashOf hN a0 (by omega) (wfBytes h0)
  obtain ⟨m, e2, hm⟩ := messageOf N a0 (by omega) (wfBytes h0)
  obtain ⟨q, e3, hq⟩ := messageOf N a1 (by omega) (wfBytes h1)
  obtain ⟨k, e4, k0, k1⟩ := lawsAt N a1 0 4 (by omega) (wfBytes h1) (by omega) (by omega) (by omega) (by omega)
  obtain ⟨n, rfl⟩ := Int.eq_ofNat_of_zero_le k0
  have hn : n < 4 := by have k2 : (n : Int) < 4 := k1; omega
  have r4 : room 4 1 = true := roomB (by omega) (by omega)
  have s1 := implSN hN ⟨d, List.replicate 4 false⟩ n m (by omega) (by simp)
  have s2 := specSN hN ⟨d, List.replicate 4 false⟩ n m (by omega) (by simp)
  rw [snR_new hd hm hn] at s1 s2
  have s3 := implSN hN ⟨d, (List.replicate 4 false).set n true⟩ n q (by omega) (by simp)
  rw [snR_used hd hq hn] at s3
  have s4 := implOKg hN ⟨d, (List.replicate 4 false).set n true⟩
  have s5 : sgOK ⟨d, (List.replicate 4 false).set n true⟩ = true := by simp [sgOK, hd]
  rw [s5] at s4
  have l1 : (((List.replicate 4 false).set n true).length : Int) = 4 := by rw [List.length_set]; rfl
  have l2 : ((sigV d n m).Parts.length : Int) = 18 := by
    have : (sigV d n m).Parts.length = 18 := sgL_len d n m 18
    omega
  have l3 : (zSig.Parts.length : Int) = 0 := rfl
  have l4 := onceLoop hN a0 a1 d hn
  simp only [cond_false, cond_true, e1, ob_some, r4, show decide ((0:Int) ≤ 4) = true from rfl, e4, e2, s1, s2, e3, s3, s4, l1, l2, l3, l4, bne_self_eq_false, Bool.not_true]
end Mir.Y
