/- SignerOK: the pure law. -/
import Derived.Test.YtfgcbamnclkiiaaY2
import Derived.Test.YtfgcbamnclkiiaaMir31
namespace Mir.Y
set_option linter.unusedVariables false
set_option linter.unusedSimpArgs false
open Go
namespace P3
theorem toBs (N : Nat) (a : List Bool) (h : a.length ≤ 1048576) (hN : a.length < N) : F33.m N a = some a := by
  have hr : room (Int.toNat (a.length : Int)) 1 = true := by simp [room]; omega
  unfold F33.m
  rw [hr]
  simp only [Int.toNat_natCast, Int.natCast_nonneg, decide_true, cond_true]
  have := miter_up (step := fun rec => F33.step3 N a rec) (n := a.length) (st := fun i => ((i : Int), a.take i ++ List.replicate (a.length - i) false)) (r := some a) (fun i hi rec => by
    have hlt : (i : Int) < (a.length : Int) := by omega
    simp only [F33.step3, hlt, Int.natCast_nonneg, decide_true, cond_true, Int.toNat_natCast, getD_at hi, fill_length a false i hi]
    rw [set_fill a false i hi, w_up i _ hi h]) (fun rec => by
    simp [F33.step3]) a.length 0 N (by omega) hN
  simpa [F33.lp3] using this
theorem eqBs (N : Nat) (a : List Bool) (h : a.length ≤ 1048576) (hN : a.length < N) : F35.m N a a = some true := by
  unfold F35.m
  simp only [bne_self_eq_false, cond_false]
  exact miter_up (step := fun rec => F35.step4 N a a rec) (n := a.length) (st := fun i => (i : Int)) (r := some true) (fun i hi rec => by
    have hlt : (i : Int) < (a.length : Int) := by omega
    simp only [F35.step4, hlt, Int.natCast_nonneg, decide_true, cond_true, Int.toNat_natCast, getD_at hi, beq_self_eq_true, Bool.not_true, cond_false]
    rw [w_up i _ hi h]) (fun rec => by
    simp [F35.step4]) a.length 0 N (by omega) hN
theorem szS (N : Nat) (c : Signer) (h1 : c.Seed.size ≤ maxLen) (h2 : c.Used.length ≤ maxLen) : ∃ y : Int, F8.m N c 1048576 = some y ∧ (0 ≤ y → c.Used.length ≤ 1048576) := by
  unfold F8.m F32.m
  rw [w_sub (by omega) (by omega) h1]
  by_cases ha : 1048576 - (c.Seed.size : Int) < 0
  · rw [decide_eq_true ha]; exact ⟨_, rfl, by omega⟩
  · rw [decide_eq_false ha, cond_false, w_sub (by omega) (by omega) h2]
    by_cases hb : 1048576 - (c.Seed.size : Int) - (c.Used.length : Int) < 0
    · rw [decide_eq_true hb, cond_true, ob_some]; exact ⟨_, rfl, by omega⟩
    · rw [decide_eq_false hb, cond_false, ob_some, decide_eq_false hb]; exact ⟨_, rfl, by omega⟩
theorem isHash (N : Nat) (s : ByteArray) (hN : 2 ≤ N) : F34.m N [s] = some ((s.size : Int) == 32) := by
  obtain ⟨M, rfl⟩ : ∃ M, N = M + 2 := ⟨N - 2, by omega⟩
  unfold F34.m F65_66.m F87_66.m F87_66.lp2
  simp only [miter, F87_66.step2, F66.m]
  have e : w64 ((0 : Int) + 1) = 1 := w64_eq (by omega) (by omega)
  rw [e]
  cases hc : ((s.size : Int) != 32) with
  | true =>
    have : ((s.size : Int) == 32) = false := by simpa [bne] using hc
    simp [hc, this]
  | false =>
    have : ((s.size : Int) == 32) = true := by simpa [bne] using hc
    simp [hc, this]
end P3
theorem pure3 (a0 : Signer) (h0 : ∃ n, WfE E (WfA E n) (.st 24) a0) : ∃ N, F3.m N a0 = some true := by
  obtain ⟨n, h0⟩ := h0
  obtain ⟨hs, hu, _⟩ := h0
  have hs : a0.Seed.size ≤ maxLen := by cases n <;> exact hs
  have hu : a0.Used.length ≤ maxLen := by
    cases n with
    | zero => exact hu.elim
    | succ n => exact hu.1
  refine ⟨1048577, ?_⟩
  obtain ⟨y, hy, hyl⟩ := P3.szS 1048577 a0 hs hu
  unfold F3.m
  rw [hy, ob_some]
  by_cases hy0 : y < 0
  · rw [decide_eq_true hy0, cond_true]
  · rw [decide_eq_false hy0, cond_false]
    have hl := hyl (by omega)
    have ht : F10.m 1048577 a0 = some a0 := by
      unfold F10.m
      rw [P3.toBs 1048577 a0.Used hl (by omega)]
      rfl
    rw [ht]
    simp only [ob_some]
    have h9 : F9.m 1048577 a0 = some (bif ((a0.Seed.size : Int) == 32) then ((a0.Used.length : Int) == 4) else false) := by
      unfold F9.m
      cases ((a0.Seed.size : Int) == 32) <;> rfl
    have h11 : F11.m 1048577 a0 = some (bif ((a0.Seed.size : Int) == 32) then ((a0.Used.length : Int) == 4) else false) := by
      unfold F11.m
      rw [P3.isHash 1048577 a0.Seed (by omega), ob_some]
      cases ((a0.Seed.size : Int) == 32) <;> rfl
    rw [h9, h11]
    simp only [ob_some, beq_self_eq_true, Bool.not_true, cond_false]
    have h12 : F12.m 1048577 a0 a0 = some true := by
      unfold F12.m
      rw [seq_self, P3.eqBs 1048577 a0.Used hl (by omega)]
      rfl
    rw [h12]
    rfl
end Mir.Y
