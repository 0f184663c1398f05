/- Pure laws: what a node's rows in memory are; NodeOK, UpToDate, NodeCrash. -/
import Derived.Test.YtigmgeablmomnaaOL3
namespace Mir.Y
set_option linter.unusedVariables false
set_option linter.unusedSimpArgs false
open Go
theorem wfText {n : Nat} {s : ByteArray} (h : WfA E n .str s) : s.size ≤ maxLen := by cases n <;> exact h
theorem wfNode {x : Node} (h : ∃ n, WfE E (WfA E n) (.st 36) x) : NodeWf x := by
  obtain ⟨n, h⟩ := h
  cases n with
  | zero => exact h.2.2.2.1.elim
  | succ n =>
    obtain ⟨_, _, _, h4, h5, _, h7, h8, h9, _⟩ := h
    exact ⟨h4.1, fun e he => wfText (h4.2 e he).2.2.1, h5.1, h7.1, h8.1, h9.1⟩
/-! ### UpToDate -/
theorem term_eq (N : Nat) (x : Node) (n : Int) : impl_Node_termAt.m N x n = spec_l10Term.m N x n := rfl
theorem l10Term (N : Nat) (x : Node) (h : x.Log.length ≤ M20) : ∃ t, spec_l10Term.m N x (x.Log.length : Int) = some t := by
  unfold spec_l10Term.m
  by_cases h0 : x.Log.length = 0
  · rw [h0]; exact ⟨_, rfl⟩
  · have e : ((x.Log.length : Int) == 0) = false := by rw [beq_eq_false_iff_ne]; omega
    have e1 : w64 ((x.Log.length : Int) - 1) = ((x.Log.length - 1 : Nat) : Int) := w_dn _ (by omega) h
    simp only [e, cond_false, e1, nn_dec, cond_true, lt_dec (show x.Log.length - 1 < x.Log.length by omega)]
    exact ⟨_, rfl⟩
/-! ### NodeCrash -/
theorem cloneEnt (N : Nat) (a : List Entry) (h : a.length ≤ 1048576) : slices_Clone_impl_Entry_impl_Entry.m N a = some a := by
  unfold slices_Clone_impl_Entry_impl_Entry.m
  rw [roomB (by simpa using h) (by omega), cond_true, List.nil_append]
  exact amb_right fun hp => by rw [List.isEmpty_iff] at hp; rw [hp]
def crashR (x : Node) : Node × Int := bif okB x then (⟨x.Id, x.Term, x.Vote, x.Log, x.Start, 0, [], [1, 1, 1, 1, 1, 1, 1], [0, 0, 0, 0, 0, 0, 0], 0, 0, x.Wait, false⟩, 0) else (zNode, 1)
theorem crashR_sz (x : Node) (h : NodeSz x M20) : NodeSz (crashR x).1 1048576 := by
  unfold crashR
  cases okB x with
  | true => exact ⟨h.Log, h.Start, Nat.zero_le _, (by decide : 7 ≤ 1048576), (by decide : 7 ≤ 1048576)⟩
  | false => exact ⟨Nat.zero_le _, Nat.zero_le _, Nat.zero_le _, Nat.zero_le _, Nat.zero_le _⟩
end Mir.Y
