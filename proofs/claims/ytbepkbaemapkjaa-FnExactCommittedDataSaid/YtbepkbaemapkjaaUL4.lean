/- Pure laws: what a node's rows in memory are; NodeOK, UpToDate, NodeCrash. -/
import Derived.Test.YtbepkbaemapkjaaUL3
namespace Mir.Y
set_option linter.unusedVariables false
set_option linter.unusedSimpArgs false
open Go
theorem wfText {n : Nat} {s : ByteArray} (h : WfA E n .str s) : s.size ≤ maxLen := by cases n <;> exact h
theorem wfNode {x : Node} (h : ∃ n, WfE E (WfA E n) (.st 99) x) : NodeWf x := by
  obtain ⟨n, h⟩ := h
  cases n with
  | zero => exact h.2.2.2.1.elim
  | succ n =>
    obtain ⟨_, _, _, h4, h5, _, h7, h8, h9, _⟩ := h
    exact ⟨h4.1, fun e he => wfText (h4.2 e he).2.2.1, h5.1, h7.1, h8.1, h9.1⟩
/-! ### UpToDate -/
/-! ### NodeCrash -/
def crashR (x : Node) : Node × Int := bif okB x then (⟨x.Id, x.Term, x.Vote, x.Log, x.Start, 0, [], [1, 1, 1, 1, 1, 1, 1], [0, 0, 0, 0, 0, 0, 0], 0, 0, x.Wait, false⟩, 0) else (zNode, 1)
theorem crashR_sz (x : Node) (h : NodeSz x M20) : NodeSz (crashR x).1 1048576 := by
  unfold crashR
  cases okB x with
  | true => exact ⟨h.Log, h.Start, Nat.zero_le _, (by decide : 7 ≤ 1048576), (by decide : 7 ≤ 1048576)⟩
  | false => exact ⟨Nat.zero_le _, Nat.zero_le _, Nat.zero_le _, Nat.zero_le _, Nat.zero_le _⟩
end Mir.Y
