/- Pure laws: NewNode. -/
import Derived.Test.YtbepkbaemapkjaaGreatQL1
namespace Mir.Y
set_option linter.unusedVariables false
set_option linter.unusedSimpArgs false
open Go
def inB (a lo hi : Int) : Bool := decide (a ≥ lo) && decide (a ≤ hi)
theorem l01In (N : Nat) (a lo hi : Int) : spec_l01In.m N a lo hi = some (inB a lo hi) := by
  unfold spec_l01In.m inB
  cases decide (a ≥ lo) <;> rfl
theorem within (N : Nat) (a lo hi : Int) : impl_within.m N a lo hi = some (inB a lo hi) := by
  unfold impl_within.m inB
  cases decide (a ≥ lo) <;> rfl
/-! ### Rising rows of numbers -/
def numsB (f : Nat → Int) (n : Nat) : Bool := allF (fun i => inB (f i) 0 6) 0 n
def riseB (f : Nat → Int) (n : Nat) : Bool := allF (fun i => !decide (f (i - 1) ≥ f i)) 1 (n - 1)
def idsB (f : Nat → Int) (n : Nat) : Bool := allF (fun i => inB (f i) 0 6 && !(decide (0 < i) && decide (f (i - 1) ≥ f i))) 0 n
theorem idsB_eq (f : Nat → Int) (n : Nat) : idsB f n = (numsB f n && riseB f n) := by
  rw [Bool.eq_iff_iff]
  simp only [idsB, numsB, riseB, Bool.and_eq_true, allF_iff, Bool.not_eq_true']
  constructor
  · intro h
    refine ⟨fun j h1 h2 => (h j h1 h2).1, fun j h1 h2 => ?_⟩
    have := (h j (by omega) (by omega)).2
    rw [decide_eq_true (by omega), Bool.true_and] at this
    exact this
  · rintro ⟨h1, h2⟩ j k1 k2
    refine ⟨h1 j k1 k2, ?_⟩
    by_cases hj : 0 < j
    · rw [h2 j (by omega) (by omega), Bool.and_false]
    · rw [decide_eq_false hj]; rfl
def ix (a : List Int) (i : Nat) : Int := a.getD i 0
theorem ixe (a : List Int) (i : Nat) : a.getD i 0 = ix a i := rfl
/-! ### New nodes -/
def node0 (id : Int) (a : List Int) : Node := ⟨id, 0, -1, [], a, 0, [], [1, 1, 1, 1, 1, 1, 1], [0, 0, 0, 0, 0, 0, 0], 0, 0, w64 (5 + id), true⟩
def zNode : Node := ⟨0, 0, 0, [], [], 0, [], [], [], 0, 0, 0, false⟩
def newR (id : Int) (a : List Int) : Node × Int := bif decide ((a.length : Int) > 4096) then (zNode, 2) else bif inB id 0 6 && (idsB (ix a) a.length && decide (0 < a.length)) then (node0 id a, 0) else (zNode, 1)
theorem newR_sz (id : Int) (a : List Int) (h : a.length ≤ 1048576) : NodeSz (newR id a).1 1048576 := by
  unfold newR
  cases decide ((a.length : Int) > 4096) with
  | true => exact ⟨Nat.zero_le _, Nat.zero_le _, Nat.zero_le _, Nat.zero_le _, Nat.zero_le _⟩
  | false =>
    cases inB id 0 6 && (idsB (ix a) a.length && decide (0 < a.length)) with
    | true => exact ⟨Nat.zero_le _, h, Nat.zero_le _, (by decide : 7 ≤ 1048576), (by decide : 7 ≤ 1048576)⟩
    | false => exact ⟨Nat.zero_le _, Nat.zero_le _, Nat.zero_le _, Nat.zero_le _, Nat.zero_le _⟩
theorem mkNode (x y : Node) (h : y.Id = x.Id ∧ y.Term = x.Term ∧ y.Vote = x.Vote ∧ y.Role = x.Role ∧ y.Commit = x.Commit ∧ y.Elapsed = x.Elapsed ∧ y.Wait = x.Wait ∧ y.Up = x.Up) : Node.mk x.Id x.Term x.Vote y.Log y.Start x.Role y.Votes y.Next y.Match x.Commit x.Elapsed x.Wait x.Up = y := by
  obtain ⟨h1, h2, h3, h4, h5, h6, h7, h8⟩ := h
  rw [← h1, ← h2, ← h3, ← h4, ← h5, ← h6, ← h7, ← h8]
end Mir.Y
