/- Pure laws: NewNode. -/
import Derived.Test.YtojpcjbdehoibaaBL1
namespace Mir.Y
set_option linter.unusedVariables false
set_option linter.unusedSimpArgs false
open Go
def inB (a lo hi : Int) : Bool := decide (a ≥ lo) && decide (a ≤ hi)
theorem l01In (N : Nat) (a lo hi : Int) : spec_l01In.m N a lo hi = some (inB a lo hi) := by
  unfold spec_l01In.m inB
  cases decide (a ≥ lo) <;> rfl
theorem within (N : Nat) (a lo hi : Int) : impl_within.m N a lo hi = some (inB a lo hi) := by
  unfold impl_within.m inB
  cases decide (a ≥ lo) <;> rfl
/-! ### Rising rows of numbers -/
def numsB (f : Nat → Int) (n : Nat) : Bool := allF (fun i => inB (f i) 0 6) 0 n
def riseB (f : Nat → Int) (n : Nat) : Bool := allF (fun i => !decide (f (i - 1) ≥ f i)) 1 (n - 1)
def idsB (f : Nat → Int) (n : Nat) : Bool := allF (fun i => inB (f i) 0 6 && !(decide (0 < i) && decide (f (i - 1) ≥ f i))) 0 n
theorem idsB_eq (f : Nat → Int) (n : Nat) : idsB f n = (numsB f n && riseB f n) := by
  rw [Bool.eq_iff_iff]
  simp only [idsB, numsB, riseB, Bool.and_eq_true, allF_iff, Bool.not_eq_true']
  constructor
  · intro h
    refine ⟨fun j h1 h2 => (h j h1 h2).1, fun j h1 h2 => ?_⟩
    have := (h j (by omega) (by omega)).2
    rw [decide_eq_true (by omega), Bool.true_and] at this
    exact this
  · rintro ⟨h1, h2⟩ j k1 k2
    refine ⟨h1 j k1 k2, ?_⟩
    by_cases hj : 0 < j
    · rw [h2 j (by omega) (by omega), Bool.and_false]
    · rw [decide_eq_false hj]; rfl
def ix (a : List Int) (i : Nat) : Int := a.getD i 0
theorem ixe (a : List Int) (i : Nat) : a.getD i 0 = ix a i := rfl
/-! ### New nodes -/
end Mir.Y
