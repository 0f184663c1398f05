/- Pure laws: what the copying, comparing, marking functions compute. -/
import Derived.Test.YtmjmhkpkmejbnaaGreatQAM3
import Derived.Test.YtmjmhkpkmejbnaaGreatEngC
namespace Mir.Y
set_option linter.unusedVariables false
set_option linter.unusedSimpArgs false
open Go
set_option linter.unusedSectionVars false
variable [UU]
abbrev Big (N : Nat) : Prop := 16777216 ≤ N
theorem roomB {n b : Nat} (h : n ≤ 1048576) (hb : b ≤ 1024) : room n b = true := by
  have := Nat.mul_le_mul h hb
  simp only [room, decide_eq_true_eq]; omega
theorem lt_dec {i n : Nat} (h : i < n) : decide ((i : Int) < (n : Int)) = true := decide_eq_true (by omega)
theorem nn_dec (i : Nat) : decide (0 ≤ (i : Int)) = true := decide_eq_true (by omega)
theorem ge_dec (n : Nat) : decide ((n : Int) < (n : Int)) = false := decide_eq_false (by omega)
/-! ### Rows of numbers -/
def fInt (c : Int) (_ : Int) : Int × Int := (w64 (c + 1), c)
theorem fInt_count (c x : Int) (h0 : 0 ≤ c) (h1 : c ≤ 8388608) : (fInt c x).1 = c + 1 := w_small (by omega) (by omega)
/-! ### Texts that mark -/
theorem size_append (a b : ByteArray) : (a ++ b).size = a.size + b.size := by simp
/-! ### Entries -/
theorem fEnt_txt {c : Int} (h0 : 0 ≤ c) (h1 : c ≤ 8388608) : w64 (w64 (c + 1) + 1) ≤ 8388616 := by
  rw [w_small (x := c + 1) (by omega) (by omega), w_small (by omega) (by omega)]; omega
theorem count_take {X : Type} {f : Int → X → Int × X} {d : Int} (h : ∀ c x, 0 ≤ c → c ≤ 8388608 → (f c x).1 = c + d) (hd : 0 ≤ d) (hd4 : d ≤ 16) {c : Int} {a : List X} (h0 : 0 ≤ c) (hb : c + d * a.length ≤ 8388608) (i : Nat) : 0 ≤ (marks f c (a.take i)).1 ∧ (marks f c (a.take i)).1 ≤ 8388608 := by
  have hl : d * ((a.take i).length : Int) ≤ d * (a.length : Int) := Int.mul_le_mul_of_nonneg_left (by simp; omega) hd
  have hm : 0 ≤ d * ((a.take i).length : Int) := Int.mul_nonneg hd (by omega)
  rw [marks_count h hd hd4 h0 (by omega)]
  omega
/-! ### Nodes -/
/-- A mark of a node, and what reads it. -/
def inB (a lo hi : Int) : Bool := decide (a ≥ lo) && decide (a ≤ hi)
theorem l01In (N : Nat) (a lo hi : Int) : spec_l01In.m N a lo hi = some (inB a lo hi) := by
  unfold spec_l01In.m inB
  cases decide (a ≥ lo) <;> rfl
theorem within (N : Nat) (a lo hi : Int) : impl_within.m N a lo hi = some (inB a lo hi) := by
  unfold impl_within.m inB
  cases decide (a ≥ lo) <;> rfl
/-! ### Rising rows of numbers -/
def numsB (f : Nat → Int) (n : Nat) : Bool := allF (fun i => inB (f i) 0 6) 0 n
def riseB (f : Nat → Int) (n : Nat) : Bool := allF (fun i => !decide (f (i - 1) ≥ f i)) 1 (n - 1)
def idsB (f : Nat → Int) (n : Nat) : Bool := allF (fun i => inB (f i) 0 6 && !(decide (0 < i) && decide (f (i - 1) ≥ f i))) 0 n
theorem idsB_eq (f : Nat → Int) (n : Nat) : idsB f n = (numsB f n && riseB f n) := by
  rw [Bool.eq_iff_iff]
  simp only [idsB, numsB, riseB, Bool.and_eq_true, allF_iff, Bool.not_eq_true']
  constructor
  · intro h
    refine ⟨fun j h1 h2 => (h j h1 h2).1, fun j h1 h2 => ?_⟩
    have := (h j (by omega) (by omega)).2
    rw [decide_eq_true (by omega), Bool.true_and] at this
    exact this
  · rintro ⟨h1, h2⟩ j k1 k2
    refine ⟨h1 j k1 k2, ?_⟩
    by_cases hj : 0 < j
    · rw [h2 j (by omega) (by omega), Bool.and_false]
    · rw [decide_eq_false hj]; rfl
def ix (a : List Int) (i : Nat) : Int := a.getD i 0
theorem ixe (a : List Int) (i : Nat) : a.getD i 0 = ix a i := rfl
/-! ### New nodes -/
end Mir.Y
