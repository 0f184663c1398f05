/- Pure laws: marks of ledgers; SnapshotBytes. -/
import Derived.Test.YtmjmhkpkmejbnaaGreatQATA
namespace Mir.Y
set_option linter.unusedVariables false
set_option linter.unusedSimpArgs false
open Go
set_option linter.unusedSectionVars false
variable [UU]
/-! ### Rows of bytes -/
def fByt (c : Int) (_ : Int) : Int × Int := (w64 (c + 1), wu8 c)
theorem fByt_count (c x : Int) (h0 : 0 ≤ c) (h1 : c ≤ 8388608) : (fByt c x).1 = c + 1 := w_small (by omega) (by omega)
/-! ### How many there are -/
/-! ### Marks -/
/-! ### SnapshotBytes -/
noncomputable def snR (n : Nat) (x : Ledger) : List Int × Int := bif ledB n x then (snap n x, 0) else ([], 1)
theorem snR_len {n : Nat} {x : Ledger} : (snR n x).1.length ≤ 10000 := by
  unfold snR
  cases h : ledB n x with
  | false => exact Nat.zero_le _
  | true => have := snC_len (ledSn h).2 x.Sessions.length; show (snap n x).length ≤ 10000; unfold snap; omega
theorem snC_by (lv : List ByteArray) (ls : List Branch) (ss : List Session) (i : Nat) : isBy (snC lv ls ss i) := by
  have one : ∀ x, isBy [wu8 x] := fun x y hy => by rw [List.mem_singleton] at hy; subst hy; exact wu8_range x
  have app : ∀ {a b : List Int}, isBy a → isBy b → isBy (a ++ b) := fun ha hb y hy => (List.mem_append.1 hy).elim (ha y) (hb y)
  have flat : ∀ {α : Type} (g : α → List Int) (l : List α), (∀ x, isBy (g x)) → isBy (l.flatMap g) := fun g l h y hy => by
    obtain ⟨x, _, hx⟩ := List.mem_flatMap.1 hy
    exact h x y hx
  have two : ∀ x z, isBy [wu8 x, wu8 z] := fun x z => app (a := [wu8 x]) (one x) (one z)
  have three : ∀ x z w, isBy [wu8 x, wu8 z, wu8 w] := fun x z w => app (a := [wu8 x]) (one x) (two z w)
  have gp : ∀ x, isBy (gP x) := fun x => app (app (app (one _) (bytesOf_by _)) (one _)) (bytesOf_by _)
  have gs : ∀ x, isBy (gS x) := fun x => app (app (app (two _ _) (two _ _)) (three _ _ _)) (bytesOf_by _)
  exact app (app (app (app (app (one _) (flat _ _ bytesOf_by)) (one _)) (flat _ _ gp)) (one _)) (flat _ _ gs)
end Mir.Y
