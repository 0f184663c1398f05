/- The mirror machine: a law's arguments. -/
import Derived.Test.YtbepkbaemapkjaaMir28
import Derived.WideShapes
namespace Mir
set_option linter.unusedVariables false
set_option linter.unusedSimpArgs false
open Go
variable {E : Env} {P : Program} {W : World}
/-- A data type's cells, its type: the first level shows what the value is. -/
def tyB (E : Env) (P : Program) (d : Nat) (t : TypeId) : Ty → Bool
  | .st n => (match P.underlying t with | some (.struct _) => true | _ => false) && cellsB E P d t (E.fl n)
  | ty => (match P.underlying t with | some (.struct _) => false | _ => true) && cellsB E P d t [ty]
theorem open_val {H : Type} {enc : TypeId × Value → H} {base b0 : Nat} {spare : Nat → Bool} {held : Bool} {r : Reach} (d : Nat) (t : TypeId) (ty : Ty) (hc : tyB E P d t ty = true) {v : Value} {x : DataW H} {ps : List MemPlace} (hval : Value.okWide P W r b0 t v) (hd : DataW.Trod enc P W base spare held t v x ps) :
    ∃ y : Ty.D E.S ty, RoV E W (InHeap W) ty y v ∧ ∃ n, WfE E (WfA E n) ty y := by
  obtain ⟨fuel, hf⟩ := hd
  cases ty with
  | st n =>
    simp only [tyB, Bool.and_eq_true] at hc
    obtain ⟨h1, h2⟩ := hc
    split at h1
    · rename_i fs hu
      obtain ⟨cs, rfl, _⟩ := WideShapes.okWide_struct hu hval
      obtain ⟨m, hm⟩ := open_cells (H := H) (enc := enc) (base := base) (spare := spare) (held := held) (W := W) d t _ h2
      obtain ⟨h, h3, h4⟩ := hm fuel _ _ hf
      refine ⟨E.shut n h, ⟨cs.toList, m, by simp, by rw [E.opn_shut]; exact h3⟩, m, ?_⟩
      show WfL E (WfA E m) (E.fl n) (E.opn n (E.shut n h))
      rw [E.opn_shut]; exact h4
    · cases h1
  | arr k n =>
    simp only [tyB, Bool.and_eq_true] at hc
    obtain ⟨m, hm⟩ := open_cells (H := H) (enc := enc) (base := base) (spare := spare) (held := held) (W := W) d t _ hc.2
    obtain ⟨h, h3, h4⟩ := hm fuel _ _ hf
    have h5 : WfA E m (.arr k n) h.1 := h4.1
    cases m <;> exact h5.elim
  | pbx b n =>
    simp only [tyB, Bool.and_eq_true] at hc
    obtain ⟨m, hm⟩ := open_cells (H := H) (enc := enc) (base := base) (spare := spare) (held := held) (W := W) d t _ hc.2
    obtain ⟨h, h3, h4⟩ := hm fuel _ _ hf
    have h5 : WfA E m (.pbx b n) h.1 := h4.1
    cases m <;> exact False.elim h5
  | _ =>
    simp only [tyB, Bool.and_eq_true] at hc
    obtain ⟨h1, h2⟩ := hc
    obtain ⟨m, hm⟩ := open_cells (H := H) (enc := enc) (base := base) (spare := spare) (held := held) (W := W) d t _ h2
    obtain ⟨h, h3, h4⟩ := hm fuel _ _ hf
    obtain ⟨w, r', hw, ha, hr⟩ := h3
    rw [RoL] at hr
    subst hr
    have hcell : v.cells.toList = [v] := by
      cases d with
      | zero => cases h2
      | succ d =>
        unfold cellsB at h2
        split at h2
        · rename_i hu _; obtain ⟨_, rfl⟩ := WideShapes.okWide_int hu hval; rfl
        · rename_i hu _; obtain ⟨_, rfl⟩ := WideShapes.okWide_bool hu hval; rfl
        · rename_i hu _; obtain ⟨_, rfl⟩ := WideShapes.okWide_string hu hval; rfl
        · rename_i hu _; obtain ⟨_, _, _, rfl⟩ := WideShapes.okWide_slice hu hval; rfl
        · rename_i hu; rw [hu] at h1; cases h1
        · cases h2
    rw [hcell] at hw
    cases hw
    exact ⟨h.1, ⟨m, ha⟩, m, h4.1⟩
end Mir
