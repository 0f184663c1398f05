/- Pure laws: NewGroup. -/
import Derived.Test.YtigmgeablmomnaaWM2
import Derived.Test.YtigmgeablmomnaaMir32
namespace Mir.Y
set_option linter.unusedVariables false
set_option linter.unusedSimpArgs false
open Go
theorem newGroup1 : laws_FnExactNewGroup.m 64 1 = some true := by kernel_rfl
theorem newGroup2 : laws_FnExactNewGroup.m 64 2 = some true := by kernel_rfl
theorem newGroup3 : laws_FnExactNewGroup.m 64 3 = some true := by kernel_rfl
theorem newGroup4 : laws_FnExactNewGroup.m 64 4 = some true := by kernel_rfl
theorem newGroup5 : laws_FnExactNewGroup.m 64 5 = some true := by kernel_rfl
theorem newGroupNo : (ob (laws_eqGroup.m 64 (Group.mk ([] : List Node) ([] : List Message) ([] : List Lead) ([] : List Done)) (Group.mk ([] : List Node) ([] : List Message) ([] : List Lead) ([] : List Done))) fun y => some y) = some true := by kernel_rfl
theorem newGroupM : (ob (laws_markGroup.m 64 (Group.mk ([] : List Node) ([] : List Message) ([] : List Lead) ([] : List Done)) 1) fun y => ob (laws_heldGroup.m 64 (Group.mk y.2.Nodes y.2.Wire y.2.Leads y.2.Dones) 1) fun z => some (z, y.1)) = some (1, 1) := by kernel_rfl
theorem newGroupOut (a0 : Int) (h : (decide (a0 ≥ 1) && decide (a0 ≤ 5)) = false) : laws_FnExactNewGroup.m 64 a0 = some true := by
  have h1 : spec_l01In.m 64 a0 1 5 = some false := by
    unfold spec_l01In.m
    cases h2 : decide (a0 ≥ 1) with
    | false => rfl
    | true => rw [h2, Bool.true_and] at h; rw [h]; rfl
  have h2 : impl_within.m 64 a0 1 5 = some false := h1
  have e1 : spec_NewGroup.m 64 a0 = some (Group.mk ([] : List Node) ([] : List Message) ([] : List Lead) ([] : List Done), 4) := by unfold spec_NewGroup.m; rw [h1]; rfl
  have e2 : impl_NewGroup.m 64 a0 = some (Group.mk ([] : List Node) ([] : List Message) ([] : List Lead) ([] : List Done), 4) := by unfold impl_NewGroup.m; rw [h2]; rfl
  unfold laws_FnExactNewGroup.m
  rw [e1, e2]
  change _ = some true
  kernel_rfl
theorem pureNewGroup (a0 : Int) (h0 : ∃ n, WfE E (WfA E n) (.int .i64) a0) : ∃ N, laws_FnExactNewGroup.m N a0 = some true := by
  refine ⟨64, ?_⟩
  cases h : (decide (a0 ≥ 1) && decide (a0 ≤ 5)) with
  | false => exact newGroupOut a0 h
  | true =>
    simp only [Bool.and_eq_true, decide_eq_true_eq] at h
    rcases (by omega : a0 = 1 ∨ a0 = 2 ∨ a0 = 3 ∨ a0 = 4 ∨ a0 = 5) with rfl | rfl | rfl | rfl | rfl
    · exact newGroup1
    · exact newGroup2
    · exact newGroup3
    · exact newGroup4
    · exact newGroup5
end Mir.Y
