/- The models are what the functions do. -/
import Derived.Test.YtbepkbaemapkjaaKP2
namespace Mir.Y
set_option linter.unusedVariables false
set_option maxRecDepth 10000
open Go Go.Proofs Mir
namespace laws_eqLeadS
noncomputable def code : Code := Try.f42.body.getD .skip
abbrev live : Live := [(4, [0, 1, 5])]
noncomputable def G (N : Nat) : Ctx E := gam [(83, [], laws_eqLead.sp N)]
noncomputable def loop4 : Code := codeAt code [1, 1, 0, 1, 0]
noncomputable def body4 : Code := codeAt loop4 [0]
noncomputable def K4 (N : Nat) (o0 : Orc E R) : KT E R := kAt T (G N) live [] o0 code [1, 1, 0, 1, 0] (kfin T Try.f42 (sp N))
noncomputable def St4 (a0 : List Lead) (a1 : List Lead) : Int → St E
  | v2 => { ρ := [(0, .c (.at (.ro 78 (.st 78) a0))), (1, .c (.at (.ro 78 (.st 78) a1))), (5, .c (.at (.int .i64 v2)))], H := [], nx := 0, n := 27, pin := [] }
noncomputable def m0 (N : Nat) (a0 : List Lead) (a1 : List Lead) (lp4 : Int → Option R) : Option R :=
  bif ((a0.length : Int) != (a1.length : Int)) then
    some false
  else
  lp4 (0:Int)
theorem run (N : Nat) (o0 : Orc E R) (a0 : List Lead) (a1 : List Lead) : runF T (G N) live [] Try.f42 code (sp N) o0 (a0, a1, ()) = m0 N a0 a1 (fun a => o0 loop4 (K4 N o0) (St4 a0 a1 a)) := by kernel_rfl
theorem body4_0 (N : Nat) (o0 : Orc E R) (o1 : Orc E R) (q1 : St E → Option R) (a0 : List Lead) (a1 : List Lead) (v2 : Int) : runA T (G N) live [] o1 body4 (St4 a0 a1 v2) (kloop [0, 1, 5] q1 (K4 N o0)) = step4 N a0 a1 (fun a => q1 (St4 a0 a1 a)) v2 := by kernel_rfl
theorem lp4_eq (N : Nat) (a0 : List Lead) (a1 : List Lead) (a : Int) : (orc T (G N) live [] N 2) loop4 (K4 N (orc T (G N) live [] N 2)) (St4 a0 a1 a) = lp4 N a0 a1 a :=
  (orc_loop (b := body4) (live := [0, 1, 5]) (by kernel_rfl)).trans (iter_eq (St4 a0 a1) _ _ (fun q1 a => by
    have hc := congrFun (congrFun (rfl : (step4 N a0 a1) = (step4 N a0 a1)) (fun a => q1 (St4 a0 a1 a))) a
    exact (body4_0 N (orc T (G N) live [] N 2) (orc T (G N) live [] N 1) q1 a0 a1 a).trans hc) N a)
theorem G_ok (N : Nat) : GamOK Try.prog (G N) := gam_ok (l := [(83, [], laws_eqLead.sp N)]) (⟨laws_eqLead.snd N, trivial⟩)
theorem snd (N : Nat) : Sound Try.prog E 42 (sp N) :=
  Mir.sound T_OK (G_ok N) mixed Try.func42 (c := code) (by kernel_rfl) (by kernel_rfl) (sp N) (Nat.le_of_ble_eq_true (by kernel_rfl)) live [] (by
    rintro ⟨a0, a1, _⟩ r h
    exact ⟨N, 2, ((run N _ a0 a1).trans (congrArg (m0 N a0 a1) (funext fun a => lp4_eq N a0 a1 a))).trans h⟩)
end laws_eqLeadS
namespace laws_eqDone
noncomputable def code : Code := Try.f84.body.getD .skip
abbrev live : Live := []
noncomputable def G (N : Nat) : Ctx E := gam [(115, [], laws_eqEntry.sp N)]
noncomputable def m0 (N : Nat) (a0 : Done) (a1 : Done) : Option R :=
  bif (a0.Node != a1.Node) then
    some false
  else
  bif (a0.Term != a1.Term) then
    some false
  else
  bif (a0.Index != a1.Index) then
    some false
  else
  ob (laws_eqEntry.m N (Entry.mk a0.Entry.Term a0.Entry.Kind a0.Entry.Data) (Entry.mk a1.Entry.Term a1.Entry.Kind a1.Entry.Data)) fun y1 =>
  bif (!y1) then
    some false
  else
  some true
theorem run (N : Nat) (o0 : Orc E R) (a0 : Done) (a1 : Done) : runF T (G N) live [] Try.f84 code (sp N) o0 (a0, a1, ()) = m0 N a0 a1 := by kernel_rfl
theorem G_ok (N : Nat) : GamOK Try.prog (G N) := gam_ok (l := [(115, [], laws_eqEntry.sp N)]) (⟨laws_eqEntry.snd N, trivial⟩)
theorem snd (N : Nat) : Sound Try.prog E 84 (sp N) :=
  Mir.sound T_OK (G_ok N) mixed Try.func84 (c := code) (by kernel_rfl) (by kernel_rfl) (sp N) (Nat.le_of_ble_eq_true (by kernel_rfl)) live [] (by
    rintro ⟨a0, a1, _⟩ r h
    exact ⟨N, 2, ((run N _ a0 a1).trans rfl).trans h⟩)
end laws_eqDone
namespace laws_eqDoneS
noncomputable def code : Code := Try.f43.body.getD .skip
abbrev live : Live := [(4, [0, 1, 5])]
noncomputable def G (N : Nat) : Ctx E := gam [(84, [], laws_eqDone.sp N)]
noncomputable def loop4 : Code := codeAt code [1, 1, 0, 1, 0]
noncomputable def body4 : Code := codeAt loop4 [0]
noncomputable def K4 (N : Nat) (o0 : Orc E R) : KT E R := kAt T (G N) live [] o0 code [1, 1, 0, 1, 0] (kfin T Try.f43 (sp N))
noncomputable def St4 (a0 : List Done) (a1 : List Done) : Int → St E
  | v2 => { ρ := [(0, .c (.at (.ro 66 (.st 66) a0))), (1, .c (.at (.ro 66 (.st 66) a1))), (5, .c (.at (.int .i64 v2)))], H := [], nx := 0, n := 27, pin := [] }
noncomputable def m0 (N : Nat) (a0 : List Done) (a1 : List Done) (lp4 : Int → Option R) : Option R :=
  bif ((a0.length : Int) != (a1.length : Int)) then
    some false
  else
  lp4 (0:Int)
theorem run (N : Nat) (o0 : Orc E R) (a0 : List Done) (a1 : List Done) : runF T (G N) live [] Try.f43 code (sp N) o0 (a0, a1, ()) = m0 N a0 a1 (fun a => o0 loop4 (K4 N o0) (St4 a0 a1 a)) := by kernel_rfl
theorem body4_0 (N : Nat) (o0 : Orc E R) (o1 : Orc E R) (q1 : St E → Option R) (a0 : List Done) (a1 : List Done) (v2 : Int) : runA T (G N) live [] o1 body4 (St4 a0 a1 v2) (kloop [0, 1, 5] q1 (K4 N o0)) = step4 N a0 a1 (fun a => q1 (St4 a0 a1 a)) v2 := by kernel_rfl
theorem lp4_eq (N : Nat) (a0 : List Done) (a1 : List Done) (a : Int) : (orc T (G N) live [] N 2) loop4 (K4 N (orc T (G N) live [] N 2)) (St4 a0 a1 a) = lp4 N a0 a1 a :=
  (orc_loop (b := body4) (live := [0, 1, 5]) (by kernel_rfl)).trans (iter_eq (St4 a0 a1) _ _ (fun q1 a => by
    have hc := congrFun (congrFun (rfl : (step4 N a0 a1) = (step4 N a0 a1)) (fun a => q1 (St4 a0 a1 a))) a
    exact (body4_0 N (orc T (G N) live [] N 2) (orc T (G N) live [] N 1) q1 a0 a1 a).trans hc) N a)
theorem G_ok (N : Nat) : GamOK Try.prog (G N) := gam_ok (l := [(84, [], laws_eqDone.sp N)]) (⟨laws_eqDone.snd N, trivial⟩)
theorem snd (N : Nat) : Sound Try.prog E 43 (sp N) :=
  Mir.sound T_OK (G_ok N) mixed Try.func43 (c := code) (by kernel_rfl) (by kernel_rfl) (sp N) (Nat.le_of_ble_eq_true (by kernel_rfl)) live [] (by
    rintro ⟨a0, a1, _⟩ r h
    exact ⟨N, 2, ((run N _ a0 a1).trans (congrArg (m0 N a0 a1) (funext fun a => lp4_eq N a0 a1 a))).trans h⟩)
end laws_eqDoneS
namespace laws_eqGroup
noncomputable def code : Code := Try.f12.body.getD .skip
abbrev live : Live := []
noncomputable def G (N : Nat) : Ctx E := gam [(40, [], laws_eqNodeS.sp N), (41, [], laws_eqMessageS.sp N), (42, [], laws_eqLeadS.sp N), (43, [], laws_eqDoneS.sp N)]
noncomputable def m0 (N : Nat) (a0 : Group) (a1 : Group) : Option R :=
  ob (laws_eqNodeS.m N a0.Nodes a1.Nodes) fun y1 =>
  bif (!y1) then
    some false
  else
  ob (laws_eqMessageS.m N a0.Wire a1.Wire) fun y2 =>
  bif (!y2) then
    some false
  else
  ob (laws_eqLeadS.m N a0.Leads a1.Leads) fun y3 =>
  bif (!y3) then
    some false
  else
  ob (laws_eqDoneS.m N a0.Dones a1.Dones) fun y4 =>
  bif (!y4) then
    some false
  else
  some true
theorem run (N : Nat) (o0 : Orc E R) (a0 : Group) (a1 : Group) : runF T (G N) live [] Try.f12 code (sp N) o0 (a0, a1, ()) = m0 N a0 a1 := by kernel_rfl
theorem G_ok (N : Nat) : GamOK Try.prog (G N) := gam_ok (l := [(40, [], laws_eqNodeS.sp N), (41, [], laws_eqMessageS.sp N), (42, [], laws_eqLeadS.sp N), (43, [], laws_eqDoneS.sp N)]) (⟨laws_eqNodeS.snd N, laws_eqMessageS.snd N, laws_eqLeadS.snd N, laws_eqDoneS.snd N, trivial⟩)
theorem snd (N : Nat) : Sound Try.prog E 12 (sp N) :=
  Mir.sound T_OK (G_ok N) mixed Try.func12 (c := code) (by kernel_rfl) (by kernel_rfl) (sp N) (Nat.le_of_ble_eq_true (by kernel_rfl)) live [] (by
    rintro ⟨a0, a1, _⟩ r h
    exact ⟨N, 2, ((run N _ a0 a1).trans rfl).trans h⟩)
end laws_eqGroup
namespace laws_FnExactCommitsAgree
noncomputable def code : Code := Try.f3.body.getD .skip
abbrev live : Live := []
noncomputable def G (N : Nat) : Ctx E := gam [(8, [], laws_szGroup.sp N), (10, [], laws_toGroup.sp N), (9, [], spec_CommitsAgree.sp N), (11, [], impl_CommitsAgree.sp N), (12, [], laws_eqGroup.sp N)]
noncomputable def m0 (N : Nat) (a0 : Group) : Option R :=
  ob (laws_szGroup.m N (Group.mk a0.Nodes a0.Wire a0.Leads a0.Dones) (1048576:Int)) fun y1 =>
  bif (decide (y1 < (0:Int))) then
    some true
  else
  ob (laws_toGroup.m N (Group.mk a0.Nodes a0.Wire a0.Leads a0.Dones)) fun y2 =>
  ob (spec_CommitsAgree.m N y2) fun y3 =>
  ob (laws_toGroup.m N a0) fun y4 =>
  ob (impl_CommitsAgree.m N y4) fun y5 =>
  bif (!(y5.1 == y3.1)) then
    some false
  else
  bif (bif false then true else (y5.2 != y3.2)) then
    some false
  else
  ob (laws_toGroup.m N a0) fun y6 =>
  ob (laws_eqGroup.m N y4 y6) fun y7 =>
  bif (!y7) then
    some false
  else
  some true
theorem run (N : Nat) (o0 : Orc E R) (a0 : Group) : runF T (G N) live [] Try.f3 code (sp N) o0 (a0, ()) = m0 N a0 := by kernel_rfl
theorem G_ok (N : Nat) : GamOK Try.prog (G N) := gam_ok (l := [(8, [], laws_szGroup.sp N), (10, [], laws_toGroup.sp N), (9, [], spec_CommitsAgree.sp N), (11, [], impl_CommitsAgree.sp N), (12, [], laws_eqGroup.sp N)]) (⟨laws_szGroup.snd N, laws_toGroup.snd N, spec_CommitsAgree.snd N, impl_CommitsAgree.snd N, laws_eqGroup.snd N, trivial⟩)
theorem snd (N : Nat) : Sound Try.prog E 3 (sp N) :=
  Mir.sound T_OK (G_ok N) mixed Try.func3 (c := code) (by kernel_rfl) (by kernel_rfl) (sp N) (Nat.le_of_ble_eq_true (by kernel_rfl)) live [] (by
    rintro ⟨a0, _⟩ r h
    exact ⟨N, 2, ((run N _ a0).trans rfl).trans h⟩)
end laws_FnExactCommitsAgree
end Mir.Y
