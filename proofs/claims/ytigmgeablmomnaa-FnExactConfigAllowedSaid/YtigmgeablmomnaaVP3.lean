/- The models are what the functions do. -/
import Derived.Test.YtigmgeablmomnaaVP2
namespace Mir.Y
set_option linter.unusedVariables false
set_option maxRecDepth 10000
open Go Go.Proofs Mir
namespace slices_Index_int_int
noncomputable def code : Code := Try.f167.body.getD .skip
abbrev live : Live := [(2, [0, 1, 7, 8])]
noncomputable def G (N : Nat) : Ctx E := gam []
noncomputable def loop2 : Code := codeAt code [1, 0, 1, 0]
noncomputable def body2 : Code := codeAt loop2 [0]
noncomputable def K2 (N : Nat) (o0 : Orc E R) : KT E R := kAt T (G N) live [] o0 code [1, 0, 1, 0] (kfin T Try.f167 (sp N))
noncomputable def St2 (a0 : List Int) (a1 : Int) : (Int × Int) → St E
  | (v2, v3) => { ρ := [(0, .c (.at (.ro 3 (.int .i64) a0))), (1, .c (.at (.int .i64 a1))), (7, .c (.at (.int .i64 v2))), (8, .c (.at (.int .i64 v3)))], H := [], nx := 0, n := 19, pin := [] }
noncomputable def m0 (N : Nat) (a0 : List Int) (a1 : Int) (lp2 : Int × Int → Option R) : Option R :=
  lp2 ((a0.length : Int), (0:Int))
theorem run (N : Nat) (o0 : Orc E R) (a0 : List Int) (a1 : Int) : runF T (G N) live [] Try.f167 code (sp N) o0 (a0, a1, ()) = m0 N a0 a1 (fun a => o0 loop2 (K2 N o0) (St2 a0 a1 a)) := by kernel_rfl
theorem body2_0 (N : Nat) (o0 : Orc E R) (o1 : Orc E R) (q1 : St E → Option R) (a0 : List Int) (a1 : Int) (v2 : Int) (v3 : Int) : runA T (G N) live [] o1 body2 (St2 a0 a1 (v2, v3)) (kloop [0, 1, 7, 8] q1 (K2 N o0)) = step2 N a0 a1 (fun a => q1 (St2 a0 a1 a)) (v2, v3) := by kernel_rfl
theorem lp2_eq (N : Nat) (a0 : List Int) (a1 : Int) (a : Int × Int) : (orc T (G N) live [] N 2) loop2 (K2 N (orc T (G N) live [] N 2)) (St2 a0 a1 a) = lp2 N a0 a1 a :=
  (orc_loop (b := body2) (live := [0, 1, 7, 8]) (by kernel_rfl)).trans (iter_eq (St2 a0 a1) _ _ (fun q1 a => by
    have hc := congrFun (congrFun (rfl : (step2 N a0 a1) = (step2 N a0 a1)) (fun a => q1 (St2 a0 a1 a))) a
    obtain ⟨u0, u1⟩ := a
    exact (body2_0 N (orc T (G N) live [] N 2) (orc T (G N) live [] N 1) q1 a0 a1 u0 u1).trans hc) N a)
theorem G_ok (N : Nat) : GamOK Try.prog (G N) := gam_ok (l := []) (trivial)
theorem snd (N : Nat) : Sound Try.prog E 167 (sp N) :=
  Mir.sound T_OK (G_ok N) mixed Try.func167 (c := code) (by kernel_rfl) (by kernel_rfl) (sp N) (Nat.le_of_ble_eq_true (by kernel_rfl)) live [] (by
    rintro ⟨a0, a1, _⟩ r h
    exact ⟨N, 2, ((run N _ a0 a1).trans (congrArg (m0 N a0 a1) (funext fun a => lp2_eq N a0 a1 a))).trans h⟩)
end slices_Index_int_int
namespace slices_Contains_int_int
noncomputable def code : Code := Try.f139.body.getD .skip
abbrev live : Live := []
noncomputable def G (N : Nat) : Ctx E := gam [(167, [], slices_Index_int_int.sp N)]
noncomputable def m0 (N : Nat) (a0 : List Int) (a1 : Int) : Option R :=
  ob (slices_Index_int_int.m N a0 a1) fun y1 =>
  some (decide (y1 ≥ (0:Int)))
theorem run (N : Nat) (o0 : Orc E R) (a0 : List Int) (a1 : Int) : runF T (G N) live [] Try.f139 code (sp N) o0 (a0, a1, ()) = m0 N a0 a1 := by kernel_rfl
theorem G_ok (N : Nat) : GamOK Try.prog (G N) := gam_ok (l := [(167, [], slices_Index_int_int.sp N)]) (⟨slices_Index_int_int.snd N, trivial⟩)
theorem snd (N : Nat) : Sound Try.prog E 139 (sp N) :=
  Mir.sound T_OK (G_ok N) mixed Try.func139 (c := code) (by kernel_rfl) (by kernel_rfl) (sp N) (Nat.le_of_ble_eq_true (by kernel_rfl)) live [] (by
    rintro ⟨a0, a1, _⟩ r h
    exact ⟨N, 2, ((run N _ a0 a1).trans rfl).trans h⟩)
end slices_Contains_int_int
namespace impl_configAllowed_1
noncomputable def code : Code := Try.f154.body.getD .skip
abbrev live : Live := []
noncomputable def G (N : Nat) : Ctx E := gam []
noncomputable def m0 (N : Nat) (a0 : Entry) : Option R :=
  some (a0.Kind == (2:Int))
theorem run (N : Nat) (o0 : Orc E R) (a0 : Entry) : runF T (G N) live [] Try.f154 code (sp N) o0 (a0, ()) = m0 N a0 := by kernel_rfl
theorem G_ok (N : Nat) : GamOK Try.prog (G N) := gam_ok (l := []) (trivial)
theorem snd (N : Nat) : Sound Try.prog E 154 (sp N) :=
  Mir.sound T_OK (G_ok N) mixed Try.func154 (c := code) (by kernel_rfl) (by kernel_rfl) (sp N) (Nat.le_of_ble_eq_true (by kernel_rfl)) live [] (by
    rintro ⟨a0, _⟩ r h
    exact ⟨N, 2, ((run N _ a0).trans rfl).trans h⟩)
end impl_configAllowed_1
namespace slices_IndexFunc_impl_Entry_impl_Entry__impl_configAllowed_1
noncomputable def code : Code := Try.f170.body.getD .skip
abbrev live : Live := [(2, [0, 1, 7, 8])]
noncomputable def G (N : Nat) : Ctx E := gam [(154, [], impl_configAllowed_1.sp N)]
noncomputable def loop2 : Code := codeAt code [1, 0, 1, 0]
noncomputable def body2 : Code := codeAt loop2 [0]
noncomputable def K2 (N : Nat) (o0 : Orc E R) : KT E R := kAt T (G N) live [] o0 code [1, 0, 1, 0] (kfin T Try.f170 (sp N))
noncomputable def St2 (a0 : List Entry) : (Int × Int) → St E
  | (v1, v2) => { ρ := [(0, .c (.at (.ro 96 (.st 96) a0))), (1, .clo 154 []), (7, .c (.at (.int .i64 v1))), (8, .c (.at (.int .i64 v2)))], H := [], nx := 0, n := 19, pin := [] }
noncomputable def m0 (N : Nat) (a0 : List Entry) (lp2 : Int × Int → Option R) : Option R :=
  lp2 ((a0.length : Int), (0:Int))
theorem run (N : Nat) (o0 : Orc E R) (a0 : List Entry) : runF T (G N) live [] Try.f170 code (sp N) o0 (a0, (), ()) = m0 N a0 (fun a => o0 loop2 (K2 N o0) (St2 a0 a)) := by kernel_rfl
theorem body2_0 (N : Nat) (o0 : Orc E R) (o1 : Orc E R) (q1 : St E → Option R) (a0 : List Entry) (v1 : Int) (v2 : Int) : runA T (G N) live [] o1 body2 (St2 a0 (v1, v2)) (kloop [0, 1, 7, 8] q1 (K2 N o0)) = step2 N a0 (fun a => q1 (St2 a0 a)) (v1, v2) := by kernel_rfl
theorem lp2_eq (N : Nat) (a0 : List Entry) (a : Int × Int) : (orc T (G N) live [] N 2) loop2 (K2 N (orc T (G N) live [] N 2)) (St2 a0 a) = lp2 N a0 a :=
  (orc_loop (b := body2) (live := [0, 1, 7, 8]) (by kernel_rfl)).trans (iter_eq (St2 a0) _ _ (fun q1 a => by
    have hc := congrFun (congrFun (rfl : (step2 N a0) = (step2 N a0)) (fun a => q1 (St2 a0 a))) a
    obtain ⟨u0, u1⟩ := a
    exact (body2_0 N (orc T (G N) live [] N 2) (orc T (G N) live [] N 1) q1 a0 u0 u1).trans hc) N a)
theorem G_ok (N : Nat) : GamOK Try.prog (G N) := gam_ok (l := [(154, [], impl_configAllowed_1.sp N)]) (⟨impl_configAllowed_1.snd N, trivial⟩)
theorem snd (N : Nat) : Sound Try.prog E 170 (sp N) :=
  Mir.sound T_OK (G_ok N) mixed Try.func170 (c := code) (by kernel_rfl) (by kernel_rfl) (sp N) (Nat.le_of_ble_eq_true (by kernel_rfl)) live [] (by
    rintro ⟨a0, _, _⟩ r h
    exact ⟨N, 2, ((run N _ a0).trans (congrArg (m0 N a0) (funext fun a => lp2_eq N a0 a))).trans h⟩)
end slices_IndexFunc_impl_Entry_impl_Entry__impl_configAllowed_1
namespace slices_ContainsFunc_impl_Entry_impl_Entry__impl_configAllowed_1
noncomputable def code : Code := Try.f153.body.getD .skip
abbrev live : Live := []
noncomputable def G (N : Nat) : Ctx E := gam [(170, [154], slices_IndexFunc_impl_Entry_impl_Entry__impl_configAllowed_1.sp N)]
noncomputable def m0 (N : Nat) (a0 : List Entry) : Option R :=
  ob (slices_IndexFunc_impl_Entry_impl_Entry__impl_configAllowed_1.m N a0) fun y1 =>
  some (decide (y1 ≥ (0:Int)))
theorem run (N : Nat) (o0 : Orc E R) (a0 : List Entry) : runF T (G N) live [] Try.f153 code (sp N) o0 (a0, (), ()) = m0 N a0 := by kernel_rfl
theorem G_ok (N : Nat) : GamOK Try.prog (G N) := gam_ok (l := [(170, [154], slices_IndexFunc_impl_Entry_impl_Entry__impl_configAllowed_1.sp N)]) (⟨slices_IndexFunc_impl_Entry_impl_Entry__impl_configAllowed_1.snd N, trivial⟩)
theorem snd (N : Nat) : Sound Try.prog E 153 (sp N) :=
  Mir.sound T_OK (G_ok N) mixed Try.func153 (c := code) (by kernel_rfl) (by kernel_rfl) (sp N) (Nat.le_of_ble_eq_true (by kernel_rfl)) live [] (by
    rintro ⟨a0, _, _⟩ r h
    exact ⟨N, 2, ((run N _ a0).trans rfl).trans h⟩)
end slices_ContainsFunc_impl_Entry_impl_Entry__impl_configAllowed_1
namespace impl_Node_termAt
noncomputable def code : Code := Try.f127.body.getD .skip
abbrev live : Live := []
noncomputable def G (N : Nat) : Ctx E := gam []
noncomputable def m0 (N : Nat) (a0 : Node) (a1 : Int) : Option R :=
  bif (a1 == (0:Int)) then
    some (0:Int)
  else
  bif (decide (0 ≤ (w64 (a1 - (1:Int))))) then
  bif (decide ((w64 (a1 - (1:Int))) < (a0.Log.length : Int))) then
  some ((a0.Log.getD (Int.toNat (w64 (a1 - (1:Int)))) Entry.dz).Term)
  else none
  else none
theorem run (N : Nat) (o0 : Orc E R) (a0 : Node) (a1 : Int) : runF T (G N) live [] Try.f127 code (sp N) o0 (a0, a1, ()) = m0 N a0 a1 := by kernel_rfl
theorem G_ok (N : Nat) : GamOK Try.prog (G N) := gam_ok (l := []) (trivial)
theorem snd (N : Nat) : Sound Try.prog E 127 (sp N) :=
  Mir.sound T_OK (G_ok N) mixed Try.func127 (c := code) (by kernel_rfl) (by kernel_rfl) (sp N) (Nat.le_of_ble_eq_true (by kernel_rfl)) live [] (by
    rintro ⟨a0, a1, _⟩ r h
    exact ⟨N, 2, ((run N _ a0 a1).trans rfl).trans h⟩)
end impl_Node_termAt
namespace impl_configAllowed
noncomputable def code : Code := Try.f115.body.getD .skip
abbrev live : Live := [(3, [1, 2, 5, 6, 11])]
noncomputable def G (N : Nat) : Ctx E := gam [(75, [], impl_Node_members.sp N), (139, [], slices_Contains_int_int.sp N), (153, [154], slices_ContainsFunc_impl_Entry_impl_Entry__impl_configAllowed_1.sp N), (127, [], impl_Node_termAt.sp N)]
noncomputable def loop3 : Code := codeAt code [1, 1, 0, 1, 0]
noncomputable def body3 : Code := codeAt loop3 [0]
noncomputable def K3 (N : Nat) (o0 : Orc E R) : KT E R := kAt T (G N) live [] o0 code [1, 1, 0, 1, 0] (kfin T Try.f115 (sp N))
noncomputable def St3 (a0 : Node) (a1 : List Int) : (Int × Int × (List Int)) → St E
  | (v1, v2, v16) => { ρ := [(1, .c (.at (.ro 3 (.int .i64) a1))), (2, .c (.at (.ptr 0 0))), (5, .c (.at (.own 1))), (6, .c (.at (.int .i64 v1))), (11, .c (.at (.int .i64 v2)))], H := [(0, .box 25 [.int .i64 a0.Id, .int .i64 a0.Term, .int .i64 a0.Vote, .ro 96 (.st 96) a0.Log, .ro 3 (.int .i64) a0.Start, .int .i64 a0.Role, .ro 3 (.int .i64) a0.Votes, .ro 3 (.int .i64) a0.Next, .ro 3 (.int .i64) a0.Match, .int .i64 a0.Commit, .int .i64 a0.Elapsed, .int .i64 a0.Wait, .bool a0.Up]), (1, .row 3 (.int .i64) v16 false)], nx := 2, n := 55, pin := [] }
noncomputable def m0 (N : Nat) (a0 : Node) (a1 : List Int) (lp3 : Int × Int × (List Int) → Option R) : Option R :=
  ob (impl_Node_members.m N a0) fun y1 =>
  lp3 ((0:Int), (0:Int), y1)
theorem run (N : Nat) (o0 : Orc E R) (a0 : Node) (a1 : List Int) : runF T (G N) live [] Try.f115 code (sp N) o0 (a0, a1, ()) = m0 N a0 a1 (fun a => o0 loop3 (K3 N o0) (St3 a0 a1 a)) := by kernel_rfl
theorem body3_0 (N : Nat) (o0 : Orc E R) (o1 : Orc E R) (q1 : St E → Option R) (a0 : Node) (a1 : List Int) (v1 : Int) (v2 : Int) (v16 : List Int) : runA T (G N) live [] o1 body3 (St3 a0 a1 (v1, v2, v16)) (kloop [1, 2, 5, 6, 11] q1 (K3 N o0)) = step3 N a0 a1 (fun a => q1 (St3 a0 a1 a)) (v1, v2, v16) := by kernel_rfl
theorem lp3_eq (N : Nat) (a0 : Node) (a1 : List Int) (a : Int × Int × (List Int)) : (orc T (G N) live [] N 2) loop3 (K3 N (orc T (G N) live [] N 2)) (St3 a0 a1 a) = lp3 N a0 a1 a :=
  (orc_loop (b := body3) (live := [1, 2, 5, 6, 11]) (by kernel_rfl)).trans (iter_eq (St3 a0 a1) _ _ (fun q1 a => by
    have hc := congrFun (congrFun (rfl : (step3 N a0 a1) = (step3 N a0 a1)) (fun a => q1 (St3 a0 a1 a))) a
    obtain ⟨u0, u1, u2⟩ := a
    exact (body3_0 N (orc T (G N) live [] N 2) (orc T (G N) live [] N 1) q1 a0 a1 u0 u1 u2).trans hc) N a)
theorem G_ok (N : Nat) : GamOK Try.prog (G N) := gam_ok (l := [(75, [], impl_Node_members.sp N), (139, [], slices_Contains_int_int.sp N), (153, [154], slices_ContainsFunc_impl_Entry_impl_Entry__impl_configAllowed_1.sp N), (127, [], impl_Node_termAt.sp N)]) (⟨impl_Node_members.snd N, slices_Contains_int_int.snd N, slices_ContainsFunc_impl_Entry_impl_Entry__impl_configAllowed_1.snd N, impl_Node_termAt.snd N, trivial⟩)
theorem snd (N : Nat) : Sound Try.prog E 115 (sp N) :=
  Mir.sound T_OK (G_ok N) mixed Try.func115 (c := code) (by kernel_rfl) (by kernel_rfl) (sp N) (Nat.le_of_ble_eq_true (by kernel_rfl)) live [] (by
    rintro ⟨a0, a1, _⟩ r h
    exact ⟨N, 2, ((run N _ a0 a1).trans (congrArg (m0 N a0 a1) (funext fun a => lp3_eq N a0 a1 a))).trans h⟩)
end impl_configAllowed
namespace impl_ConfigAllowed
noncomputable def code : Code := Try.f52.body.getD .skip
abbrev live : Live := []
noncomputable def G (N : Nat) : Ctx E := gam [(56, [], impl_isList_int.sp N), (25, [], impl_NodeOK.sp N), (58, [], impl_membersOK.sp N), (115, [], impl_configAllowed.sp N)]
noncomputable def m0 (N : Nat) (a0 : Node) (a1 : List Int) : Option R :=
  ob (impl_isList_int.m N a1) fun y1 =>
  bif (!y1) then
    some (false, (2:Int))
  else
  ob (impl_NodeOK.m N a0) fun y2 =>
  bif (!y2) then
    some (false, (1:Int))
  else
  ob (impl_membersOK.m N a1) fun y3 =>
  bif (bif false then true else (!y3)) then
    some (false, (1:Int))
  else
  ob (impl_configAllowed.m N a0 a1) fun y4 =>
  some (y4, (0:Int))
theorem run (N : Nat) (o0 : Orc E R) (a0 : Node) (a1 : List Int) : runF T (G N) live [] Try.f52 code (sp N) o0 (a0, a1, ()) = m0 N a0 a1 := by kernel_rfl
theorem G_ok (N : Nat) : GamOK Try.prog (G N) := gam_ok (l := [(56, [], impl_isList_int.sp N), (25, [], impl_NodeOK.sp N), (58, [], impl_membersOK.sp N), (115, [], impl_configAllowed.sp N)]) (⟨impl_isList_int.snd N, impl_NodeOK.snd N, impl_membersOK.snd N, impl_configAllowed.snd N, trivial⟩)
theorem snd (N : Nat) : Sound Try.prog E 52 (sp N) :=
  Mir.sound T_OK (G_ok N) mixed Try.func52 (c := code) (by kernel_rfl) (by kernel_rfl) (sp N) (Nat.le_of_ble_eq_true (by kernel_rfl)) live [] (by
    rintro ⟨a0, a1, _⟩ r h
    exact ⟨N, 2, ((run N _ a0 a1).trans rfl).trans h⟩)
end impl_ConfigAllowed
namespace laws_FnExactConfigAllowed
noncomputable def code : Code := Try.f13.body.getD .skip
abbrev live : Live := []
noncomputable def G (N : Nat) : Ctx E := gam [(22, [], laws_szNode.sp N), (24, [], laws_toNode.sp N), (15, [], laws_toIntS.sp N), (51, [], spec_ConfigAllowed.sp N), (52, [], impl_ConfigAllowed.sp N), (17, [], laws_eqNode.sp N), (18, [], laws_eqIntS.sp N)]
noncomputable def m0 (N : Nat) (a0 : Node) (a1 : List Int) : Option R :=
  bif (decide ((a1.length : Int) > (1048576:Int))) then
    some true
  else
  ob (laws_szNode.m N a0 (1048576:Int)) fun y1 =>
  bif (decide (y1 < (0:Int))) then
    some true
  else
  ob (laws_toNode.m N a0) fun y2 =>
  ob (laws_toIntS.m N a1) fun y3 =>
  ob (spec_ConfigAllowed.m N y2 y3) fun y4 =>
  ob (laws_toNode.m N a0) fun y5 =>
  ob (laws_toIntS.m N a1) fun y6 =>
  ob (impl_ConfigAllowed.m N y5 y6) fun y7 =>
  bif (!(y7.1 == y4.1)) then
    some false
  else
  bif (bif false then true else (y7.2 != y4.2)) then
    some false
  else
  ob (laws_toNode.m N a0) fun y8 =>
  ob (laws_eqNode.m N y5 y8) fun y9 =>
  bif (!y9) then
    some false
  else
  ob (laws_toIntS.m N a1) fun y10 =>
  ob (laws_eqIntS.m N y6 y10) fun y11 =>
  bif (!y11) then
    some false
  else
  some true
theorem run (N : Nat) (o0 : Orc E R) (a0 : Node) (a1 : List Int) : runF T (G N) live [] Try.f13 code (sp N) o0 (a0, a1, ()) = m0 N a0 a1 := by kernel_rfl
theorem G_ok (N : Nat) : GamOK Try.prog (G N) := gam_ok (l := [(22, [], laws_szNode.sp N), (24, [], laws_toNode.sp N), (15, [], laws_toIntS.sp N), (51, [], spec_ConfigAllowed.sp N), (52, [], impl_ConfigAllowed.sp N), (17, [], laws_eqNode.sp N), (18, [], laws_eqIntS.sp N)]) (⟨laws_szNode.snd N, laws_toNode.snd N, laws_toIntS.snd N, spec_ConfigAllowed.snd N, impl_ConfigAllowed.snd N, laws_eqNode.snd N, laws_eqIntS.snd N, trivial⟩)
theorem snd (N : Nat) : Sound Try.prog E 13 (sp N) :=
  Mir.sound T_OK (G_ok N) mixed Try.func13 (c := code) (by kernel_rfl) (by kernel_rfl) (sp N) (Nat.le_of_ble_eq_true (by kernel_rfl)) live [] (by
    rintro ⟨a0, a1, _⟩ r h
    exact ⟨N, 2, ((run N _ a0 a1).trans rfl).trans h⟩)
end laws_FnExactConfigAllowed
end Mir.Y
