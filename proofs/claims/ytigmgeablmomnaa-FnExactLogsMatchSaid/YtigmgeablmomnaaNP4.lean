/- The models are what the functions do. -/
import Derived.Test.YtigmgeablmomnaaNP3
namespace Mir.Y
set_option linter.unusedVariables false
set_option maxRecDepth 10000
open Go Go.Proofs Mir
namespace spec_LogsMatch
noncomputable def code : Code := Try.f49.body.getD .skip
abbrev live : Live := [(7, [1, 4, 5]), (4, [1, 4])]
noncomputable def G (N : Nat) : Ctx E := gam [(46, [], spec_GroupOK.sp N), (111, [], spec_l12Match.sp N)]
noncomputable def loop4 : Code := codeAt code [1, 1, 0, 1, 0]
noncomputable def body4 : Code := codeAt loop4 [0]
noncomputable def loop7 : Code := codeAt body4 [1, 0, 0, 1, 0]
noncomputable def body7 : Code := codeAt loop7 [0]
noncomputable def K4 (N : Nat) (o0 : Orc E R) : KT E R := kAt T (G N) live [] o0 code [1, 1, 0, 1, 0] (kfin T Try.f49 (sp N))
noncomputable def St4 (a0 : Group) : (Int × (List Node) × (List Message) × (List Lead) × (List Done)) → St E
  | (v0, v1, v2, v3, v4) => { ρ := [(1, .c (.at (.ptr 0 0))), (4, .c (.at (.int .i64 v0)))], H := [(0, .box 59 [.ro 25 (.st 25) v1, .ro 102 (.st 102) v2, .ro 128 (.st 128) v3, .ro 131 (.st 131) v4])], nx := 1, n := 35, pin := [] }
noncomputable def K7 (N : Nat) (o0 : Orc E R) (o1 : Orc E R) (q1 : St E → Option R) : KT E R := kAt T (G N) live [] o1 body4 [1, 0, 0, 1, 0] (kloop [1, 4] q1 (K4 N o0))
noncomputable def St7 (a0 : Group) : (Int × Int × (List Node) × (List Message) × (List Lead) × (List Done)) → St E
  | (v0, v1, v2, v3, v4, v5) => { ρ := [(1, .c (.at (.ptr 0 0))), (4, .c (.at (.int .i64 v0))), (5, .c (.at (.int .i64 v1)))], H := [(0, .box 59 [.ro 25 (.st 25) v2, .ro 102 (.st 102) v3, .ro 128 (.st 128) v4, .ro 131 (.st 131) v5])], nx := 1, n := 35, pin := [] }
noncomputable def m0 (N : Nat) (a0 : Group) (lp4 : Int × (List Node) × (List Message) × (List Lead) × (List Done) → Option R) : Option R :=
  ob (spec_GroupOK.m N a0) fun y1 =>
  bif (!y1) then
    some (false, (1:Int))
  else
  lp4 ((0:Int), a0.Nodes, a0.Wire, a0.Leads, a0.Dones)
theorem run (N : Nat) (o0 : Orc E R) (a0 : Group) : runF T (G N) live [] Try.f49 code (sp N) o0 (a0, ()) = m0 N a0 (fun a => o0 loop4 (K4 N o0) (St4 a0 a)) := by kernel_rfl
theorem body4_0 (N : Nat) (o0 : Orc E R) (o1 : Orc E R) (q1 : St E → Option R) (a0 : Group) (v0 : Int) (v1 : List Node) (v2 : List Message) (v3 : List Lead) (v4 : List Done) : runA T (G N) live [] o1 body4 (St4 a0 (v0, v1, v2, v3, v4)) (kloop [1, 4] q1 (K4 N o0)) = step4 N a0 (fun a => o1 loop7 (K7 N o0 o1 q1) (St7 a0 a)) (fun a => q1 (St4 a0 a)) (v0, v1, v2, v3, v4) := by kernel_rfl
theorem body7_0 (N : Nat) (o0 : Orc E R) (o1 : Orc E R) (o2 : Orc E R) (q1 : St E → Option R) (q2 : St E → Option R) (a0 : Group) (v0 : Int) (v1 : Int) (v2 : List Node) (v3 : List Message) (v4 : List Lead) (v5 : List Done) : runA T (G N) live [] o2 body7 (St7 a0 (v0, v1, v2, v3, v4, v5)) (kloop [1, 4, 5] q2 (K7 N o0 o1 q1)) = step7 N a0 (fun a => q1 (St4 a0 a)) (fun a => q2 (St7 a0 a)) (v0, v1, v2, v3, v4, v5) := by kernel_rfl
theorem lp7_eq (N : Nat) (a0 : Group) (q1 : St E → Option R) (a : Int × Int × (List Node) × (List Message) × (List Lead) × (List Done)) : (orc T (G N) live [] N 2) loop7 (K7 N (orc T (G N) live [] N 3) (orc T (G N) live [] N 2) q1) (St7 a0 a) = lp7 N a0 (fun a => q1 (St4 a0 a)) a :=
  (orc_loop (b := body7) (live := [1, 4, 5]) (by kernel_rfl)).trans (iter_eq (St7 a0) _ _ (fun q2 a => by
    have hc := congrFun (congrFun (congrArg (step7 N a0) (Eq.refl (fun a => q1 (St4 a0 a)))) (fun a => q2 (St7 a0 a))) a
    obtain ⟨u0, u1, u2, u3, u4, u5⟩ := a
    exact (body7_0 N (orc T (G N) live [] N 3) (orc T (G N) live [] N 2) (orc T (G N) live [] N 1) q1 q2 a0 u0 u1 u2 u3 u4 u5).trans hc) N a)
theorem lp4_eq (N : Nat) (a0 : Group) (a : Int × (List Node) × (List Message) × (List Lead) × (List Done)) : (orc T (G N) live [] N 3) loop4 (K4 N (orc T (G N) live [] N 3)) (St4 a0 a) = lp4 N a0 a :=
  (orc_loop (b := body4) (live := [1, 4]) (by kernel_rfl)).trans (iter_eq (St4 a0) _ _ (fun q1 a => by
    have hc := congrFun (congrFun (congrArg (step4 N a0) (funext fun a => lp7_eq N a0 q1 a)) (fun a => q1 (St4 a0 a))) a
    obtain ⟨u0, u1, u2, u3, u4⟩ := a
    exact (body4_0 N (orc T (G N) live [] N 3) (orc T (G N) live [] N 2) q1 a0 u0 u1 u2 u3 u4).trans hc) N a)
theorem G_ok (N : Nat) : GamOK Try.prog (G N) := gam_ok (l := [(46, [], spec_GroupOK.sp N), (111, [], spec_l12Match.sp N)]) (⟨spec_GroupOK.snd N, spec_l12Match.snd N, trivial⟩)
theorem snd (N : Nat) : Sound Try.prog E 49 (sp N) :=
  Mir.sound T_OK (G_ok N) mixed Try.func49 (c := code) (by kernel_rfl) (by kernel_rfl) (sp N) (Nat.le_of_ble_eq_true (by kernel_rfl)) live [] (by
    rintro ⟨a0, _⟩ r h
    exact ⟨N, 3, ((run N _ a0).trans (congrArg (m0 N a0) (funext fun a => lp4_eq N a0 a))).trans h⟩)
end spec_LogsMatch
namespace impl_sameFirst
noncomputable def code : Code := Try.f151.body.getD .skip
abbrev live : Live := [(2, [0, 1, 5])]
noncomputable def G (N : Nat) : Ctx E := gam []
noncomputable def loop2 : Code := codeAt code [1, 1, 0, 0]
noncomputable def body2 : Code := codeAt loop2 [0]
noncomputable def K2 (N : Nat) (o0 : Orc E R) : KT E R := kAt T (G N) live [] o0 code [1, 1, 0, 0] (kfin T Try.f151 (sp N))
noncomputable def St2 (a0 : List Entry) (a1 : List Entry) : Int → St E
  | v2 => { ρ := [(0, .c (.at (.ro 96 (.st 96) a0))), (1, .c (.at (.ro 96 (.st 96) a1))), (5, .c (.at (.int .i64 v2)))], H := [], nx := 0, n := 27, pin := [] }
noncomputable def m0 (N : Nat) (a0 : List Entry) (a1 : List Entry) (lp2 : Int → Option R) : Option R :=
  lp2 (0:Int)
theorem run (N : Nat) (o0 : Orc E R) (a0 : List Entry) (a1 : List Entry) : runF T (G N) live [] Try.f151 code (sp N) o0 (a0, a1, ()) = m0 N a0 a1 (fun a => o0 loop2 (K2 N o0) (St2 a0 a1 a)) := by kernel_rfl
theorem body2_0 (N : Nat) (o0 : Orc E R) (o1 : Orc E R) (q1 : St E → Option R) (a0 : List Entry) (a1 : List Entry) (v2 : Int) : runA T (G N) live [] o1 body2 (St2 a0 a1 v2) (kloop [0, 1, 5] q1 (K2 N o0)) = step2 N a0 a1 (fun a => q1 (St2 a0 a1 a)) v2 := by kernel_rfl
theorem lp2_eq (N : Nat) (a0 : List Entry) (a1 : List Entry) (a : Int) : (orc T (G N) live [] N 2) loop2 (K2 N (orc T (G N) live [] N 2)) (St2 a0 a1 a) = lp2 N a0 a1 a :=
  (orc_loop (b := body2) (live := [0, 1, 5]) (by kernel_rfl)).trans (iter_eq (St2 a0 a1) _ _ (fun q1 a => by
    have hc := congrFun (congrFun (rfl : (step2 N a0 a1) = (step2 N a0 a1)) (fun a => q1 (St2 a0 a1 a))) a
    exact (body2_0 N (orc T (G N) live [] N 2) (orc T (G N) live [] N 1) q1 a0 a1 a).trans hc) N a)
theorem G_ok (N : Nat) : GamOK Try.prog (G N) := gam_ok (l := []) (trivial)
theorem snd (N : Nat) : Sound Try.prog E 151 (sp N) :=
  Mir.sound T_OK (G_ok N) mixed Try.func151 (c := code) (by kernel_rfl) (by kernel_rfl) (sp N) (Nat.le_of_ble_eq_true (by kernel_rfl)) live [] (by
    rintro ⟨a0, a1, _⟩ r h
    exact ⟨N, 2, ((run N _ a0 a1).trans (congrArg (m0 N a0 a1) (funext fun a => lp2_eq N a0 a1 a))).trans h⟩)
end impl_sameFirst
namespace impl_logsMatch
noncomputable def code : Code := Try.f113.body.getD .skip
abbrev live : Live := [(2, [2, 3, 5])]
noncomputable def G (N : Nat) : Ctx E := gam [(151, [], impl_sameFirst.sp N)]
noncomputable def loop2 : Code := codeAt code [1, 1, 0, 0]
noncomputable def body2 : Code := codeAt loop2 [0]
noncomputable def K2 (N : Nat) (o0 : Orc E R) : KT E R := kAt T (G N) live [] o0 code [1, 1, 0, 0] (kfin T Try.f113 (sp N))
noncomputable def St2 (a0 : Node) (a1 : Node) : Int → St E
  | v0 => { ρ := [(2, .c (.at (.ptr 0 0))), (3, .c (.at (.ptr 1 0))), (5, .c (.at (.int .i64 v0)))], H := [(0, .box 25 [.int .i64 a0.Id, .int .i64 a0.Term, .int .i64 a0.Vote, .ro 96 (.st 96) a0.Log, .ro 3 (.int .i64) a0.Start, .int .i64 a0.Role, .ro 3 (.int .i64) a0.Votes, .ro 3 (.int .i64) a0.Next, .ro 3 (.int .i64) a0.Match, .int .i64 a0.Commit, .int .i64 a0.Elapsed, .int .i64 a0.Wait, .bool a0.Up]), (1, .box 25 [.int .i64 a1.Id, .int .i64 a1.Term, .int .i64 a1.Vote, .ro 96 (.st 96) a1.Log, .ro 3 (.int .i64) a1.Start, .int .i64 a1.Role, .ro 3 (.int .i64) a1.Votes, .ro 3 (.int .i64) a1.Next, .ro 3 (.int .i64) a1.Match, .int .i64 a1.Commit, .int .i64 a1.Elapsed, .int .i64 a1.Wait, .bool a1.Up])], nx := 2, n := 45, pin := [] }
noncomputable def m0 (N : Nat) (a0 : Node) (a1 : Node) (lp2 : Int → Option R) : Option R :=
  lp2 (if (a1.Log.length : Int) < (a0.Log.length : Int) then (a1.Log.length : Int) else (a0.Log.length : Int))
theorem run (N : Nat) (o0 : Orc E R) (a0 : Node) (a1 : Node) : runF T (G N) live [] Try.f113 code (sp N) o0 (a0, a1, ()) = m0 N a0 a1 (fun a => o0 loop2 (K2 N o0) (St2 a0 a1 a)) := by kernel_rfl
theorem body2_0 (N : Nat) (o0 : Orc E R) (o1 : Orc E R) (q1 : St E → Option R) (a0 : Node) (a1 : Node) (v0 : Int) : runA T (G N) live [] o1 body2 (St2 a0 a1 v0) (kloop [2, 3, 5] q1 (K2 N o0)) = step2 N a0 a1 (fun a => q1 (St2 a0 a1 a)) v0 := by kernel_rfl
theorem lp2_eq (N : Nat) (a0 : Node) (a1 : Node) (a : Int) : (orc T (G N) live [] N 2) loop2 (K2 N (orc T (G N) live [] N 2)) (St2 a0 a1 a) = lp2 N a0 a1 a :=
  (orc_loop (b := body2) (live := [2, 3, 5]) (by kernel_rfl)).trans (iter_eq (St2 a0 a1) _ _ (fun q1 a => by
    have hc := congrFun (congrFun (rfl : (step2 N a0 a1) = (step2 N a0 a1)) (fun a => q1 (St2 a0 a1 a))) a
    exact (body2_0 N (orc T (G N) live [] N 2) (orc T (G N) live [] N 1) q1 a0 a1 a).trans hc) N a)
theorem G_ok (N : Nat) : GamOK Try.prog (G N) := gam_ok (l := [(151, [], impl_sameFirst.sp N)]) (⟨impl_sameFirst.snd N, trivial⟩)
theorem snd (N : Nat) : Sound Try.prog E 113 (sp N) :=
  Mir.sound T_OK (G_ok N) mixed Try.func113 (c := code) (by kernel_rfl) (by kernel_rfl) (sp N) (Nat.le_of_ble_eq_true (by kernel_rfl)) live [] (by
    rintro ⟨a0, a1, _⟩ r h
    exact ⟨N, 2, ((run N _ a0 a1).trans (congrArg (m0 N a0 a1) (funext fun a => lp2_eq N a0 a1 a))).trans h⟩)
end impl_logsMatch
namespace impl_pairsHold_impl_Node__impl_logsMatch
noncomputable def code : Code := Try.f112.body.getD .skip
abbrev live : Live := [(5, [0, 1, 6, 9, 10, 11, 18, 19, 20]), (2, [0, 1, 9, 10, 11])]
noncomputable def G (N : Nat) : Ctx E := gam [(113, [], impl_logsMatch.sp N)]
noncomputable def loop2 : Code := codeAt code [1, 0, 1, 0]
noncomputable def body2 : Code := codeAt loop2 [0]
noncomputable def loop5 : Code := codeAt body2 [1, 1, 0, 0, 1, 1, 0]
noncomputable def body5 : Code := codeAt loop5 [0]
noncomputable def K2 (N : Nat) (o0 : Orc E R) : KT E R := kAt T (G N) live [] o0 code [1, 0, 1, 0] (kfin T Try.f112 (sp N))
noncomputable def St2 (a0 : List Node) : (Int × Int) → St E
  | (v2, v3) => { ρ := [(0, .c (.at (.ro 25 (.st 25) a0))), (1, .clo 113 []), (9, .c (.at (.ro 25 (.st 25) a0))), (10, .c (.at (.int .i64 v2))), (11, .c (.at (.int .i64 v3)))], H := [], nx := 0, n := 31, pin := [] }
noncomputable def K5 (N : Nat) (o0 : Orc E R) (o1 : Orc E R) (q1 : St E → Option R) : KT E R := kAt T (G N) live [] o1 body2 [1, 1, 0, 0, 1, 1, 0] (kloop [0, 1, 9, 10, 11] q1 (K2 N o0))
noncomputable def St5 (a0 : List Node) : (Int × Int × (List Node) × Int × Int × Int × Int × Int × (List Entry) × (List Int) × Int × (List Int) × (List Int) × (List Int) × Int × Int × Int × Bool) → St E
  | (v2, v3, v4, v5, v6, v7, v8, v9, v10, v11, v12, v13, v14, v15, v16, v17, v18, v19) => { ρ := [(0, .c (.at (.ro 25 (.st 25) a0))), (1, .clo 113 []), (6, .c (.at (.ptr 0 0))), (9, .c (.at (.ro 25 (.st 25) a0))), (10, .c (.at (.int .i64 v2))), (11, .c (.at (.int .i64 v3))), (18, .c (.at (.ro 25 (.st 25) v4))), (19, .c (.at (.int .i64 v5))), (20, .c (.at (.int .i64 v6)))], H := [(0, .box 25 [.int .i64 v7, .int .i64 v8, .int .i64 v9, .ro 96 (.st 96) v10, .ro 3 (.int .i64) v11, .int .i64 v12, .ro 3 (.int .i64) v13, .ro 3 (.int .i64) v14, .ro 3 (.int .i64) v15, .int .i64 v16, .int .i64 v17, .int .i64 v18, .bool v19])], nx := 1, n := 31, pin := [] }
noncomputable def m0 (N : Nat) (a0 : List Node) (lp2 : Int × Int → Option R) : Option R :=
  lp2 ((a0.length : Int), (0:Int))
theorem run (N : Nat) (o0 : Orc E R) (a0 : List Node) : runF T (G N) live [] Try.f112 code (sp N) o0 (a0, (), ()) = m0 N a0 (fun a => o0 loop2 (K2 N o0) (St2 a0 a)) := by kernel_rfl
theorem body2_0 (N : Nat) (o0 : Orc E R) (o1 : Orc E R) (q1 : St E → Option R) (a0 : List Node) (v2 : Int) (v3 : Int) : runA T (G N) live [] o1 body2 (St2 a0 (v2, v3)) (kloop [0, 1, 9, 10, 11] q1 (K2 N o0)) = step2 N a0 (fun a => o1 loop5 (K5 N o0 o1 q1) (St5 a0 a)) (fun a => q1 (St2 a0 a)) (v2, v3) := by kernel_rfl
theorem body5_0 (N : Nat) (o0 : Orc E R) (o1 : Orc E R) (o2 : Orc E R) (q1 : St E → Option R) (q2 : St E → Option R) (a0 : List Node) (v2 : Int) (v3 : Int) (v4 : List Node) (v5 : Int) (v6 : Int) (v7 : Int) (v8 : Int) (v9 : Int) (v10 : List Entry) (v11 : List Int) (v12 : Int) (v13 : List Int) (v14 : List Int) (v15 : List Int) (v16 : Int) (v17 : Int) (v18 : Int) (v19 : Bool) : runA T (G N) live [] o2 body5 (St5 a0 (v2, v3, v4, v5, v6, v7, v8, v9, v10, v11, v12, v13, v14, v15, v16, v17, v18, v19)) (kloop [0, 1, 6, 9, 10, 11, 18, 19, 20] q2 (K5 N o0 o1 q1)) = step5 N a0 (fun a => q1 (St2 a0 a)) (fun a => q2 (St5 a0 a)) (v2, v3, v4, v5, v6, v7, v8, v9, v10, v11, v12, v13, v14, v15, v16, v17, v18, v19) := by kernel_rfl
theorem lp5_eq (N : Nat) (a0 : List Node) (q1 : St E → Option R) (a : Int × Int × (List Node) × Int × Int × Int × Int × Int × (List Entry) × (List Int) × Int × (List Int) × (List Int) × (List Int) × Int × Int × Int × Bool) : (orc T (G N) live [] N 2) loop5 (K5 N (orc T (G N) live [] N 3) (orc T (G N) live [] N 2) q1) (St5 a0 a) = lp5 N a0 (fun a => q1 (St2 a0 a)) a :=
  (orc_loop (b := body5) (live := [0, 1, 6, 9, 10, 11, 18, 19, 20]) (by kernel_rfl)).trans (iter_eq (St5 a0) _ _ (fun q2 a => by
    have hc := congrFun (congrFun (congrArg (step5 N a0) (Eq.refl (fun a => q1 (St2 a0 a)))) (fun a => q2 (St5 a0 a))) a
    obtain ⟨u0, u1, u2, u3, u4, u5, u6, u7, u8, u9, u10, u11, u12, u13, u14, u15, u16, u17⟩ := a
    exact (body5_0 N (orc T (G N) live [] N 3) (orc T (G N) live [] N 2) (orc T (G N) live [] N 1) q1 q2 a0 u0 u1 u2 u3 u4 u5 u6 u7 u8 u9 u10 u11 u12 u13 u14 u15 u16 u17).trans hc) N a)
theorem lp2_eq (N : Nat) (a0 : List Node) (a : Int × Int) : (orc T (G N) live [] N 3) loop2 (K2 N (orc T (G N) live [] N 3)) (St2 a0 a) = lp2 N a0 a :=
  (orc_loop (b := body2) (live := [0, 1, 9, 10, 11]) (by kernel_rfl)).trans (iter_eq (St2 a0) _ _ (fun q1 a => by
    have hc := congrFun (congrFun (congrArg (step2 N a0) (funext fun a => lp5_eq N a0 q1 a)) (fun a => q1 (St2 a0 a))) a
    obtain ⟨u0, u1⟩ := a
    exact (body2_0 N (orc T (G N) live [] N 3) (orc T (G N) live [] N 2) q1 a0 u0 u1).trans hc) N a)
theorem G_ok (N : Nat) : GamOK Try.prog (G N) := gam_ok (l := [(113, [], impl_logsMatch.sp N)]) (⟨impl_logsMatch.snd N, trivial⟩)
theorem snd (N : Nat) : Sound Try.prog E 112 (sp N) :=
  Mir.sound T_OK (G_ok N) mixed Try.func112 (c := code) (by kernel_rfl) (by kernel_rfl) (sp N) (Nat.le_of_ble_eq_true (by kernel_rfl)) live [] (by
    rintro ⟨a0, _, _⟩ r h
    exact ⟨N, 3, ((run N _ a0).trans (congrArg (m0 N a0) (funext fun a => lp2_eq N a0 a))).trans h⟩)
end impl_pairsHold_impl_Node__impl_logsMatch
namespace impl_LogsMatch
noncomputable def code : Code := Try.f50.body.getD .skip
abbrev live : Live := []
noncomputable def G (N : Nat) : Ctx E := gam [(48, [], impl_GroupOK.sp N), (112, [113], impl_pairsHold_impl_Node__impl_logsMatch.sp N)]
noncomputable def m0 (N : Nat) (a0 : Group) : Option R :=
  ob (impl_GroupOK.m N a0) fun y1 =>
  bif (!y1) then
    some (false, (1:Int))
  else
  ob (impl_pairsHold_impl_Node__impl_logsMatch.m N a0.Nodes) fun y2 =>
  some (y2, (0:Int))
theorem run (N : Nat) (o0 : Orc E R) (a0 : Group) : runF T (G N) live [] Try.f50 code (sp N) o0 (a0, ()) = m0 N a0 := by kernel_rfl
theorem G_ok (N : Nat) : GamOK Try.prog (G N) := gam_ok (l := [(48, [], impl_GroupOK.sp N), (112, [113], impl_pairsHold_impl_Node__impl_logsMatch.sp N)]) (⟨impl_GroupOK.snd N, impl_pairsHold_impl_Node__impl_logsMatch.snd N, trivial⟩)
theorem snd (N : Nat) : Sound Try.prog E 50 (sp N) :=
  Mir.sound T_OK (G_ok N) mixed Try.func50 (c := code) (by kernel_rfl) (by kernel_rfl) (sp N) (Nat.le_of_ble_eq_true (by kernel_rfl)) live [] (by
    rintro ⟨a0, _⟩ r h
    exact ⟨N, 2, ((run N _ a0).trans rfl).trans h⟩)
end impl_LogsMatch
namespace laws_FnExactLogsMatch
noncomputable def code : Code := Try.f12.body.getD .skip
abbrev live : Live := []
noncomputable def G (N : Nat) : Ctx E := gam [(45, [], laws_szGroup.sp N), (47, [], laws_toGroup.sp N), (49, [], spec_LogsMatch.sp N), (50, [], impl_LogsMatch.sp N), (42, [], laws_eqGroup.sp N)]
noncomputable def m0 (N : Nat) (a0 : Group) : Option R :=
  ob (laws_szGroup.m N a0 (1048576:Int)) fun y1 =>
  bif (decide (y1 < (0:Int))) then
    some true
  else
  ob (laws_toGroup.m N a0) fun y2 =>
  ob (spec_LogsMatch.m N y2) fun y3 =>
  ob (laws_toGroup.m N a0) fun y4 =>
  ob (impl_LogsMatch.m N y4) fun y5 =>
  bif (!(y5.1 == y3.1)) then
    some false
  else
  bif (bif false then true else (y5.2 != y3.2)) then
    some false
  else
  ob (laws_toGroup.m N (Group.mk a0.Nodes a0.Wire a0.Leads a0.Dones)) fun y6 =>
  ob (laws_eqGroup.m N y4 y6) fun y7 =>
  bif (!y7) then
    some false
  else
  some true
theorem run (N : Nat) (o0 : Orc E R) (a0 : Group) : runF T (G N) live [] Try.f12 code (sp N) o0 (a0, ()) = m0 N a0 := by kernel_rfl
theorem G_ok (N : Nat) : GamOK Try.prog (G N) := gam_ok (l := [(45, [], laws_szGroup.sp N), (47, [], laws_toGroup.sp N), (49, [], spec_LogsMatch.sp N), (50, [], impl_LogsMatch.sp N), (42, [], laws_eqGroup.sp N)]) (⟨laws_szGroup.snd N, laws_toGroup.snd N, spec_LogsMatch.snd N, impl_LogsMatch.snd N, laws_eqGroup.snd N, trivial⟩)
theorem snd (N : Nat) : Sound Try.prog E 12 (sp N) :=
  Mir.sound T_OK (G_ok N) mixed Try.func12 (c := code) (by kernel_rfl) (by kernel_rfl) (sp N) (Nat.le_of_ble_eq_true (by kernel_rfl)) live [] (by
    rintro ⟨a0, _⟩ r h
    exact ⟨N, 2, ((run N _ a0).trans rfl).trans h⟩)
end laws_FnExactLogsMatch
end Mir.Y
