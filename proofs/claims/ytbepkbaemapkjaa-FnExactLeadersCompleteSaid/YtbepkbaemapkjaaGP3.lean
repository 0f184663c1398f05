/- The models are what the functions do. -/
import Derived.Test.YtbepkbaemapkjaaGP2
namespace Mir.Y
set_option linter.unusedVariables false
set_option maxRecDepth 10000
open Go Go.Proofs Mir
namespace laws_eqDoneS
noncomputable def code : Code := Try.f43.body.getD .skip
abbrev live : Live := [(4, [0, 1, 5])]
noncomputable def G (N : Nat) : Ctx E := gam [(84, [], laws_eqDone.sp N)]
noncomputable def loop4 : Code := codeAt code [1, 1, 0, 1, 0]
noncomputable def body4 : Code := codeAt loop4 [0]
noncomputable def K4 (N : Nat) (o0 : Orc E R) : KT E R := kAt T (G N) live [] o0 code [1, 1, 0, 1, 0] (kfin T Try.f43 (sp N))
noncomputable def St4 (a0 : List Done) (a1 : List Done) : Int → St E
  | v2 => { ρ := [(0, .c (.at (.ro 66 (.st 66) a0))), (1, .c (.at (.ro 66 (.st 66) a1))), (5, .c (.at (.int .i64 v2)))], H := [], nx := 0, n := 27, pin := [] }
noncomputable def m0 (N : Nat) (a0 : List Done) (a1 : List Done) (lp4 : Int → Option R) : Option R :=
  bif ((a0.length : Int) != (a1.length : Int)) then
    some false
  else
  lp4 (0:Int)
theorem run (N : Nat) (o0 : Orc E R) (a0 : List Done) (a1 : List Done) : runF T (G N) live [] Try.f43 code (sp N) o0 (a0, a1, ()) = m0 N a0 a1 (fun a => o0 loop4 (K4 N o0) (St4 a0 a1 a)) := by kernel_rfl
theorem body4_0 (N : Nat) (o0 : Orc E R) (o1 : Orc E R) (q1 : St E → Option R) (a0 : List Done) (a1 : List Done) (v2 : Int) : runA T (G N) live [] o1 body4 (St4 a0 a1 v2) (kloop [0, 1, 5] q1 (K4 N o0)) = step4 N a0 a1 (fun a => q1 (St4 a0 a1 a)) v2 := by kernel_rfl
theorem lp4_eq (N : Nat) (a0 : List Done) (a1 : List Done) (a : Int) : (orc T (G N) live [] N 2) loop4 (K4 N (orc T (G N) live [] N 2)) (St4 a0 a1 a) = lp4 N a0 a1 a :=
  (orc_loop (b := body4) (live := [0, 1, 5]) (by kernel_rfl)).trans (iter_eq (St4 a0 a1) _ _ (fun q1 a => by
    have hc := congrFun (congrFun (rfl : (step4 N a0 a1) = (step4 N a0 a1)) (fun a => q1 (St4 a0 a1 a))) a
    exact (body4_0 N (orc T (G N) live [] N 2) (orc T (G N) live [] N 1) q1 a0 a1 a).trans hc) N a)
theorem G_ok (N : Nat) : GamOK Try.prog (G N) := gam_ok (l := [(84, [], laws_eqDone.sp N)]) (⟨laws_eqDone.snd N, trivial⟩)
theorem snd (N : Nat) : Sound Try.prog E 43 (sp N) :=
  Mir.sound T_OK (G_ok N) mixed Try.func43 (c := code) (by kernel_rfl) (by kernel_rfl) (sp N) (Nat.le_of_ble_eq_true (by kernel_rfl)) live [] (by
    rintro ⟨a0, a1, _⟩ r h
    exact ⟨N, 2, ((run N _ a0 a1).trans (congrArg (m0 N a0 a1) (funext fun a => lp4_eq N a0 a1 a))).trans h⟩)
end laws_eqDoneS
namespace laws_eqGroup
noncomputable def code : Code := Try.f12.body.getD .skip
abbrev live : Live := []
noncomputable def G (N : Nat) : Ctx E := gam [(40, [], laws_eqNodeS.sp N), (41, [], laws_eqMessageS.sp N), (42, [], laws_eqLeadS.sp N), (43, [], laws_eqDoneS.sp N)]
noncomputable def m0 (N : Nat) (a0 : Group) (a1 : Group) : Option R :=
  ob (laws_eqNodeS.m N a0.Nodes a1.Nodes) fun y1 =>
  bif (!y1) then
    some false
  else
  ob (laws_eqMessageS.m N a0.Wire a1.Wire) fun y2 =>
  bif (!y2) then
    some false
  else
  ob (laws_eqLeadS.m N a0.Leads a1.Leads) fun y3 =>
  bif (!y3) then
    some false
  else
  ob (laws_eqDoneS.m N a0.Dones a1.Dones) fun y4 =>
  bif (!y4) then
    some false
  else
  some true
theorem run (N : Nat) (o0 : Orc E R) (a0 : Group) (a1 : Group) : runF T (G N) live [] Try.f12 code (sp N) o0 (a0, a1, ()) = m0 N a0 a1 := by kernel_rfl
theorem G_ok (N : Nat) : GamOK Try.prog (G N) := gam_ok (l := [(40, [], laws_eqNodeS.sp N), (41, [], laws_eqMessageS.sp N), (42, [], laws_eqLeadS.sp N), (43, [], laws_eqDoneS.sp N)]) (⟨laws_eqNodeS.snd N, laws_eqMessageS.snd N, laws_eqLeadS.snd N, laws_eqDoneS.snd N, trivial⟩)
theorem snd (N : Nat) : Sound Try.prog E 12 (sp N) :=
  Mir.sound T_OK (G_ok N) mixed Try.func12 (c := code) (by kernel_rfl) (by kernel_rfl) (sp N) (Nat.le_of_ble_eq_true (by kernel_rfl)) live [] (by
    rintro ⟨a0, a1, _⟩ r h
    exact ⟨N, 2, ((run N _ a0 a1).trans rfl).trans h⟩)
end laws_eqGroup
namespace laws_FnExactCommitsAgree
noncomputable def code : Code := Try.f3.body.getD .skip
abbrev live : Live := []
noncomputable def G (N : Nat) : Ctx E := gam [(8, [], laws_szGroup.sp N), (10, [], laws_toGroup.sp N), (9, [], spec_CommitsAgree.sp N), (11, [], impl_CommitsAgree.sp N), (12, [], laws_eqGroup.sp N)]
noncomputable def m0 (N : Nat) (a0 : Group) : Option R :=
  ob (laws_szGroup.m N (Group.mk a0.Nodes a0.Wire a0.Leads a0.Dones) (1048576:Int)) fun y1 =>
  bif (decide (y1 < (0:Int))) then
    some true
  else
  ob (laws_toGroup.m N (Group.mk a0.Nodes a0.Wire a0.Leads a0.Dones)) fun y2 =>
  ob (spec_CommitsAgree.m N y2) fun y3 =>
  ob (laws_toGroup.m N a0) fun y4 =>
  ob (impl_CommitsAgree.m N y4) fun y5 =>
  bif (!(y5.1 == y3.1)) then
    some false
  else
  bif (bif false then true else (y5.2 != y3.2)) then
    some false
  else
  ob (laws_toGroup.m N a0) fun y6 =>
  ob (laws_eqGroup.m N y4 y6) fun y7 =>
  bif (!y7) then
    some false
  else
  some true
theorem run (N : Nat) (o0 : Orc E R) (a0 : Group) : runF T (G N) live [] Try.f3 code (sp N) o0 (a0, ()) = m0 N a0 := by kernel_rfl
theorem G_ok (N : Nat) : GamOK Try.prog (G N) := gam_ok (l := [(8, [], laws_szGroup.sp N), (10, [], laws_toGroup.sp N), (9, [], spec_CommitsAgree.sp N), (11, [], impl_CommitsAgree.sp N), (12, [], laws_eqGroup.sp N)]) (⟨laws_szGroup.snd N, laws_toGroup.snd N, spec_CommitsAgree.snd N, impl_CommitsAgree.snd N, laws_eqGroup.snd N, trivial⟩)
theorem snd (N : Nat) : Sound Try.prog E 3 (sp N) :=
  Mir.sound T_OK (G_ok N) mixed Try.func3 (c := code) (by kernel_rfl) (by kernel_rfl) (sp N) (Nat.le_of_ble_eq_true (by kernel_rfl)) live [] (by
    rintro ⟨a0, _⟩ r h
    exact ⟨N, 2, ((run N _ a0).trans rfl).trans h⟩)
end laws_FnExactCommitsAgree
namespace spec_LeadersComplete
noncomputable def code : Code := Try.f13.body.getD .skip
abbrev live : Live := [(8, [1, 4, 5, 6]), (4, [1, 4])]
noncomputable def G (N : Nat) : Ctx E := gam [(34, [], spec_GroupOK.sp N)]
noncomputable def loop4 : Code := codeAt code [1, 1, 0, 1, 0]
noncomputable def body4 : Code := codeAt loop4 [0]
noncomputable def loop8 : Code := codeAt body4 [1, 0, 0, 1, 1, 0]
noncomputable def body8 : Code := codeAt loop8 [0]
noncomputable def K4 (N : Nat) (o0 : Orc E R) : KT E R := kAt T (G N) live [] o0 code [1, 1, 0, 1, 0] (kfin T Try.f13 (sp N))
noncomputable def St4 (a0 : Group) : (Int × (List Node) × (List Message) × (List Lead) × (List Done)) → St E
  | (v0, v1, v2, v3, v4) => { ρ := [(1, .c (.at (.ptr 0 0))), (4, .c (.at (.int .i64 v0)))], H := [(0, .box 36 [.ro 50 (.st 50) v1, .ro 113 (.st 113) v2, .ro 78 (.st 78) v3, .ro 66 (.st 66) v4])], nx := 1, n := 65, pin := [] }
noncomputable def K8 (N : Nat) (o0 : Orc E R) (o1 : Orc E R) (q1 : St E → Option R) : KT E R := kAt T (G N) live [] o1 body4 [1, 0, 0, 1, 1, 0] (kloop [1, 4] q1 (K4 N o0))
noncomputable def St8 (a0 : Group) : (Int × Int × (List Node) × (List Message) × (List Lead) × (List Done) × Int × Int × Int × Int × Int × ByteArray) → St E
  | (v0, v1, v2, v3, v4, v5, v6, v7, v8, v9, v10, v11) => { ρ := [(1, .c (.at (.ptr 0 0))), (4, .c (.at (.int .i64 v0))), (5, .c (.at (.ptr 1 0))), (6, .c (.at (.int .i64 v1)))], H := [(0, .box 36 [.ro 50 (.st 50) v2, .ro 113 (.st 113) v3, .ro 78 (.st 78) v4, .ro 66 (.st 66) v5]), (1, .box 66 [.int .i64 v6, .int .i64 v7, .int .i64 v8, .int .i64 v9, .int .i64 v10, .str v11])], nx := 2, n := 65, pin := [] }
noncomputable def m0 (N : Nat) (a0 : Group) (lp4 : Int × (List Node) × (List Message) × (List Lead) × (List Done) → Option R) : Option R :=
  ob (spec_GroupOK.m N a0) fun y1 =>
  bif (!y1) then
    some (false, (1:Int))
  else
  lp4 ((0:Int), a0.Nodes, a0.Wire, a0.Leads, a0.Dones)
theorem run (N : Nat) (o0 : Orc E R) (a0 : Group) : runF T (G N) live [] Try.f13 code (sp N) o0 (a0, ()) = m0 N a0 (fun a => o0 loop4 (K4 N o0) (St4 a0 a)) := by kernel_rfl
theorem body4_0 (N : Nat) (o0 : Orc E R) (o1 : Orc E R) (q1 : St E → Option R) (a0 : Group) (v0 : Int) (v1 : List Node) (v2 : List Message) (v3 : List Lead) (v4 : List Done) : runA T (G N) live [] o1 body4 (St4 a0 (v0, v1, v2, v3, v4)) (kloop [1, 4] q1 (K4 N o0)) = step4 N a0 (fun a => o1 loop8 (K8 N o0 o1 q1) (St8 a0 a)) (fun a => q1 (St4 a0 a)) (v0, v1, v2, v3, v4) := by kernel_rfl
theorem body8_0 (N : Nat) (o0 : Orc E R) (o1 : Orc E R) (o2 : Orc E R) (q1 : St E → Option R) (q2 : St E → Option R) (a0 : Group) (v0 : Int) (v1 : Int) (v2 : List Node) (v3 : List Message) (v4 : List Lead) (v5 : List Done) (v6 : Int) (v7 : Int) (v8 : Int) (v9 : Int) (v10 : Int) (v11 : ByteArray) : runA T (G N) live [] o2 body8 (St8 a0 (v0, v1, v2, v3, v4, v5, v6, v7, v8, v9, v10, v11)) (kloop [1, 4, 5, 6] q2 (K8 N o0 o1 q1)) = step8 N a0 (fun a => q1 (St4 a0 a)) (fun a => q2 (St8 a0 a)) (v0, v1, v2, v3, v4, v5, v6, v7, v8, v9, v10, v11) := by kernel_rfl
theorem lp8_eq (N : Nat) (a0 : Group) (q1 : St E → Option R) (a : Int × Int × (List Node) × (List Message) × (List Lead) × (List Done) × Int × Int × Int × Int × Int × ByteArray) : (orc T (G N) live [] N 2) loop8 (K8 N (orc T (G N) live [] N 3) (orc T (G N) live [] N 2) q1) (St8 a0 a) = lp8 N a0 (fun a => q1 (St4 a0 a)) a :=
  (orc_loop (b := body8) (live := [1, 4, 5, 6]) (by kernel_rfl)).trans (iter_eq (St8 a0) _ _ (fun q2 a => by
    have hc := congrFun (congrFun (congrArg (step8 N a0) (Eq.refl (fun a => q1 (St4 a0 a)))) (fun a => q2 (St8 a0 a))) a
    obtain ⟨u0, u1, u2, u3, u4, u5, u6, u7, u8, u9, u10, u11⟩ := a
    exact (body8_0 N (orc T (G N) live [] N 3) (orc T (G N) live [] N 2) (orc T (G N) live [] N 1) q1 q2 a0 u0 u1 u2 u3 u4 u5 u6 u7 u8 u9 u10 u11).trans hc) N a)
theorem lp4_eq (N : Nat) (a0 : Group) (a : Int × (List Node) × (List Message) × (List Lead) × (List Done)) : (orc T (G N) live [] N 3) loop4 (K4 N (orc T (G N) live [] N 3)) (St4 a0 a) = lp4 N a0 a :=
  (orc_loop (b := body4) (live := [1, 4]) (by kernel_rfl)).trans (iter_eq (St4 a0) _ _ (fun q1 a => by
    have hc := congrFun (congrFun (congrArg (step4 N a0) (funext fun a => lp8_eq N a0 q1 a)) (fun a => q1 (St4 a0 a))) a
    obtain ⟨u0, u1, u2, u3, u4⟩ := a
    exact (body4_0 N (orc T (G N) live [] N 3) (orc T (G N) live [] N 2) q1 a0 u0 u1 u2 u3 u4).trans hc) N a)
theorem G_ok (N : Nat) : GamOK Try.prog (G N) := gam_ok (l := [(34, [], spec_GroupOK.sp N)]) (⟨spec_GroupOK.snd N, trivial⟩)
theorem snd (N : Nat) : Sound Try.prog E 13 (sp N) :=
  Mir.sound T_OK (G_ok N) mixed Try.func13 (c := code) (by kernel_rfl) (by kernel_rfl) (sp N) (Nat.le_of_ble_eq_true (by kernel_rfl)) live [] (by
    rintro ⟨a0, _⟩ r h
    exact ⟨N, 3, ((run N _ a0).trans (congrArg (m0 N a0) (funext fun a => lp4_eq N a0 a))).trans h⟩)
end spec_LeadersComplete
namespace impl_Lead_has
noncomputable def code : Code := Try.f44.body.getD .skip
abbrev live : Live := []
noncomputable def G (N : Nat) : Ctx E := gam [(75, [], impl_within.sp N)]
noncomputable def m0 (N : Nat) (a0 : Lead) (a1 : Done) : Option R :=
  ob (impl_within.m N a1.Index (1:Int) (a0.Log.length : Int)) fun y1 =>
  bif y1 then
    bif (decide (0 ≤ (w64 (a1.Index - (1:Int))))) then
    bif (decide ((w64 (a1.Index - (1:Int))) < (a0.Log.length : Int))) then
    (let w2 : Bool := (((a0.Log.getD (Int.toNat (w64 (a1.Index - (1:Int)))) Entry.dz).Term == a1.Entry.Term) && (((a0.Log.getD (Int.toNat (w64 (a1.Index - (1:Int)))) Entry.dz).Kind == a1.Entry.Kind) && (seq ((a0.Log.getD (Int.toNat (w64 (a1.Index - (1:Int)))) Entry.dz).Data) a1.Entry.Data)))
    some (bif true then w2 else false))
    else none
    else none
  else
  some false
theorem run (N : Nat) (o0 : Orc E R) (a0 : Lead) (a1 : Done) : runF T (G N) live [] Try.f44 code (sp N) o0 (a0, a1, ()) = m0 N a0 a1 := by kernel_rfl
theorem G_ok (N : Nat) : GamOK Try.prog (G N) := gam_ok (l := [(75, [], impl_within.sp N)]) (⟨impl_within.snd N, trivial⟩)
theorem snd (N : Nat) : Sound Try.prog E 44 (sp N) :=
  Mir.sound T_OK (G_ok N) mixed Try.func44 (c := code) (by kernel_rfl) (by kernel_rfl) (sp N) (Nat.le_of_ble_eq_true (by kernel_rfl)) live [] (by
    rintro ⟨a0, a1, _⟩ r h
    exact ⟨N, 2, ((run N _ a0 a1).trans rfl).trans h⟩)
end impl_Lead_has
namespace impl_LeadersComplete
noncomputable def code : Code := Try.f14.body.getD .skip
abbrev live : Live := [(7, [1, 5, 12, 13, 14, 19, 20, 21]), (4, [1, 12, 13, 14])]
noncomputable def G (N : Nat) : Ctx E := gam [(39, [], impl_GroupOK.sp N), (44, [], impl_Lead_has.sp N)]
noncomputable def loop4 : Code := codeAt code [1, 1, 0, 1, 0]
noncomputable def body4 : Code := codeAt loop4 [0]
noncomputable def loop7 : Code := codeAt body4 [1, 1, 0, 0, 1, 1, 0]
noncomputable def body7 : Code := codeAt loop7 [0]
noncomputable def K4 (N : Nat) (o0 : Orc E R) : KT E R := kAt T (G N) live [] o0 code [1, 1, 0, 1, 0] (kfin T Try.f14 (sp N))
noncomputable def St4 (a0 : Group) : (Int × Int × (List Node) × (List Message) × (List Lead) × (List Done)) → St E
  | (v1, v2, v3, v4, v5, v6) => { ρ := [(1, .c (.at (.ptr 0 0))), (12, .c (.at (.ro 78 (.st 78) a0.Leads))), (13, .c (.at (.int .i64 v1))), (14, .c (.at (.int .i64 v2)))], H := [(0, .box 36 [.ro 50 (.st 50) v3, .ro 113 (.st 113) v4, .ro 78 (.st 78) v5, .ro 66 (.st 66) v6])], nx := 1, n := 38, pin := [] }
noncomputable def K7 (N : Nat) (o0 : Orc E R) (o1 : Orc E R) (q1 : St E → Option R) : KT E R := kAt T (G N) live [] o1 body4 [1, 1, 0, 0, 1, 1, 0] (kloop [1, 12, 13, 14] q1 (K4 N o0))
noncomputable def St7 (a0 : Group) : (Int × Int × (List Done) × Int × Int × (List Node) × (List Message) × (List Lead) × (List Done) × Int × Int × (List Entry)) → St E
  | (v1, v2, v3, v4, v5, v6, v7, v8, v9, v10, v11, v12) => { ρ := [(1, .c (.at (.ptr 0 0))), (5, .c (.at (.ptr 1 0))), (12, .c (.at (.ro 78 (.st 78) a0.Leads))), (13, .c (.at (.int .i64 v1))), (14, .c (.at (.int .i64 v2))), (19, .c (.at (.ro 66 (.st 66) v3))), (20, .c (.at (.int .i64 v4))), (21, .c (.at (.int .i64 v5)))], H := [(0, .box 36 [.ro 50 (.st 50) v6, .ro 113 (.st 113) v7, .ro 78 (.st 78) v8, .ro 66 (.st 66) v9]), (1, .box 78 [.int .i64 v10, .int .i64 v11, .ro 58 (.st 58) v12])], nx := 2, n := 38, pin := [] }
noncomputable def m0 (N : Nat) (a0 : Group) (lp4 : Int × Int × (List Node) × (List Message) × (List Lead) × (List Done) → Option R) : Option R :=
  ob (impl_GroupOK.m N a0) fun y1 =>
  bif (!y1) then
    some (false, (1:Int))
  else
  lp4 ((a0.Leads.length : Int), (0:Int), a0.Nodes, a0.Wire, a0.Leads, a0.Dones)
theorem run (N : Nat) (o0 : Orc E R) (a0 : Group) : runF T (G N) live [] Try.f14 code (sp N) o0 (a0, ()) = m0 N a0 (fun a => o0 loop4 (K4 N o0) (St4 a0 a)) := by kernel_rfl
theorem body4_0 (N : Nat) (o0 : Orc E R) (o1 : Orc E R) (q1 : St E → Option R) (a0 : Group) (v1 : Int) (v2 : Int) (v3 : List Node) (v4 : List Message) (v5 : List Lead) (v6 : List Done) : runA T (G N) live [] o1 body4 (St4 a0 (v1, v2, v3, v4, v5, v6)) (kloop [1, 12, 13, 14] q1 (K4 N o0)) = step4 N a0 (fun a => o1 loop7 (K7 N o0 o1 q1) (St7 a0 a)) (fun a => q1 (St4 a0 a)) (v1, v2, v3, v4, v5, v6) := by kernel_rfl
theorem body7_0 (N : Nat) (o0 : Orc E R) (o1 : Orc E R) (o2 : Orc E R) (q1 : St E → Option R) (q2 : St E → Option R) (a0 : Group) (v1 : Int) (v2 : Int) (v3 : List Done) (v4 : Int) (v5 : Int) (v6 : List Node) (v7 : List Message) (v8 : List Lead) (v9 : List Done) (v10 : Int) (v11 : Int) (v12 : List Entry) : runA T (G N) live [] o2 body7 (St7 a0 (v1, v2, v3, v4, v5, v6, v7, v8, v9, v10, v11, v12)) (kloop [1, 5, 12, 13, 14, 19, 20, 21] q2 (K7 N o0 o1 q1)) = step7 N a0 (fun a => q1 (St4 a0 a)) (fun a => q2 (St7 a0 a)) (v1, v2, v3, v4, v5, v6, v7, v8, v9, v10, v11, v12) := by kernel_rfl
theorem lp7_eq (N : Nat) (a0 : Group) (q1 : St E → Option R) (a : Int × Int × (List Done) × Int × Int × (List Node) × (List Message) × (List Lead) × (List Done) × Int × Int × (List Entry)) : (orc T (G N) live [] N 2) loop7 (K7 N (orc T (G N) live [] N 3) (orc T (G N) live [] N 2) q1) (St7 a0 a) = lp7 N a0 (fun a => q1 (St4 a0 a)) a :=
  (orc_loop (b := body7) (live := [1, 5, 12, 13, 14, 19, 20, 21]) (by kernel_rfl)).trans (iter_eq (St7 a0) _ _ (fun q2 a => by
    have hc := congrFun (congrFun (congrArg (step7 N a0) (Eq.refl (fun a => q1 (St4 a0 a)))) (fun a => q2 (St7 a0 a))) a
    obtain ⟨u0, u1, u2, u3, u4, u5, u6, u7, u8, u9, u10, u11⟩ := a
    exact (body7_0 N (orc T (G N) live [] N 3) (orc T (G N) live [] N 2) (orc T (G N) live [] N 1) q1 q2 a0 u0 u1 u2 u3 u4 u5 u6 u7 u8 u9 u10 u11).trans hc) N a)
theorem lp4_eq (N : Nat) (a0 : Group) (a : Int × Int × (List Node) × (List Message) × (List Lead) × (List Done)) : (orc T (G N) live [] N 3) loop4 (K4 N (orc T (G N) live [] N 3)) (St4 a0 a) = lp4 N a0 a :=
  (orc_loop (b := body4) (live := [1, 12, 13, 14]) (by kernel_rfl)).trans (iter_eq (St4 a0) _ _ (fun q1 a => by
    have hc := congrFun (congrFun (congrArg (step4 N a0) (funext fun a => lp7_eq N a0 q1 a)) (fun a => q1 (St4 a0 a))) a
    obtain ⟨u0, u1, u2, u3, u4, u5⟩ := a
    exact (body4_0 N (orc T (G N) live [] N 3) (orc T (G N) live [] N 2) q1 a0 u0 u1 u2 u3 u4 u5).trans hc) N a)
theorem G_ok (N : Nat) : GamOK Try.prog (G N) := gam_ok (l := [(39, [], impl_GroupOK.sp N), (44, [], impl_Lead_has.sp N)]) (⟨impl_GroupOK.snd N, impl_Lead_has.snd N, trivial⟩)
theorem snd (N : Nat) : Sound Try.prog E 14 (sp N) :=
  Mir.sound T_OK (G_ok N) mixed Try.func14 (c := code) (by kernel_rfl) (by kernel_rfl) (sp N) (Nat.le_of_ble_eq_true (by kernel_rfl)) live [] (by
    rintro ⟨a0, _⟩ r h
    exact ⟨N, 3, ((run N _ a0).trans (congrArg (m0 N a0) (funext fun a => lp4_eq N a0 a))).trans h⟩)
end impl_LeadersComplete
namespace laws_FnExactLeadersComplete
noncomputable def code : Code := Try.f4.body.getD .skip
abbrev live : Live := []
noncomputable def G (N : Nat) : Ctx E := gam [(8, [], laws_szGroup.sp N), (10, [], laws_toGroup.sp N), (13, [], spec_LeadersComplete.sp N), (14, [], impl_LeadersComplete.sp N), (12, [], laws_eqGroup.sp N)]
noncomputable def m0 (N : Nat) (a0 : Group) : Option R :=
  ob (laws_szGroup.m N a0 (1048576:Int)) fun y1 =>
  bif (decide (y1 < (0:Int))) then
    some true
  else
  ob (laws_toGroup.m N a0) fun y2 =>
  ob (spec_LeadersComplete.m N y2) fun y3 =>
  ob (laws_toGroup.m N a0) fun y4 =>
  ob (impl_LeadersComplete.m N y4) fun y5 =>
  bif (!(y5.1 == y3.1)) then
    some false
  else
  bif (bif false then true else (y5.2 != y3.2)) then
    some false
  else
  ob (laws_toGroup.m N a0) fun y6 =>
  ob (laws_eqGroup.m N y4 y6) fun y7 =>
  bif (!y7) then
    some false
  else
  some true
theorem run (N : Nat) (o0 : Orc E R) (a0 : Group) : runF T (G N) live [] Try.f4 code (sp N) o0 (a0, ()) = m0 N a0 := by kernel_rfl
theorem G_ok (N : Nat) : GamOK Try.prog (G N) := gam_ok (l := [(8, [], laws_szGroup.sp N), (10, [], laws_toGroup.sp N), (13, [], spec_LeadersComplete.sp N), (14, [], impl_LeadersComplete.sp N), (12, [], laws_eqGroup.sp N)]) (⟨laws_szGroup.snd N, laws_toGroup.snd N, spec_LeadersComplete.snd N, impl_LeadersComplete.snd N, laws_eqGroup.snd N, trivial⟩)
theorem snd (N : Nat) : Sound Try.prog E 4 (sp N) :=
  Mir.sound T_OK (G_ok N) mixed Try.func4 (c := code) (by kernel_rfl) (by kernel_rfl) (sp N) (Nat.le_of_ble_eq_true (by kernel_rfl)) live [] (by
    rintro ⟨a0, _⟩ r h
    exact ⟨N, 2, ((run N _ a0).trans rfl).trans h⟩)
end laws_FnExactLeadersComplete
namespace spec_l12One
noncomputable def code : Code := Try.f45.body.getD .skip
abbrev live : Live := [(5, [1, 3, 4]), (2, [1, 3])]
noncomputable def G (N : Nat) : Ctx E := gam []
noncomputable def loop2 : Code := codeAt code [1, 0, 1, 0]
noncomputable def body2 : Code := codeAt loop2 [0]
noncomputable def loop5 : Code := codeAt body2 [1, 0, 0, 1, 0]
noncomputable def body5 : Code := codeAt loop5 [0]
noncomputable def K2 (N : Nat) (o0 : Orc E R) : KT E R := kAt T (G N) live [] o0 code [1, 0, 1, 0] (kfin T Try.f45 (sp N))
noncomputable def St2 (a0 : Group) : (Int × (List Node) × (List Message) × (List Lead) × (List Done)) → St E
  | (v0, v1, v2, v3, v4) => { ρ := [(1, .c (.at (.ptr 0 0))), (3, .c (.at (.int .i64 v0)))], H := [(0, .box 36 [.ro 50 (.st 50) v1, .ro 113 (.st 113) v2, .ro 78 (.st 78) v3, .ro 66 (.st 66) v4])], nx := 1, n := 45, pin := [] }
noncomputable def K5 (N : Nat) (o0 : Orc E R) (o1 : Orc E R) (q1 : St E → Option R) : KT E R := kAt T (G N) live [] o1 body2 [1, 0, 0, 1, 0] (kloop [1, 3] q1 (K2 N o0))
noncomputable def St5 (a0 : Group) : (Int × Int × (List Node) × (List Message) × (List Lead) × (List Done)) → St E
  | (v0, v1, v2, v3, v4, v5) => { ρ := [(1, .c (.at (.ptr 0 0))), (3, .c (.at (.int .i64 v0))), (4, .c (.at (.int .i64 v1)))], H := [(0, .box 36 [.ro 50 (.st 50) v2, .ro 113 (.st 113) v3, .ro 78 (.st 78) v4, .ro 66 (.st 66) v5])], nx := 1, n := 45, pin := [] }
noncomputable def m0 (N : Nat) (a0 : Group) (lp2 : Int × (List Node) × (List Message) × (List Lead) × (List Done) → Option R) : Option R :=
  lp2 ((0:Int), a0.Nodes, a0.Wire, a0.Leads, a0.Dones)
theorem run (N : Nat) (o0 : Orc E R) (a0 : Group) : runF T (G N) live [] Try.f45 code (sp N) o0 (a0, ()) = m0 N a0 (fun a => o0 loop2 (K2 N o0) (St2 a0 a)) := by kernel_rfl
theorem body2_0 (N : Nat) (o0 : Orc E R) (o1 : Orc E R) (q1 : St E → Option R) (a0 : Group) (v0 : Int) (v1 : List Node) (v2 : List Message) (v3 : List Lead) (v4 : List Done) : runA T (G N) live [] o1 body2 (St2 a0 (v0, v1, v2, v3, v4)) (kloop [1, 3] q1 (K2 N o0)) = step2 N a0 (fun a => o1 loop5 (K5 N o0 o1 q1) (St5 a0 a)) (fun a => q1 (St2 a0 a)) (v0, v1, v2, v3, v4) := by kernel_rfl
theorem body5_0 (N : Nat) (o0 : Orc E R) (o1 : Orc E R) (o2 : Orc E R) (q1 : St E → Option R) (q2 : St E → Option R) (a0 : Group) (v0 : Int) (v1 : Int) (v2 : List Node) (v3 : List Message) (v4 : List Lead) (v5 : List Done) : runA T (G N) live [] o2 body5 (St5 a0 (v0, v1, v2, v3, v4, v5)) (kloop [1, 3, 4] q2 (K5 N o0 o1 q1)) = step5 N a0 (fun a => q1 (St2 a0 a)) (fun a => q2 (St5 a0 a)) (v0, v1, v2, v3, v4, v5) := by kernel_rfl
theorem lp5_eq (N : Nat) (a0 : Group) (q1 : St E → Option R) (a : Int × Int × (List Node) × (List Message) × (List Lead) × (List Done)) : (orc T (G N) live [] N 2) loop5 (K5 N (orc T (G N) live [] N 3) (orc T (G N) live [] N 2) q1) (St5 a0 a) = lp5 N a0 (fun a => q1 (St2 a0 a)) a :=
  (orc_loop (b := body5) (live := [1, 3, 4]) (by kernel_rfl)).trans (iter_eq (St5 a0) _ _ (fun q2 a => by
    have hc := congrFun (congrFun (congrArg (step5 N a0) (Eq.refl (fun a => q1 (St2 a0 a)))) (fun a => q2 (St5 a0 a))) a
    obtain ⟨u0, u1, u2, u3, u4, u5⟩ := a
    exact (body5_0 N (orc T (G N) live [] N 3) (orc T (G N) live [] N 2) (orc T (G N) live [] N 1) q1 q2 a0 u0 u1 u2 u3 u4 u5).trans hc) N a)
theorem lp2_eq (N : Nat) (a0 : Group) (a : Int × (List Node) × (List Message) × (List Lead) × (List Done)) : (orc T (G N) live [] N 3) loop2 (K2 N (orc T (G N) live [] N 3)) (St2 a0 a) = lp2 N a0 a :=
  (orc_loop (b := body2) (live := [1, 3]) (by kernel_rfl)).trans (iter_eq (St2 a0) _ _ (fun q1 a => by
    have hc := congrFun (congrFun (congrArg (step2 N a0) (funext fun a => lp5_eq N a0 q1 a)) (fun a => q1 (St2 a0 a))) a
    obtain ⟨u0, u1, u2, u3, u4⟩ := a
    exact (body2_0 N (orc T (G N) live [] N 3) (orc T (G N) live [] N 2) q1 a0 u0 u1 u2 u3 u4).trans hc) N a)
theorem G_ok (N : Nat) : GamOK Try.prog (G N) := gam_ok (l := []) (trivial)
theorem snd (N : Nat) : Sound Try.prog E 45 (sp N) :=
  Mir.sound T_OK (G_ok N) mixed Try.func45 (c := code) (by kernel_rfl) (by kernel_rfl) (sp N) (Nat.le_of_ble_eq_true (by kernel_rfl)) live [] (by
    rintro ⟨a0, _⟩ r h
    exact ⟨N, 3, ((run N _ a0).trans (congrArg (m0 N a0) (funext fun a => lp2_eq N a0 a))).trans h⟩)
end spec_l12One
namespace spec_OneLeader
noncomputable def code : Code := Try.f15.body.getD .skip
abbrev live : Live := []
noncomputable def G (N : Nat) : Ctx E := gam [(34, [], spec_GroupOK.sp N), (45, [], spec_l12One.sp N)]
noncomputable def m0 (N : Nat) (a0 : Group) : Option R :=
  ob (spec_GroupOK.m N a0) fun y1 =>
  bif (!y1) then
    some (false, (1:Int))
  else
  ob (spec_l12One.m N a0) fun y2 =>
  some (y2, (0:Int))
theorem run (N : Nat) (o0 : Orc E R) (a0 : Group) : runF T (G N) live [] Try.f15 code (sp N) o0 (a0, ()) = m0 N a0 := by kernel_rfl
theorem G_ok (N : Nat) : GamOK Try.prog (G N) := gam_ok (l := [(34, [], spec_GroupOK.sp N), (45, [], spec_l12One.sp N)]) (⟨spec_GroupOK.snd N, spec_l12One.snd N, trivial⟩)
theorem snd (N : Nat) : Sound Try.prog E 15 (sp N) :=
  Mir.sound T_OK (G_ok N) mixed Try.func15 (c := code) (by kernel_rfl) (by kernel_rfl) (sp N) (Nat.le_of_ble_eq_true (by kernel_rfl)) live [] (by
    rintro ⟨a0, _⟩ r h
    exact ⟨N, 2, ((run N _ a0).trans rfl).trans h⟩)
end spec_OneLeader
namespace impl_OneLeader_1
noncomputable def code : Code := Try.f47.body.getD .skip
abbrev live : Live := []
noncomputable def G (N : Nat) : Ctx E := gam []
noncomputable def m0 (N : Nat) (a0 : Lead) (a1 : Lead) : Option R :=
  bif (a0.Term != a1.Term) then
    some true
  else
  some (bif false then true else (a0.Id == a1.Id))
theorem run (N : Nat) (o0 : Orc E R) (a0 : Lead) (a1 : Lead) : runF T (G N) live [] Try.f47 code (sp N) o0 (a0, a1, ()) = m0 N a0 a1 := by kernel_rfl
theorem G_ok (N : Nat) : GamOK Try.prog (G N) := gam_ok (l := []) (trivial)
theorem snd (N : Nat) : Sound Try.prog E 47 (sp N) :=
  Mir.sound T_OK (G_ok N) mixed Try.func47 (c := code) (by kernel_rfl) (by kernel_rfl) (sp N) (Nat.le_of_ble_eq_true (by kernel_rfl)) live [] (by
    rintro ⟨a0, a1, _⟩ r h
    exact ⟨N, 2, ((run N _ a0 a1).trans rfl).trans h⟩)
end impl_OneLeader_1
namespace impl_pairsHold_impl_Lead__impl_OneLeader_1
noncomputable def code : Code := Try.f46.body.getD .skip
abbrev live : Live := [(5, [0, 1, 6, 9, 10, 11, 18, 19, 20]), (2, [0, 1, 9, 10, 11])]
noncomputable def G (N : Nat) : Ctx E := gam [(47, [], impl_OneLeader_1.sp N)]
noncomputable def loop2 : Code := codeAt code [1, 0, 1, 0]
noncomputable def body2 : Code := codeAt loop2 [0]
noncomputable def loop5 : Code := codeAt body2 [1, 1, 0, 0, 1, 1, 0]
noncomputable def body5 : Code := codeAt loop5 [0]
noncomputable def K2 (N : Nat) (o0 : Orc E R) : KT E R := kAt T (G N) live [] o0 code [1, 0, 1, 0] (kfin T Try.f46 (sp N))
noncomputable def St2 (a0 : List Lead) : (Int × Int) → St E
  | (v2, v3) => { ρ := [(0, .c (.at (.ro 78 (.st 78) a0))), (1, .clo 47 []), (9, .c (.at (.ro 78 (.st 78) a0))), (10, .c (.at (.int .i64 v2))), (11, .c (.at (.int .i64 v3)))], H := [], nx := 0, n := 31, pin := [] }
noncomputable def K5 (N : Nat) (o0 : Orc E R) (o1 : Orc E R) (q1 : St E → Option R) : KT E R := kAt T (G N) live [] o1 body2 [1, 1, 0, 0, 1, 1, 0] (kloop [0, 1, 9, 10, 11] q1 (K2 N o0))
noncomputable def St5 (a0 : List Lead) : (Int × Int × (List Lead) × Int × Int × Int × Int × (List Entry)) → St E
  | (v2, v3, v4, v5, v6, v7, v8, v9) => { ρ := [(0, .c (.at (.ro 78 (.st 78) a0))), (1, .clo 47 []), (6, .c (.at (.ptr 0 0))), (9, .c (.at (.ro 78 (.st 78) a0))), (10, .c (.at (.int .i64 v2))), (11, .c (.at (.int .i64 v3))), (18, .c (.at (.ro 78 (.st 78) v4))), (19, .c (.at (.int .i64 v5))), (20, .c (.at (.int .i64 v6)))], H := [(0, .box 78 [.int .i64 v7, .int .i64 v8, .ro 58 (.st 58) v9])], nx := 1, n := 31, pin := [] }
noncomputable def m0 (N : Nat) (a0 : List Lead) (lp2 : Int × Int → Option R) : Option R :=
  lp2 ((a0.length : Int), (0:Int))
theorem run (N : Nat) (o0 : Orc E R) (a0 : List Lead) : runF T (G N) live [] Try.f46 code (sp N) o0 (a0, (), ()) = m0 N a0 (fun a => o0 loop2 (K2 N o0) (St2 a0 a)) := by kernel_rfl
theorem body2_0 (N : Nat) (o0 : Orc E R) (o1 : Orc E R) (q1 : St E → Option R) (a0 : List Lead) (v2 : Int) (v3 : Int) : runA T (G N) live [] o1 body2 (St2 a0 (v2, v3)) (kloop [0, 1, 9, 10, 11] q1 (K2 N o0)) = step2 N a0 (fun a => o1 loop5 (K5 N o0 o1 q1) (St5 a0 a)) (fun a => q1 (St2 a0 a)) (v2, v3) := by kernel_rfl
theorem body5_0 (N : Nat) (o0 : Orc E R) (o1 : Orc E R) (o2 : Orc E R) (q1 : St E → Option R) (q2 : St E → Option R) (a0 : List Lead) (v2 : Int) (v3 : Int) (v4 : List Lead) (v5 : Int) (v6 : Int) (v7 : Int) (v8 : Int) (v9 : List Entry) : runA T (G N) live [] o2 body5 (St5 a0 (v2, v3, v4, v5, v6, v7, v8, v9)) (kloop [0, 1, 6, 9, 10, 11, 18, 19, 20] q2 (K5 N o0 o1 q1)) = step5 N a0 (fun a => q1 (St2 a0 a)) (fun a => q2 (St5 a0 a)) (v2, v3, v4, v5, v6, v7, v8, v9) := by kernel_rfl
theorem lp5_eq (N : Nat) (a0 : List Lead) (q1 : St E → Option R) (a : Int × Int × (List Lead) × Int × Int × Int × Int × (List Entry)) : (orc T (G N) live [] N 2) loop5 (K5 N (orc T (G N) live [] N 3) (orc T (G N) live [] N 2) q1) (St5 a0 a) = lp5 N a0 (fun a => q1 (St2 a0 a)) a :=
  (orc_loop (b := body5) (live := [0, 1, 6, 9, 10, 11, 18, 19, 20]) (by kernel_rfl)).trans (iter_eq (St5 a0) _ _ (fun q2 a => by
    have hc := congrFun (congrFun (congrArg (step5 N a0) (Eq.refl (fun a => q1 (St2 a0 a)))) (fun a => q2 (St5 a0 a))) a
    obtain ⟨u0, u1, u2, u3, u4, u5, u6, u7⟩ := a
    exact (body5_0 N (orc T (G N) live [] N 3) (orc T (G N) live [] N 2) (orc T (G N) live [] N 1) q1 q2 a0 u0 u1 u2 u3 u4 u5 u6 u7).trans hc) N a)
theorem lp2_eq (N : Nat) (a0 : List Lead) (a : Int × Int) : (orc T (G N) live [] N 3) loop2 (K2 N (orc T (G N) live [] N 3)) (St2 a0 a) = lp2 N a0 a :=
  (orc_loop (b := body2) (live := [0, 1, 9, 10, 11]) (by kernel_rfl)).trans (iter_eq (St2 a0) _ _ (fun q1 a => by
    have hc := congrFun (congrFun (congrArg (step2 N a0) (funext fun a => lp5_eq N a0 q1 a)) (fun a => q1 (St2 a0 a))) a
    obtain ⟨u0, u1⟩ := a
    exact (body2_0 N (orc T (G N) live [] N 3) (orc T (G N) live [] N 2) q1 a0 u0 u1).trans hc) N a)
theorem G_ok (N : Nat) : GamOK Try.prog (G N) := gam_ok (l := [(47, [], impl_OneLeader_1.sp N)]) (⟨impl_OneLeader_1.snd N, trivial⟩)
theorem snd (N : Nat) : Sound Try.prog E 46 (sp N) :=
  Mir.sound T_OK (G_ok N) mixed Try.func46 (c := code) (by kernel_rfl) (by kernel_rfl) (sp N) (Nat.le_of_ble_eq_true (by kernel_rfl)) live [] (by
    rintro ⟨a0, _, _⟩ r h
    exact ⟨N, 3, ((run N _ a0).trans (congrArg (m0 N a0) (funext fun a => lp2_eq N a0 a))).trans h⟩)
end impl_pairsHold_impl_Lead__impl_OneLeader_1
namespace impl_OneLeader
noncomputable def code : Code := Try.f16.body.getD .skip
abbrev live : Live := []
noncomputable def G (N : Nat) : Ctx E := gam [(39, [], impl_GroupOK.sp N), (46, [47], impl_pairsHold_impl_Lead__impl_OneLeader_1.sp N)]
noncomputable def m0 (N : Nat) (a0 : Group) : Option R :=
  ob (impl_GroupOK.m N a0) fun y1 =>
  bif (!y1) then
    some (false, (1:Int))
  else
  ob (impl_pairsHold_impl_Lead__impl_OneLeader_1.m N a0.Leads) fun y2 =>
  some (y2, (0:Int))
theorem run (N : Nat) (o0 : Orc E R) (a0 : Group) : runF T (G N) live [] Try.f16 code (sp N) o0 (a0, ()) = m0 N a0 := by kernel_rfl
theorem G_ok (N : Nat) : GamOK Try.prog (G N) := gam_ok (l := [(39, [], impl_GroupOK.sp N), (46, [47], impl_pairsHold_impl_Lead__impl_OneLeader_1.sp N)]) (⟨impl_GroupOK.snd N, impl_pairsHold_impl_Lead__impl_OneLeader_1.snd N, trivial⟩)
theorem snd (N : Nat) : Sound Try.prog E 16 (sp N) :=
  Mir.sound T_OK (G_ok N) mixed Try.func16 (c := code) (by kernel_rfl) (by kernel_rfl) (sp N) (Nat.le_of_ble_eq_true (by kernel_rfl)) live [] (by
    rintro ⟨a0, _⟩ r h
    exact ⟨N, 2, ((run N _ a0).trans rfl).trans h⟩)
end impl_OneLeader
namespace laws_FnExactOneLeader
noncomputable def code : Code := Try.f5.body.getD .skip
abbrev live : Live := []
noncomputable def G (N : Nat) : Ctx E := gam [(8, [], laws_szGroup.sp N), (10, [], laws_toGroup.sp N), (15, [], spec_OneLeader.sp N), (16, [], impl_OneLeader.sp N), (12, [], laws_eqGroup.sp N)]
noncomputable def m0 (N : Nat) (a0 : Group) : Option R :=
  ob (laws_szGroup.m N a0 (1048576:Int)) fun y1 =>
  bif (decide (y1 < (0:Int))) then
    some true
  else
  ob (laws_toGroup.m N a0) fun y2 =>
  ob (spec_OneLeader.m N y2) fun y3 =>
  ob (laws_toGroup.m N a0) fun y4 =>
  ob (impl_OneLeader.m N y4) fun y5 =>
  bif (!(y5.1 == y3.1)) then
    some false
  else
  bif (bif false then true else (y5.2 != y3.2)) then
    some false
  else
  ob (laws_toGroup.m N (Group.mk a0.Nodes a0.Wire a0.Leads a0.Dones)) fun y6 =>
  ob (laws_eqGroup.m N y4 y6) fun y7 =>
  bif (!y7) then
    some false
  else
  some true
theorem run (N : Nat) (o0 : Orc E R) (a0 : Group) : runF T (G N) live [] Try.f5 code (sp N) o0 (a0, ()) = m0 N a0 := by kernel_rfl
theorem G_ok (N : Nat) : GamOK Try.prog (G N) := gam_ok (l := [(8, [], laws_szGroup.sp N), (10, [], laws_toGroup.sp N), (15, [], spec_OneLeader.sp N), (16, [], impl_OneLeader.sp N), (12, [], laws_eqGroup.sp N)]) (⟨laws_szGroup.snd N, laws_toGroup.snd N, spec_OneLeader.snd N, impl_OneLeader.snd N, laws_eqGroup.snd N, trivial⟩)
theorem snd (N : Nat) : Sound Try.prog E 5 (sp N) :=
  Mir.sound T_OK (G_ok N) mixed Try.func5 (c := code) (by kernel_rfl) (by kernel_rfl) (sp N) (Nat.le_of_ble_eq_true (by kernel_rfl)) live [] (by
    rintro ⟨a0, _⟩ r h
    exact ⟨N, 2, ((run N _ a0).trans rfl).trans h⟩)
end laws_FnExactOneLeader
end Mir.Y
