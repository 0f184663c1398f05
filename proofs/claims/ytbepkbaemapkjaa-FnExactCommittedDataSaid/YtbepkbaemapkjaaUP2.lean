/- The models are what the functions do. -/
import Derived.Test.YtbepkbaemapkjaaUP1
namespace Mir.Y
set_option linter.unusedVariables false
set_option maxRecDepth 10000
open Go Go.Proofs Mir
namespace spec_l12Data
noncomputable def code : Code := Try.f48.body.getD .skip
abbrev live : Live := [(6, [1, 3, 4, 5]), (3, [1, 3, 4])]
noncomputable def G (N : Nat) : Ctx E := gam []
noncomputable def loop3 : Code := codeAt code [1, 1, 0, 1, 0]
noncomputable def body3 : Code := codeAt loop3 [0]
noncomputable def loop6 : Code := codeAt body3 [1, 0, 0, 1, 0]
noncomputable def body6 : Code := codeAt loop6 [0]
noncomputable def K3 (N : Nat) (o0 : Orc E R) : KT E R := kAt T (G N) live [] o0 code [1, 1, 0, 1, 0] (kfin T Try.f48 (sp N))
noncomputable def St3 (a0 : Group) : (Int × (List Node) × (List Message) × (List Lead) × (List Done) × (List ByteArray)) → St E
  | (v0, v1, v2, v3, v4, v5) => { ρ := [(1, .c (.at (.ptr 0 0))), (3, .c (.at (.own 1))), (4, .c (.at (.int .i64 v0)))], H := [(0, .box 36 [.ro 50 (.st 50) v1, .ro 113 (.st 113) v2, .ro 78 (.st 78) v3, .ro 66 (.st 66) v4]), (1, .row 9 .str v5 false)], nx := 2, n := 45, pin := [] }
noncomputable def K6 (N : Nat) (o0 : Orc E R) (o1 : Orc E R) (q1 : St E → Option R) : KT E R := kAt T (G N) live [] o1 body3 [1, 0, 0, 1, 0] (kloop [1, 3, 4] q1 (K3 N o0))
noncomputable def St6 (a0 : Group) : (Int × Int × (List Node) × (List Message) × (List Lead) × (List Done) × (List ByteArray)) → St E
  | (v0, v1, v2, v3, v4, v5, v6) => { ρ := [(1, .c (.at (.ptr 0 0))), (3, .c (.at (.own 1))), (4, .c (.at (.int .i64 v0))), (5, .c (.at (.int .i64 v1)))], H := [(0, .box 36 [.ro 50 (.st 50) v2, .ro 113 (.st 113) v3, .ro 78 (.st 78) v4, .ro 66 (.st 66) v5]), (1, .row 9 .str v6 false)], nx := 2, n := 45, pin := [] }
noncomputable def m0 (N : Nat) (a0 : Group) (lp3 : Int × (List Node) × (List Message) × (List Lead) × (List Done) × (List ByteArray) → Option R) : Option R :=
  lp3 ((1:Int), a0.Nodes, a0.Wire, a0.Leads, a0.Dones, ([] : List ByteArray))
theorem run (N : Nat) (o0 : Orc E R) (a0 : Group) : runF T (G N) live [] Try.f48 code (sp N) o0 (a0, ()) = m0 N a0 (fun a => o0 loop3 (K3 N o0) (St3 a0 a)) := by kernel_rfl
theorem body3_0 (N : Nat) (o0 : Orc E R) (o1 : Orc E R) (q1 : St E → Option R) (a0 : Group) (v0 : Int) (v1 : List Node) (v2 : List Message) (v3 : List Lead) (v4 : List Done) (v5 : List ByteArray) : runA T (G N) live [] o1 body3 (St3 a0 (v0, v1, v2, v3, v4, v5)) (kloop [1, 3, 4] q1 (K3 N o0)) = step3 N a0 (fun a => o1 loop6 (K6 N o0 o1 q1) (St6 a0 a)) (fun a => q1 (St3 a0 a)) (v0, v1, v2, v3, v4, v5) := by kernel_rfl
theorem body6_0 (N : Nat) (o0 : Orc E R) (o1 : Orc E R) (o2 : Orc E R) (q1 : St E → Option R) (q2 : St E → Option R) (a0 : Group) (v0 : Int) (v1 : Int) (v2 : List Node) (v3 : List Message) (v4 : List Lead) (v5 : List Done) (v6 : List ByteArray) : runA T (G N) live [] o2 body6 (St6 a0 (v0, v1, v2, v3, v4, v5, v6)) (kloop [1, 3, 4, 5] q2 (K6 N o0 o1 q1)) = step6 N a0 (fun a => q1 (St3 a0 a)) (fun a => q2 (St6 a0 a)) (v0, v1, v2, v3, v4, v5, v6) := by kernel_rfl
theorem lp6_eq (N : Nat) (a0 : Group) (q1 : St E → Option R) (a : Int × Int × (List Node) × (List Message) × (List Lead) × (List Done) × (List ByteArray)) : (orc T (G N) live [] N 2) loop6 (K6 N (orc T (G N) live [] N 3) (orc T (G N) live [] N 2) q1) (St6 a0 a) = lp6 N a0 (fun a => q1 (St3 a0 a)) a :=
  (orc_loop (b := body6) (live := [1, 3, 4, 5]) (by kernel_rfl)).trans (iter_eq (St6 a0) _ _ (fun q2 a => by
    have hc := congrFun (congrFun (congrArg (step6 N a0) (Eq.refl (fun a => q1 (St3 a0 a)))) (fun a => q2 (St6 a0 a))) a
    obtain ⟨u0, u1, u2, u3, u4, u5, u6⟩ := a
    exact (body6_0 N (orc T (G N) live [] N 3) (orc T (G N) live [] N 2) (orc T (G N) live [] N 1) q1 q2 a0 u0 u1 u2 u3 u4 u5 u6).trans hc) N a)
theorem lp3_eq (N : Nat) (a0 : Group) (a : Int × (List Node) × (List Message) × (List Lead) × (List Done) × (List ByteArray)) : (orc T (G N) live [] N 3) loop3 (K3 N (orc T (G N) live [] N 3)) (St3 a0 a) = lp3 N a0 a :=
  (orc_loop (b := body3) (live := [1, 3, 4]) (by kernel_rfl)).trans (iter_eq (St3 a0) _ _ (fun q1 a => by
    have hc := congrFun (congrFun (congrArg (step3 N a0) (funext fun a => lp6_eq N a0 q1 a)) (fun a => q1 (St3 a0 a))) a
    obtain ⟨u0, u1, u2, u3, u4, u5⟩ := a
    exact (body3_0 N (orc T (G N) live [] N 3) (orc T (G N) live [] N 2) q1 a0 u0 u1 u2 u3 u4 u5).trans hc) N a)
theorem G_ok (N : Nat) : GamOK Try.prog (G N) := gam_ok (l := []) (trivial)
theorem snd (N : Nat) : Sound Try.prog E 48 (sp N) :=
  Mir.sound T_OK (G_ok N) mixed Try.func48 (c := code) (by kernel_rfl) (by kernel_rfl) (sp N) (Nat.le_of_ble_eq_true (by kernel_rfl)) live [] (by
    rintro ⟨a0, _⟩ r h
    exact ⟨N, 3, ((run N _ a0).trans (congrArg (m0 N a0) (funext fun a => lp3_eq N a0 a))).trans h⟩)
end spec_l12Data
namespace spec_CommittedData
noncomputable def code : Code := Try.f17.body.getD .skip
abbrev live : Live := []
noncomputable def G (N : Nat) : Ctx E := gam [(34, [], spec_GroupOK.sp N), (48, [], spec_l12Data.sp N)]
noncomputable def m0 (N : Nat) (a0 : Group) : Option R :=
  ob (spec_GroupOK.m N a0) fun y1 =>
  bif (!y1) then
    some (([] : List ByteArray), (1:Int))
  else
  ob (spec_l12Data.m N a0) fun y2 =>
  some (y2, (0:Int))
theorem run (N : Nat) (o0 : Orc E R) (a0 : Group) : runF T (G N) live [] Try.f17 code (sp N) o0 (a0, ()) = m0 N a0 := by kernel_rfl
theorem G_ok (N : Nat) : GamOK Try.prog (G N) := gam_ok (l := [(34, [], spec_GroupOK.sp N), (48, [], spec_l12Data.sp N)]) (⟨spec_GroupOK.snd N, spec_l12Data.snd N, trivial⟩)
theorem snd (N : Nat) : Sound Try.prog E 17 (sp N) :=
  Mir.sound T_OK (G_ok N) mixed Try.func17 (c := code) (by kernel_rfl) (by kernel_rfl) (sp N) (Nat.le_of_ble_eq_true (by kernel_rfl)) live [] (by
    rintro ⟨a0, _⟩ r h
    exact ⟨N, 2, ((run N _ a0).trans rfl).trans h⟩)
end spec_CommittedData
namespace impl_within
noncomputable def code : Code := Try.f75.body.getD .skip
abbrev live : Live := []
noncomputable def G (N : Nat) : Ctx E := gam []
noncomputable def m0 (N : Nat) (a0 : Int) (a1 : Int) (a2 : Int) : Option R :=
  bif (decide (a0 ≥ a1)) then
    some (bif true then (decide (a0 ≤ a2)) else false)
  else
  some false
theorem run (N : Nat) (o0 : Orc E R) (a0 : Int) (a1 : Int) (a2 : Int) : runF T (G N) live [] Try.f75 code (sp N) o0 (a0, a1, a2, ()) = m0 N a0 a1 a2 := by kernel_rfl
theorem G_ok (N : Nat) : GamOK Try.prog (G N) := gam_ok (l := []) (trivial)
theorem snd (N : Nat) : Sound Try.prog E 75 (sp N) :=
  Mir.sound T_OK (G_ok N) mixed Try.func75 (c := code) (by kernel_rfl) (by kernel_rfl) (sp N) (Nat.le_of_ble_eq_true (by kernel_rfl)) live [] (by
    rintro ⟨a0, a1, a2, _⟩ r h
    exact ⟨N, 2, ((run N _ a0 a1 a2).trans rfl).trans h⟩)
end impl_within
namespace impl_isList_impl_Lead
noncomputable def code : Code := Try.f76.body.getD .skip
abbrev live : Live := []
noncomputable def G (N : Nat) : Ctx E := gam []
noncomputable def m0 (N : Nat) (a0 : List Lead) : Option R :=
  some (decide ((a0.length : Int) ≤ (4096:Int)))
theorem run (N : Nat) (o0 : Orc E R) (a0 : List Lead) : runF T (G N) live [] Try.f76 code (sp N) o0 (a0, ()) = m0 N a0 := by kernel_rfl
theorem G_ok (N : Nat) : GamOK Try.prog (G N) := gam_ok (l := []) (trivial)
theorem snd (N : Nat) : Sound Try.prog E 76 (sp N) :=
  Mir.sound T_OK (G_ok N) mixed Try.func76 (c := code) (by kernel_rfl) (by kernel_rfl) (sp N) (Nat.le_of_ble_eq_true (by kernel_rfl)) live [] (by
    rintro ⟨a0, _⟩ r h
    exact ⟨N, 2, ((run N _ a0).trans rfl).trans h⟩)
end impl_isList_impl_Lead
namespace impl_isList_impl_Done
noncomputable def code : Code := Try.f77.body.getD .skip
abbrev live : Live := []
noncomputable def G (N : Nat) : Ctx E := gam []
noncomputable def m0 (N : Nat) (a0 : List Done) : Option R :=
  some (decide ((a0.length : Int) ≤ (4096:Int)))
theorem run (N : Nat) (o0 : Orc E R) (a0 : List Done) : runF T (G N) live [] Try.f77 code (sp N) o0 (a0, ()) = m0 N a0 := by kernel_rfl
theorem G_ok (N : Nat) : GamOK Try.prog (G N) := gam_ok (l := []) (trivial)
theorem snd (N : Nat) : Sound Try.prog E 77 (sp N) :=
  Mir.sound T_OK (G_ok N) mixed Try.func77 (c := code) (by kernel_rfl) (by kernel_rfl) (sp N) (Nat.le_of_ble_eq_true (by kernel_rfl)) live [] (by
    rintro ⟨a0, _⟩ r h
    exact ⟨N, 2, ((run N _ a0).trans rfl).trans h⟩)
end impl_isList_impl_Done
namespace impl_isNumber
noncomputable def code : Code := Try.f89.body.getD .skip
abbrev live : Live := []
noncomputable def G (N : Nat) : Ctx E := gam [(75, [], impl_within.sp N)]
noncomputable def m0 (N : Nat) (a0 : Int) : Option R :=
  ob (impl_within.m N a0 (0:Int) (6:Int)) fun y1 =>
  some y1
theorem run (N : Nat) (o0 : Orc E R) (a0 : Int) : runF T (G N) live [] Try.f89 code (sp N) o0 (a0, ()) = m0 N a0 := by kernel_rfl
theorem G_ok (N : Nat) : GamOK Try.prog (G N) := gam_ok (l := [(75, [], impl_within.sp N)]) (⟨impl_within.snd N, trivial⟩)
theorem snd (N : Nat) : Sound Try.prog E 89 (sp N) :=
  Mir.sound T_OK (G_ok N) mixed Try.func89 (c := code) (by kernel_rfl) (by kernel_rfl) (sp N) (Nat.le_of_ble_eq_true (by kernel_rfl)) live [] (by
    rintro ⟨a0, _⟩ r h
    exact ⟨N, 2, ((run N _ a0).trans rfl).trans h⟩)
end impl_isNumber
namespace impl_areNumbers_1
noncomputable def code : Code := Try.f121.body.getD .skip
abbrev live : Live := []
noncomputable def G (N : Nat) : Ctx E := gam [(75, [], impl_within.sp N)]
noncomputable def m0 (N : Nat) (a0 : Int) : Option R :=
  ob (impl_within.m N a0 (0:Int) (6:Int)) fun y1 =>
  some (!y1)
theorem run (N : Nat) (o0 : Orc E R) (a0 : Int) : runF T (G N) live [] Try.f121 code (sp N) o0 (a0, ()) = m0 N a0 := by kernel_rfl
theorem G_ok (N : Nat) : GamOK Try.prog (G N) := gam_ok (l := [(75, [], impl_within.sp N)]) (⟨impl_within.snd N, trivial⟩)
theorem snd (N : Nat) : Sound Try.prog E 121 (sp N) :=
  Mir.sound T_OK (G_ok N) mixed Try.func121 (c := code) (by kernel_rfl) (by kernel_rfl) (sp N) (Nat.le_of_ble_eq_true (by kernel_rfl)) live [] (by
    rintro ⟨a0, _⟩ r h
    exact ⟨N, 2, ((run N _ a0).trans rfl).trans h⟩)
end impl_areNumbers_1
namespace slices_IndexFunc_int_int__impl_areNumbers_1
noncomputable def code : Code := Try.f134.body.getD .skip
abbrev live : Live := [(2, [0, 1, 7, 8])]
noncomputable def G (N : Nat) : Ctx E := gam [(121, [], impl_areNumbers_1.sp N)]
noncomputable def loop2 : Code := codeAt code [1, 0, 1, 0]
noncomputable def body2 : Code := codeAt loop2 [0]
noncomputable def K2 (N : Nat) (o0 : Orc E R) : KT E R := kAt T (G N) live [] o0 code [1, 0, 1, 0] (kfin T Try.f134 (sp N))
noncomputable def St2 (a0 : List Int) : (Int × Int) → St E
  | (v1, v2) => { ρ := [(0, .c (.at (.ro 3 (.int .i64) a0))), (1, .clo 121 []), (7, .c (.at (.int .i64 v1))), (8, .c (.at (.int .i64 v2)))], H := [], nx := 0, n := 19, pin := [] }
noncomputable def m0 (N : Nat) (a0 : List Int) (lp2 : Int × Int → Option R) : Option R :=
  lp2 ((a0.length : Int), (0:Int))
theorem run (N : Nat) (o0 : Orc E R) (a0 : List Int) : runF T (G N) live [] Try.f134 code (sp N) o0 (a0, (), ()) = m0 N a0 (fun a => o0 loop2 (K2 N o0) (St2 a0 a)) := by kernel_rfl
theorem body2_0 (N : Nat) (o0 : Orc E R) (o1 : Orc E R) (q1 : St E → Option R) (a0 : List Int) (v1 : Int) (v2 : Int) : runA T (G N) live [] o1 body2 (St2 a0 (v1, v2)) (kloop [0, 1, 7, 8] q1 (K2 N o0)) = step2 N a0 (fun a => q1 (St2 a0 a)) (v1, v2) := by kernel_rfl
theorem lp2_eq (N : Nat) (a0 : List Int) (a : Int × Int) : (orc T (G N) live [] N 2) loop2 (K2 N (orc T (G N) live [] N 2)) (St2 a0 a) = lp2 N a0 a :=
  (orc_loop (b := body2) (live := [0, 1, 7, 8]) (by kernel_rfl)).trans (iter_eq (St2 a0) _ _ (fun q1 a => by
    have hc := congrFun (congrFun (rfl : (step2 N a0) = (step2 N a0)) (fun a => q1 (St2 a0 a))) a
    obtain ⟨u0, u1⟩ := a
    exact (body2_0 N (orc T (G N) live [] N 2) (orc T (G N) live [] N 1) q1 a0 u0 u1).trans hc) N a)
theorem G_ok (N : Nat) : GamOK Try.prog (G N) := gam_ok (l := [(121, [], impl_areNumbers_1.sp N)]) (⟨impl_areNumbers_1.snd N, trivial⟩)
theorem snd (N : Nat) : Sound Try.prog E 134 (sp N) :=
  Mir.sound T_OK (G_ok N) mixed Try.func134 (c := code) (by kernel_rfl) (by kernel_rfl) (sp N) (Nat.le_of_ble_eq_true (by kernel_rfl)) live [] (by
    rintro ⟨a0, _, _⟩ r h
    exact ⟨N, 2, ((run N _ a0).trans (congrArg (m0 N a0) (funext fun a => lp2_eq N a0 a))).trans h⟩)
end slices_IndexFunc_int_int__impl_areNumbers_1
namespace slices_ContainsFunc_int_int__impl_areNumbers_1
noncomputable def code : Code := Try.f120.body.getD .skip
abbrev live : Live := []
noncomputable def G (N : Nat) : Ctx E := gam [(134, [121], slices_IndexFunc_int_int__impl_areNumbers_1.sp N)]
noncomputable def m0 (N : Nat) (a0 : List Int) : Option R :=
  ob (slices_IndexFunc_int_int__impl_areNumbers_1.m N a0) fun y1 =>
  some (decide (y1 ≥ (0:Int)))
theorem run (N : Nat) (o0 : Orc E R) (a0 : List Int) : runF T (G N) live [] Try.f120 code (sp N) o0 (a0, (), ()) = m0 N a0 := by kernel_rfl
theorem G_ok (N : Nat) : GamOK Try.prog (G N) := gam_ok (l := [(134, [121], slices_IndexFunc_int_int__impl_areNumbers_1.sp N)]) (⟨slices_IndexFunc_int_int__impl_areNumbers_1.snd N, trivial⟩)
theorem snd (N : Nat) : Sound Try.prog E 120 (sp N) :=
  Mir.sound T_OK (G_ok N) mixed Try.func120 (c := code) (by kernel_rfl) (by kernel_rfl) (sp N) (Nat.le_of_ble_eq_true (by kernel_rfl)) live [] (by
    rintro ⟨a0, _, _⟩ r h
    exact ⟨N, 2, ((run N _ a0).trans rfl).trans h⟩)
end slices_ContainsFunc_int_int__impl_areNumbers_1
namespace impl_areNumbers
noncomputable def code : Code := Try.f91.body.getD .skip
abbrev live : Live := []
noncomputable def G (N : Nat) : Ctx E := gam [(120, [121], slices_ContainsFunc_int_int__impl_areNumbers_1.sp N)]
noncomputable def m0 (N : Nat) (a0 : List Int) : Option R :=
  ob (slices_ContainsFunc_int_int__impl_areNumbers_1.m N a0) fun y1 =>
  some (!y1)
theorem run (N : Nat) (o0 : Orc E R) (a0 : List Int) : runF T (G N) live [] Try.f91 code (sp N) o0 (a0, ()) = m0 N a0 := by kernel_rfl
theorem G_ok (N : Nat) : GamOK Try.prog (G N) := gam_ok (l := [(120, [121], slices_ContainsFunc_int_int__impl_areNumbers_1.sp N)]) (⟨slices_ContainsFunc_int_int__impl_areNumbers_1.snd N, trivial⟩)
theorem snd (N : Nat) : Sound Try.prog E 91 (sp N) :=
  Mir.sound T_OK (G_ok N) mixed Try.func91 (c := code) (by kernel_rfl) (by kernel_rfl) (sp N) (Nat.le_of_ble_eq_true (by kernel_rfl)) live [] (by
    rintro ⟨a0, _⟩ r h
    exact ⟨N, 2, ((run N _ a0).trans rfl).trans h⟩)
end impl_areNumbers
namespace impl_areRising
noncomputable def code : Code := Try.f92.body.getD .skip
abbrev live : Live := [(2, [0, 3])]
noncomputable def G (N : Nat) : Ctx E := gam []
noncomputable def loop2 : Code := codeAt code [1, 0, 1, 0]
noncomputable def body2 : Code := codeAt loop2 [0]
noncomputable def K2 (N : Nat) (o0 : Orc E R) : KT E R := kAt T (G N) live [] o0 code [1, 0, 1, 0] (kfin T Try.f92 (sp N))
noncomputable def St2 (a0 : List Int) : Int → St E
  | v1 => { ρ := [(0, .c (.at (.ro 3 (.int .i64) a0))), (3, .c (.at (.int .i64 v1)))], H := [], nx := 0, n := 20, pin := [] }
noncomputable def m0 (N : Nat) (a0 : List Int) (lp2 : Int → Option R) : Option R :=
  lp2 (1:Int)
theorem run (N : Nat) (o0 : Orc E R) (a0 : List Int) : runF T (G N) live [] Try.f92 code (sp N) o0 (a0, ()) = m0 N a0 (fun a => o0 loop2 (K2 N o0) (St2 a0 a)) := by kernel_rfl
theorem body2_0 (N : Nat) (o0 : Orc E R) (o1 : Orc E R) (q1 : St E → Option R) (a0 : List Int) (v1 : Int) : runA T (G N) live [] o1 body2 (St2 a0 v1) (kloop [0, 3] q1 (K2 N o0)) = step2 N a0 (fun a => q1 (St2 a0 a)) v1 := by kernel_rfl
theorem lp2_eq (N : Nat) (a0 : List Int) (a : Int) : (orc T (G N) live [] N 2) loop2 (K2 N (orc T (G N) live [] N 2)) (St2 a0 a) = lp2 N a0 a :=
  (orc_loop (b := body2) (live := [0, 3]) (by kernel_rfl)).trans (iter_eq (St2 a0) _ _ (fun q1 a => by
    have hc := congrFun (congrFun (rfl : (step2 N a0) = (step2 N a0)) (fun a => q1 (St2 a0 a))) a
    exact (body2_0 N (orc T (G N) live [] N 2) (orc T (G N) live [] N 1) q1 a0 a).trans hc) N a)
theorem G_ok (N : Nat) : GamOK Try.prog (G N) := gam_ok (l := []) (trivial)
theorem snd (N : Nat) : Sound Try.prog E 92 (sp N) :=
  Mir.sound T_OK (G_ok N) mixed Try.func92 (c := code) (by kernel_rfl) (by kernel_rfl) (sp N) (Nat.le_of_ble_eq_true (by kernel_rfl)) live [] (by
    rintro ⟨a0, _⟩ r h
    exact ⟨N, 2, ((run N _ a0).trans (congrArg (m0 N a0) (funext fun a => lp2_eq N a0 a))).trans h⟩)
end impl_areRising
namespace impl_membersOK
noncomputable def code : Code := Try.f58.body.getD .skip
abbrev live : Live := []
noncomputable def G (N : Nat) : Ctx E := gam [(91, [], impl_areNumbers.sp N), (92, [], impl_areRising.sp N)]
noncomputable def m0 (N : Nat) (a0 : List Int) : Option R :=
  bif (decide ((a0.length : Int) > (0:Int))) then
    ob (impl_areNumbers.m N a0) fun y1 =>
    bif (bif true then y1 else false) then
      ob (impl_areRising.m N a0) fun y2 =>
      some (bif true then y2 else false)
    else
    some false
  else
  some false
theorem run (N : Nat) (o0 : Orc E R) (a0 : List Int) : runF T (G N) live [] Try.f58 code (sp N) o0 (a0, ()) = m0 N a0 := by kernel_rfl
theorem G_ok (N : Nat) : GamOK Try.prog (G N) := gam_ok (l := [(91, [], impl_areNumbers.sp N), (92, [], impl_areRising.sp N)]) (⟨impl_areNumbers.snd N, impl_areRising.snd N, trivial⟩)
theorem snd (N : Nat) : Sound Try.prog E 58 (sp N) :=
  Mir.sound T_OK (G_ok N) mixed Try.func58 (c := code) (by kernel_rfl) (by kernel_rfl) (sp N) (Nat.le_of_ble_eq_true (by kernel_rfl)) live [] (by
    rintro ⟨a0, _⟩ r h
    exact ⟨N, 2, ((run N _ a0).trans rfl).trans h⟩)
end impl_membersOK
namespace impl_readMembers
noncomputable def code : Code := Try.f102.body.getD .skip
abbrev live : Live := [(3, [0, 4, 8, 9])]
noncomputable def G (N : Nat) : Ctx E := gam [(58, [], impl_membersOK.sp N)]
noncomputable def loop3 : Code := codeAt code [1, 1, 0, 1, 0]
noncomputable def body3 : Code := codeAt loop3 [0]
noncomputable def K3 (N : Nat) (o0 : Orc E R) : KT E R := kAt T (G N) live [] o0 code [1, 1, 0, 1, 0] (kfin T Try.f102 (sp N))
noncomputable def St3 (a0 : ByteArray) : (Int × Int × (List Int)) → St E
  | (v1, v2, v3) => { ρ := [(0, .c (.at (.str a0))), (4, .c (.at (.own 0))), (8, .c (.at (.int .i64 v1))), (9, .c (.at (.int .i64 v2)))], H := [(0, .row 3 (.int .i64) v3 false)], nx := 1, n := 23, pin := [] }
noncomputable def m0 (N : Nat) (a0 : ByteArray) (lp3 : Int × Int × (List Int) → Option R) : Option R :=
  lp3 ((a0.size : Int), (0:Int), ([] : List Int))
theorem run (N : Nat) (o0 : Orc E R) (a0 : ByteArray) : runF T (G N) live [] Try.f102 code (sp N) o0 (a0, ()) = m0 N a0 (fun a => o0 loop3 (K3 N o0) (St3 a0 a)) := by kernel_rfl
theorem body3_0 (N : Nat) (o0 : Orc E R) (o1 : Orc E R) (q1 : St E → Option R) (a0 : ByteArray) (v1 : Int) (v2 : Int) (v3 : List Int) : runA T (G N) live [] o1 body3 (St3 a0 (v1, v2, v3)) (kloop [0, 4, 8, 9] q1 (K3 N o0)) = step3 N a0 (fun a => q1 (St3 a0 a)) (v1, v2, v3) := by kernel_rfl
theorem lp3_eq (N : Nat) (a0 : ByteArray) (a : Int × Int × (List Int)) : (orc T (G N) live [] N 2) loop3 (K3 N (orc T (G N) live [] N 2)) (St3 a0 a) = lp3 N a0 a :=
  (orc_loop (b := body3) (live := [0, 4, 8, 9]) (by kernel_rfl)).trans (iter_eq (St3 a0) _ _ (fun q1 a => by
    have hc := congrFun (congrFun (rfl : (step3 N a0) = (step3 N a0)) (fun a => q1 (St3 a0 a))) a
    obtain ⟨u0, u1, u2⟩ := a
    exact (body3_0 N (orc T (G N) live [] N 2) (orc T (G N) live [] N 1) q1 a0 u0 u1 u2).trans hc) N a)
theorem G_ok (N : Nat) : GamOK Try.prog (G N) := gam_ok (l := [(58, [], impl_membersOK.sp N)]) (⟨impl_membersOK.snd N, trivial⟩)
theorem snd (N : Nat) : Sound Try.prog E 102 (sp N) :=
  Mir.sound T_OK (G_ok N) mixed Try.func102 (c := code) (by kernel_rfl) (by kernel_rfl) (sp N) (Nat.le_of_ble_eq_true (by kernel_rfl)) live [] (by
    rintro ⟨a0, _⟩ r h
    exact ⟨N, 2, ((run N _ a0).trans (congrArg (m0 N a0) (funext fun a => lp3_eq N a0 a))).trans h⟩)
end impl_readMembers
namespace impl_entryOK
noncomputable def code : Code := Try.f126.body.getD .skip
abbrev live : Live := []
noncomputable def G (N : Nat) : Ctx E := gam [(75, [], impl_within.sp N), (102, [], impl_readMembers.sp N)]
noncomputable def m0 (N : Nat) (a0 : Entry) : Option R :=
  ob (impl_within.m N a0.Term (1:Int) (1000000:Int)) fun y1 =>
  bif (!y1) then
    some false
  else
  bif (a0.Kind == (0:Int)) then
    some (seq a0.Data ByteArray.empty)
  else
  bif (a0.Kind == (1:Int)) then
    ob (impl_within.m N (a0.Data.size : Int) (1:Int) (100:Int)) fun y2 =>
    some y2
  else
  bif (a0.Kind == (2:Int)) then
    ob (impl_readMembers.m N a0.Data) fun y3 =>
    some y3.2
  else
  some false
theorem run (N : Nat) (o0 : Orc E R) (a0 : Entry) : runF T (G N) live [] Try.f126 code (sp N) o0 (a0, ()) = m0 N a0 := by kernel_rfl
theorem G_ok (N : Nat) : GamOK Try.prog (G N) := gam_ok (l := [(75, [], impl_within.sp N), (102, [], impl_readMembers.sp N)]) (⟨impl_within.snd N, impl_readMembers.snd N, trivial⟩)
theorem snd (N : Nat) : Sound Try.prog E 126 (sp N) :=
  Mir.sound T_OK (G_ok N) mixed Try.func126 (c := code) (by kernel_rfl) (by kernel_rfl) (sp N) (Nat.le_of_ble_eq_true (by kernel_rfl)) live [] (by
    rintro ⟨a0, _⟩ r h
    exact ⟨N, 2, ((run N _ a0).trans rfl).trans h⟩)
end impl_entryOK
namespace impl_logOK
noncomputable def code : Code := Try.f119.body.getD .skip
abbrev live : Live := [(2, [0, 1, 7, 8, 9])]
noncomputable def G (N : Nat) : Ctx E := gam [(126, [], impl_entryOK.sp N)]
noncomputable def loop2 : Code := codeAt code [1, 0, 1, 0]
noncomputable def body2 : Code := codeAt loop2 [0]
noncomputable def K2 (N : Nat) (o0 : Orc E R) : KT E R := kAt T (G N) live [] o0 code [1, 0, 1, 0] (kfin T Try.f119 (sp N))
noncomputable def St2 (a0 : List Entry) (a1 : Int) : (Int × Int) → St E
  | (v3, v4) => { ρ := [(0, .c (.at (.ro 58 (.st 58) a0))), (1, .c (.at (.int .i64 a1))), (7, .c (.at (.ro 58 (.st 58) a0))), (8, .c (.at (.int .i64 v3))), (9, .c (.at (.int .i64 v4)))], H := [], nx := 0, n := 42, pin := [] }
noncomputable def m0 (N : Nat) (a0 : List Entry) (a1 : Int) (lp2 : Int × Int → Option R) : Option R :=
  lp2 ((a0.length : Int), (0:Int))
theorem run (N : Nat) (o0 : Orc E R) (a0 : List Entry) (a1 : Int) : runF T (G N) live [] Try.f119 code (sp N) o0 (a0, a1, ()) = m0 N a0 a1 (fun a => o0 loop2 (K2 N o0) (St2 a0 a1 a)) := by kernel_rfl
theorem body2_0 (N : Nat) (o0 : Orc E R) (o1 : Orc E R) (q1 : St E → Option R) (a0 : List Entry) (a1 : Int) (v3 : Int) (v4 : Int) : runA T (G N) live [] o1 body2 (St2 a0 a1 (v3, v4)) (kloop [0, 1, 7, 8, 9] q1 (K2 N o0)) = step2 N a0 a1 (fun a => q1 (St2 a0 a1 a)) (v3, v4) := by kernel_rfl
theorem lp2_eq (N : Nat) (a0 : List Entry) (a1 : Int) (a : Int × Int) : (orc T (G N) live [] N 2) loop2 (K2 N (orc T (G N) live [] N 2)) (St2 a0 a1 a) = lp2 N a0 a1 a :=
  (orc_loop (b := body2) (live := [0, 1, 7, 8, 9]) (by kernel_rfl)).trans (iter_eq (St2 a0 a1) _ _ (fun q1 a => by
    have hc := congrFun (congrFun (rfl : (step2 N a0 a1) = (step2 N a0 a1)) (fun a => q1 (St2 a0 a1 a))) a
    obtain ⟨u0, u1⟩ := a
    exact (body2_0 N (orc T (G N) live [] N 2) (orc T (G N) live [] N 1) q1 a0 a1 u0 u1).trans hc) N a)
theorem G_ok (N : Nat) : GamOK Try.prog (G N) := gam_ok (l := [(126, [], impl_entryOK.sp N)]) (⟨impl_entryOK.snd N, trivial⟩)
theorem snd (N : Nat) : Sound Try.prog E 119 (sp N) :=
  Mir.sound T_OK (G_ok N) mixed Try.func119 (c := code) (by kernel_rfl) (by kernel_rfl) (sp N) (Nat.le_of_ble_eq_true (by kernel_rfl)) live [] (by
    rintro ⟨a0, a1, _⟩ r h
    exact ⟨N, 2, ((run N _ a0 a1).trans (congrArg (m0 N a0 a1) (funext fun a => lp2_eq N a0 a1 a))).trans h⟩)
end impl_logOK
namespace impl_StateOK
noncomputable def code : Code := Try.f90.body.getD .skip
abbrev live : Live := []
noncomputable def G (N : Nat) : Ctx E := gam [(75, [], impl_within.sp N), (119, [], impl_logOK.sp N)]
noncomputable def m0 (N : Nat) (a0 : State) : Option R :=
  ob (impl_within.m N a0.Term (0:Int) (1000000:Int)) fun y1 =>
  bif y1 then
    ob (impl_within.m N a0.Vote (-1:Int) (6:Int)) fun y2 =>
    bif (bif true then y2 else false) then
      ob (impl_logOK.m N a0.Log a0.Term) fun y3 =>
      some (bif true then y3 else false)
    else
    some false
  else
  some false
theorem run (N : Nat) (o0 : Orc E R) (a0 : State) : runF T (G N) live [] Try.f90 code (sp N) o0 (a0, ()) = m0 N a0 := by kernel_rfl
theorem G_ok (N : Nat) : GamOK Try.prog (G N) := gam_ok (l := [(75, [], impl_within.sp N), (119, [], impl_logOK.sp N)]) (⟨impl_within.snd N, impl_logOK.snd N, trivial⟩)
theorem snd (N : Nat) : Sound Try.prog E 90 (sp N) :=
  Mir.sound T_OK (G_ok N) mixed Try.func90 (c := code) (by kernel_rfl) (by kernel_rfl) (sp N) (Nat.le_of_ble_eq_true (by kernel_rfl)) live [] (by
    rintro ⟨a0, _⟩ r h
    exact ⟨N, 2, ((run N _ a0).trans rfl).trans h⟩)
end impl_StateOK
namespace impl_reachOK
noncomputable def code : Code := Try.f93.body.getD .skip
abbrev live : Live := [(4, [0, 1, 2, 17, 18])]
noncomputable def G (N : Nat) : Ctx E := gam [(75, [], impl_within.sp N)]
noncomputable def loop4 : Code := codeAt code [1, 1, 0, 1, 0]
noncomputable def body4 : Code := codeAt loop4 [0]
noncomputable def K4 (N : Nat) (o0 : Orc E R) : KT E R := kAt T (G N) live [] o0 code [1, 1, 0, 1, 0] (kfin T Try.f93 (sp N))
noncomputable def St4 (a0 : List Int) (a1 : List Int) (a2 : Int) : (Int × Int) → St E
  | (v3, v4) => { ρ := [(0, .c (.at (.ro 3 (.int .i64) a0))), (1, .c (.at (.ro 3 (.int .i64) a1))), (2, .c (.at (.int .i64 a2))), (17, .c (.at (.int .i64 v3))), (18, .c (.at (.int .i64 v4)))], H := [], nx := 0, n := 43, pin := [] }
noncomputable def m0 (N : Nat) (a0 : List Int) (a1 : List Int) (a2 : Int) (lp4 : Int × Int → Option R) : Option R :=
  bif ((a0.length : Int) != (7:Int)) then
    some false
  else
  bif (bif false then true else ((a1.length : Int) != (7:Int))) then
    some false
  else
  lp4 ((a0.length : Int), (0:Int))
theorem run (N : Nat) (o0 : Orc E R) (a0 : List Int) (a1 : List Int) (a2 : Int) : runF T (G N) live [] Try.f93 code (sp N) o0 (a0, a1, a2, ()) = m0 N a0 a1 a2 (fun a => o0 loop4 (K4 N o0) (St4 a0 a1 a2 a)) := by kernel_rfl
theorem body4_0 (N : Nat) (o0 : Orc E R) (o1 : Orc E R) (q1 : St E → Option R) (a0 : List Int) (a1 : List Int) (a2 : Int) (v3 : Int) (v4 : Int) : runA T (G N) live [] o1 body4 (St4 a0 a1 a2 (v3, v4)) (kloop [0, 1, 2, 17, 18] q1 (K4 N o0)) = step4 N a0 a1 a2 (fun a => q1 (St4 a0 a1 a2 a)) (v3, v4) := by kernel_rfl
theorem lp4_eq (N : Nat) (a0 : List Int) (a1 : List Int) (a2 : Int) (a : Int × Int) : (orc T (G N) live [] N 2) loop4 (K4 N (orc T (G N) live [] N 2)) (St4 a0 a1 a2 a) = lp4 N a0 a1 a2 a :=
  (orc_loop (b := body4) (live := [0, 1, 2, 17, 18]) (by kernel_rfl)).trans (iter_eq (St4 a0 a1 a2) _ _ (fun q1 a => by
    have hc := congrFun (congrFun (rfl : (step4 N a0 a1 a2) = (step4 N a0 a1 a2)) (fun a => q1 (St4 a0 a1 a2 a))) a
    obtain ⟨u0, u1⟩ := a
    exact (body4_0 N (orc T (G N) live [] N 2) (orc T (G N) live [] N 1) q1 a0 a1 a2 u0 u1).trans hc) N a)
theorem G_ok (N : Nat) : GamOK Try.prog (G N) := gam_ok (l := [(75, [], impl_within.sp N)]) (⟨impl_within.snd N, trivial⟩)
theorem snd (N : Nat) : Sound Try.prog E 93 (sp N) :=
  Mir.sound T_OK (G_ok N) mixed Try.func93 (c := code) (by kernel_rfl) (by kernel_rfl) (sp N) (Nat.le_of_ble_eq_true (by kernel_rfl)) live [] (by
    rintro ⟨a0, a1, a2, _⟩ r h
    exact ⟨N, 2, ((run N _ a0 a1 a2).trans (congrArg (m0 N a0 a1 a2) (funext fun a => lp4_eq N a0 a1 a2 a))).trans h⟩)
end impl_reachOK
namespace impl_NodeOK
noncomputable def code : Code := Try.f57.body.getD .skip
abbrev live : Live := []
noncomputable def G (N : Nat) : Ctx E := gam [(89, [], impl_isNumber.sp N), (90, [], impl_StateOK.sp N), (58, [], impl_membersOK.sp N), (91, [], impl_areNumbers.sp N), (92, [], impl_areRising.sp N), (75, [], impl_within.sp N), (93, [], impl_reachOK.sp N)]
noncomputable def m0 (N : Nat) (a0 : Node) : Option R :=
  ob (impl_isNumber.m N a0.Id) fun y1 =>
  bif (!y1) then
    some false
  else
  ob (impl_StateOK.m N (State.mk a0.Term a0.Vote a0.Log)) fun y2 =>
  bif (bif false then true else (!y2)) then
    some false
  else
  ob (impl_membersOK.m N a0.Start) fun y3 =>
  bif (bif false then true else (!y3)) then
    some false
  else
  ob (impl_areNumbers.m N a0.Votes) fun y4 =>
  bif (bif false then true else (!y4)) then
    some false
  else
  ob (impl_areRising.m N a0.Votes) fun y5 =>
  bif (bif false then true else (!y5)) then
    some false
  else
  ob (impl_within.m N a0.Role (0:Int) (2:Int)) fun y6 =>
  bif (!y6) then
    some false
  else
  bif (!a0.Up) then
    bif (bif false then true else (bif true then (a0.Role != (0:Int)) else false)) then
      some false
    else
    ob (impl_reachOK.m N a0.Next a0.Match (a0.Log.length : Int)) fun y7 =>
    bif (bif false then true else (!y7)) then
      some false
    else
    ob (impl_within.m N a0.Commit (0:Int) (a0.Log.length : Int)) fun y8 =>
    bif y8 then
      ob (impl_within.m N a0.Elapsed (0:Int) (1000:Int)) fun y9 =>
      bif (bif true then y9 else false) then
        ob (impl_within.m N a0.Wait (5:Int) (100:Int)) fun y10 =>
        some (bif true then y10 else false)
      else
      some false
    else
    some false
  else
  bif (bif false then true else false) then
    some false
  else
  ob (impl_reachOK.m N a0.Next a0.Match (a0.Log.length : Int)) fun y11 =>
  bif (bif false then true else (!y11)) then
    some false
  else
  ob (impl_within.m N a0.Commit (0:Int) (a0.Log.length : Int)) fun y12 =>
  bif y12 then
    ob (impl_within.m N a0.Elapsed (0:Int) (1000:Int)) fun y13 =>
    bif (bif true then y13 else false) then
      ob (impl_within.m N a0.Wait (5:Int) (100:Int)) fun y14 =>
      some (bif true then y14 else false)
    else
    some false
  else
  some false
theorem run (N : Nat) (o0 : Orc E R) (a0 : Node) : runF T (G N) live [] Try.f57 code (sp N) o0 (a0, ()) = m0 N a0 := by kernel_rfl
theorem G_ok (N : Nat) : GamOK Try.prog (G N) := gam_ok (l := [(89, [], impl_isNumber.sp N), (90, [], impl_StateOK.sp N), (58, [], impl_membersOK.sp N), (91, [], impl_areNumbers.sp N), (92, [], impl_areRising.sp N), (75, [], impl_within.sp N), (93, [], impl_reachOK.sp N)]) (⟨impl_isNumber.snd N, impl_StateOK.snd N, impl_membersOK.snd N, impl_areNumbers.snd N, impl_areRising.snd N, impl_within.snd N, impl_reachOK.snd N, trivial⟩)
theorem snd (N : Nat) : Sound Try.prog E 57 (sp N) :=
  Mir.sound T_OK (G_ok N) mixed Try.func57 (c := code) (by kernel_rfl) (by kernel_rfl) (sp N) (Nat.le_of_ble_eq_true (by kernel_rfl)) live [] (by
    rintro ⟨a0, _⟩ r h
    exact ⟨N, 2, ((run N _ a0).trans rfl).trans h⟩)
end impl_NodeOK
namespace impl_Message_entriesOK
noncomputable def code : Code := Try.f112.body.getD .skip
abbrev live : Live := [(3, [1, 3, 9, 10, 11])]
noncomputable def G (N : Nat) : Ctx E := gam [(126, [], impl_entryOK.sp N), (75, [], impl_within.sp N)]
noncomputable def loop3 : Code := codeAt code [1, 1, 0, 1, 0]
noncomputable def body3 : Code := codeAt loop3 [0]
noncomputable def K3 (N : Nat) (o0 : Orc E R) : KT E R := kAt T (G N) live [] o0 code [1, 1, 0, 1, 0] (kfin T Try.f112 (sp N))
noncomputable def St3 (a0 : Message) : (Int × Int × Int) → St E
  | (v0, v2, v3) => { ρ := [(1, .c (.at (.ptr 0 0))), (3, .c (.at (.int .i64 v0))), (9, .c (.at (.ro 58 (.st 58) a0.Entries))), (10, .c (.at (.int .i64 v2))), (11, .c (.at (.int .i64 v3)))], H := [(0, .box 113 [.int .i64 a0.Kind, .int .i64 a0.From, .int .i64 a0.To, .int .i64 a0.Term, .int .i64 a0.Index, .int .i64 a0.LogTerm, .int .i64 a0.Commit, .ro 58 (.st 58) a0.Entries, .bool a0.Ok])], nx := 1, n := 47, pin := [] }
noncomputable def m0 (N : Nat) (a0 : Message) (lp3 : Int × Int × Int → Option R) : Option R :=
  lp3 (a0.LogTerm, (a0.Entries.length : Int), (0:Int))
theorem run (N : Nat) (o0 : Orc E R) (a0 : Message) : runF T (G N) live [] Try.f112 code (sp N) o0 (a0, ()) = m0 N a0 (fun a => o0 loop3 (K3 N o0) (St3 a0 a)) := by kernel_rfl
theorem body3_0 (N : Nat) (o0 : Orc E R) (o1 : Orc E R) (q1 : St E → Option R) (a0 : Message) (v0 : Int) (v2 : Int) (v3 : Int) : runA T (G N) live [] o1 body3 (St3 a0 (v0, v2, v3)) (kloop [1, 3, 9, 10, 11] q1 (K3 N o0)) = step3 N a0 (fun a => q1 (St3 a0 a)) (v0, v2, v3) := by kernel_rfl
theorem lp3_eq (N : Nat) (a0 : Message) (a : Int × Int × Int) : (orc T (G N) live [] N 2) loop3 (K3 N (orc T (G N) live [] N 2)) (St3 a0 a) = lp3 N a0 a :=
  (orc_loop (b := body3) (live := [1, 3, 9, 10, 11]) (by kernel_rfl)).trans (iter_eq (St3 a0) _ _ (fun q1 a => by
    have hc := congrFun (congrFun (rfl : (step3 N a0) = (step3 N a0)) (fun a => q1 (St3 a0 a))) a
    obtain ⟨u0, u1, u2⟩ := a
    exact (body3_0 N (orc T (G N) live [] N 2) (orc T (G N) live [] N 1) q1 a0 u0 u1 u2).trans hc) N a)
theorem G_ok (N : Nat) : GamOK Try.prog (G N) := gam_ok (l := [(126, [], impl_entryOK.sp N), (75, [], impl_within.sp N)]) (⟨impl_entryOK.snd N, impl_within.snd N, trivial⟩)
theorem snd (N : Nat) : Sound Try.prog E 112 (sp N) :=
  Mir.sound T_OK (G_ok N) mixed Try.func112 (c := code) (by kernel_rfl) (by kernel_rfl) (sp N) (Nat.le_of_ble_eq_true (by kernel_rfl)) live [] (by
    rintro ⟨a0, _⟩ r h
    exact ⟨N, 2, ((run N _ a0).trans (congrArg (m0 N a0) (funext fun a => lp3_eq N a0 a))).trans h⟩)
end impl_Message_entriesOK
namespace impl_messageOK
noncomputable def code : Code := Try.f80.body.getD .skip
abbrev live : Live := []
noncomputable def G (N : Nat) : Ctx E := gam [(75, [], impl_within.sp N), (89, [], impl_isNumber.sp N), (112, [], impl_Message_entriesOK.sp N)]
noncomputable def m0 (N : Nat) (a0 : Message) : Option R :=
  ob (impl_within.m N a0.Kind (1:Int) (4:Int)) fun y1 =>
  bif (!y1) then
    some false
  else
  ob (impl_isNumber.m N a0.From) fun y2 =>
  bif (bif false then true else (!y2)) then
    some false
  else
  ob (impl_isNumber.m N a0.To) fun y3 =>
  bif (bif false then true else (!y3)) then
    some false
  else
  bif (bif false then true else (a0.From == a0.To)) then
    some false
  else
  ob (impl_within.m N a0.Term (1:Int) (1000000:Int)) fun y4 =>
  bif (bif false then true else (!y4)) then
    some false
  else
  ob (impl_within.m N a0.LogTerm (0:Int) a0.Term) fun y5 =>
  bif (!y5) then
    some false
  else
  ob (impl_within.m N a0.Index (0:Int) (60:Int)) fun y6 =>
  bif (bif false then true else (!y6)) then
    some false
  else
  ob (impl_within.m N a0.Commit (0:Int) (60:Int)) fun y7 =>
  bif (bif false then true else (!y7)) then
    some false
  else
  bif (a0.Kind != (3:Int)) then
    some ((a0.Entries.length : Int) == (0:Int))
  else
  bif (decide ((a0.Entries.length : Int) ≤ (60:Int))) then
    ob (impl_Message_entriesOK.m N a0) fun y8 =>
    some (bif true then y8 else false)
  else
  some false
theorem run (N : Nat) (o0 : Orc E R) (a0 : Message) : runF T (G N) live [] Try.f80 code (sp N) o0 (a0, ()) = m0 N a0 := by kernel_rfl
theorem G_ok (N : Nat) : GamOK Try.prog (G N) := gam_ok (l := [(75, [], impl_within.sp N), (89, [], impl_isNumber.sp N), (112, [], impl_Message_entriesOK.sp N)]) (⟨impl_within.snd N, impl_isNumber.snd N, impl_Message_entriesOK.snd N, trivial⟩)
theorem snd (N : Nat) : Sound Try.prog E 80 (sp N) :=
  Mir.sound T_OK (G_ok N) mixed Try.func80 (c := code) (by kernel_rfl) (by kernel_rfl) (sp N) (Nat.le_of_ble_eq_true (by kernel_rfl)) live [] (by
    rintro ⟨a0, _⟩ r h
    exact ⟨N, 2, ((run N _ a0).trans rfl).trans h⟩)
end impl_messageOK
namespace impl_GroupOK_1
noncomputable def code : Code := Try.f79.body.getD .skip
abbrev live : Live := []
noncomputable def G (N : Nat) : Ctx E := gam [(80, [], impl_messageOK.sp N)]
noncomputable def m0 (N : Nat) (a0 : Message) : Option R :=
  ob (impl_messageOK.m N a0) fun y1 =>
  some (!y1)
theorem run (N : Nat) (o0 : Orc E R) (a0 : Message) : runF T (G N) live [] Try.f79 code (sp N) o0 (a0, ()) = m0 N a0 := by kernel_rfl
theorem G_ok (N : Nat) : GamOK Try.prog (G N) := gam_ok (l := [(80, [], impl_messageOK.sp N)]) (⟨impl_messageOK.snd N, trivial⟩)
theorem snd (N : Nat) : Sound Try.prog E 79 (sp N) :=
  Mir.sound T_OK (G_ok N) mixed Try.func79 (c := code) (by kernel_rfl) (by kernel_rfl) (sp N) (Nat.le_of_ble_eq_true (by kernel_rfl)) live [] (by
    rintro ⟨a0, _⟩ r h
    exact ⟨N, 2, ((run N _ a0).trans rfl).trans h⟩)
end impl_GroupOK_1
namespace slices_IndexFunc_impl_Message_impl_Message__impl_GroupOK_1
noncomputable def code : Code := Try.f111.body.getD .skip
abbrev live : Live := [(2, [0, 1, 7, 8])]
noncomputable def G (N : Nat) : Ctx E := gam [(79, [], impl_GroupOK_1.sp N)]
noncomputable def loop2 : Code := codeAt code [1, 0, 1, 0]
noncomputable def body2 : Code := codeAt loop2 [0]
noncomputable def K2 (N : Nat) (o0 : Orc E R) : KT E R := kAt T (G N) live [] o0 code [1, 0, 1, 0] (kfin T Try.f111 (sp N))
noncomputable def St2 (a0 : List Message) : (Int × Int) → St E
  | (v1, v2) => { ρ := [(0, .c (.at (.ro 113 (.st 113) a0))), (1, .clo 79 []), (7, .c (.at (.int .i64 v1))), (8, .c (.at (.int .i64 v2)))], H := [], nx := 0, n := 19, pin := [] }
noncomputable def m0 (N : Nat) (a0 : List Message) (lp2 : Int × Int → Option R) : Option R :=
  lp2 ((a0.length : Int), (0:Int))
theorem run (N : Nat) (o0 : Orc E R) (a0 : List Message) : runF T (G N) live [] Try.f111 code (sp N) o0 (a0, (), ()) = m0 N a0 (fun a => o0 loop2 (K2 N o0) (St2 a0 a)) := by kernel_rfl
theorem body2_0 (N : Nat) (o0 : Orc E R) (o1 : Orc E R) (q1 : St E → Option R) (a0 : List Message) (v1 : Int) (v2 : Int) : runA T (G N) live [] o1 body2 (St2 a0 (v1, v2)) (kloop [0, 1, 7, 8] q1 (K2 N o0)) = step2 N a0 (fun a => q1 (St2 a0 a)) (v1, v2) := by kernel_rfl
theorem lp2_eq (N : Nat) (a0 : List Message) (a : Int × Int) : (orc T (G N) live [] N 2) loop2 (K2 N (orc T (G N) live [] N 2)) (St2 a0 a) = lp2 N a0 a :=
  (orc_loop (b := body2) (live := [0, 1, 7, 8]) (by kernel_rfl)).trans (iter_eq (St2 a0) _ _ (fun q1 a => by
    have hc := congrFun (congrFun (rfl : (step2 N a0) = (step2 N a0)) (fun a => q1 (St2 a0 a))) a
    obtain ⟨u0, u1⟩ := a
    exact (body2_0 N (orc T (G N) live [] N 2) (orc T (G N) live [] N 1) q1 a0 u0 u1).trans hc) N a)
theorem G_ok (N : Nat) : GamOK Try.prog (G N) := gam_ok (l := [(79, [], impl_GroupOK_1.sp N)]) (⟨impl_GroupOK_1.snd N, trivial⟩)
theorem snd (N : Nat) : Sound Try.prog E 111 (sp N) :=
  Mir.sound T_OK (G_ok N) mixed Try.func111 (c := code) (by kernel_rfl) (by kernel_rfl) (sp N) (Nat.le_of_ble_eq_true (by kernel_rfl)) live [] (by
    rintro ⟨a0, _, _⟩ r h
    exact ⟨N, 2, ((run N _ a0).trans (congrArg (m0 N a0) (funext fun a => lp2_eq N a0 a))).trans h⟩)
end slices_IndexFunc_impl_Message_impl_Message__impl_GroupOK_1
namespace slices_ContainsFunc_impl_Message_impl_Message__impl_GroupOK_1
noncomputable def code : Code := Try.f78.body.getD .skip
abbrev live : Live := []
noncomputable def G (N : Nat) : Ctx E := gam [(111, [79], slices_IndexFunc_impl_Message_impl_Message__impl_GroupOK_1.sp N)]
noncomputable def m0 (N : Nat) (a0 : List Message) : Option R :=
  ob (slices_IndexFunc_impl_Message_impl_Message__impl_GroupOK_1.m N a0) fun y1 =>
  some (decide (y1 ≥ (0:Int)))
theorem run (N : Nat) (o0 : Orc E R) (a0 : List Message) : runF T (G N) live [] Try.f78 code (sp N) o0 (a0, (), ()) = m0 N a0 := by kernel_rfl
theorem G_ok (N : Nat) : GamOK Try.prog (G N) := gam_ok (l := [(111, [79], slices_IndexFunc_impl_Message_impl_Message__impl_GroupOK_1.sp N)]) (⟨slices_IndexFunc_impl_Message_impl_Message__impl_GroupOK_1.snd N, trivial⟩)
theorem snd (N : Nat) : Sound Try.prog E 78 (sp N) :=
  Mir.sound T_OK (G_ok N) mixed Try.func78 (c := code) (by kernel_rfl) (by kernel_rfl) (sp N) (Nat.le_of_ble_eq_true (by kernel_rfl)) live [] (by
    rintro ⟨a0, _, _⟩ r h
    exact ⟨N, 2, ((run N _ a0).trans rfl).trans h⟩)
end slices_ContainsFunc_impl_Message_impl_Message__impl_GroupOK_1
namespace impl_GroupOK
noncomputable def code : Code := Try.f39.body.getD .skip
abbrev live : Live := [(4, [1, 29, 30, 31])]
noncomputable def G (N : Nat) : Ctx E := gam [(75, [], impl_within.sp N), (76, [], impl_isList_impl_Lead.sp N), (77, [], impl_isList_impl_Done.sp N), (57, [], impl_NodeOK.sp N), (78, [79], slices_ContainsFunc_impl_Message_impl_Message__impl_GroupOK_1.sp N)]
noncomputable def loop4 : Code := codeAt code [1, 1, 0, 1, 0]
noncomputable def body4 : Code := codeAt loop4 [0]
noncomputable def K4 (N : Nat) (o0 : Orc E R) : KT E R := kAt T (G N) live [] o0 code [1, 1, 0, 1, 0] (kfin T Try.f39 (sp N))
noncomputable def St4 (a0 : Group) : (Int × Int) → St E
  | (v1, v2) => { ρ := [(1, .c (.at (.ptr 0 0))), (29, .c (.at (.ro 50 (.st 50) a0.Nodes))), (30, .c (.at (.int .i64 v1))), (31, .c (.at (.int .i64 v2)))], H := [(0, .box 36 [.ro 50 (.st 50) a0.Nodes, .ro 113 (.st 113) a0.Wire, .ro 78 (.st 78) a0.Leads, .ro 66 (.st 66) a0.Dones])], nx := 1, n := 50, pin := [] }
noncomputable def m0 (N : Nat) (a0 : Group) (lp4 : Int × Int → Option R) : Option R :=
  ob (impl_within.m N (a0.Nodes.length : Int) (1:Int) (5:Int)) fun y1 =>
  bif (!y1) then
    some false
  else
  bif (bif false then true else (decide ((a0.Wire.length : Int) > (60:Int)))) then
    some false
  else
  ob (impl_isList_impl_Lead.m N a0.Leads) fun y2 =>
  bif (bif false then true else (!y2)) then
    some false
  else
  ob (impl_isList_impl_Done.m N a0.Dones) fun y3 =>
  bif (bif false then true else (!y3)) then
    some false
  else
  lp4 ((a0.Nodes.length : Int), (0:Int))
theorem run (N : Nat) (o0 : Orc E R) (a0 : Group) : runF T (G N) live [] Try.f39 code (sp N) o0 (a0, ()) = m0 N a0 (fun a => o0 loop4 (K4 N o0) (St4 a0 a)) := by kernel_rfl
theorem body4_0 (N : Nat) (o0 : Orc E R) (o1 : Orc E R) (q1 : St E → Option R) (a0 : Group) (v1 : Int) (v2 : Int) : runA T (G N) live [] o1 body4 (St4 a0 (v1, v2)) (kloop [1, 29, 30, 31] q1 (K4 N o0)) = step4 N a0 (fun a => q1 (St4 a0 a)) (v1, v2) := by kernel_rfl
theorem lp4_eq (N : Nat) (a0 : Group) (a : Int × Int) : (orc T (G N) live [] N 2) loop4 (K4 N (orc T (G N) live [] N 2)) (St4 a0 a) = lp4 N a0 a :=
  (orc_loop (b := body4) (live := [1, 29, 30, 31]) (by kernel_rfl)).trans (iter_eq (St4 a0) _ _ (fun q1 a => by
    have hc := congrFun (congrFun (rfl : (step4 N a0) = (step4 N a0)) (fun a => q1 (St4 a0 a))) a
    obtain ⟨u0, u1⟩ := a
    exact (body4_0 N (orc T (G N) live [] N 2) (orc T (G N) live [] N 1) q1 a0 u0 u1).trans hc) N a)
theorem G_ok (N : Nat) : GamOK Try.prog (G N) := gam_ok (l := [(75, [], impl_within.sp N), (76, [], impl_isList_impl_Lead.sp N), (77, [], impl_isList_impl_Done.sp N), (57, [], impl_NodeOK.sp N), (78, [79], slices_ContainsFunc_impl_Message_impl_Message__impl_GroupOK_1.sp N)]) (⟨impl_within.snd N, impl_isList_impl_Lead.snd N, impl_isList_impl_Done.snd N, impl_NodeOK.snd N, slices_ContainsFunc_impl_Message_impl_Message__impl_GroupOK_1.snd N, trivial⟩)
theorem snd (N : Nat) : Sound Try.prog E 39 (sp N) :=
  Mir.sound T_OK (G_ok N) mixed Try.func39 (c := code) (by kernel_rfl) (by kernel_rfl) (sp N) (Nat.le_of_ble_eq_true (by kernel_rfl)) live [] (by
    rintro ⟨a0, _⟩ r h
    exact ⟨N, 2, ((run N _ a0).trans (congrArg (m0 N a0) (funext fun a => lp4_eq N a0 a))).trans h⟩)
end impl_GroupOK
namespace impl_CommittedData
noncomputable def code : Code := Try.f18.body.getD .skip
abbrev live : Live := [(12, [4, 5, 10]), (5, [4, 5, 18, 19, 20])]
noncomputable def G (N : Nat) : Ctx E := gam [(39, [], impl_GroupOK.sp N)]
noncomputable def loop5 : Code := codeAt code [1, 1, 1, 0, 1, 0]
noncomputable def body5 : Code := codeAt loop5 [0]
noncomputable def loop12 : Code := codeAt code [1, 1, 1, 1, 0, 1, 0]
noncomputable def body12 : Code := codeAt loop12 [0]
noncomputable def K5 (N : Nat) (o0 : Orc E R) : KT E R := kAt T (G N) live [] o0 code [1, 1, 1, 0, 1, 0] (kfin T Try.f18 (sp N))
noncomputable def St5 (a0 : Group) : (Int × Int × (List (Int × Entry)) × (List ByteArray)) → St E
  | (v1, v2, v3, v4) => { ρ := [(4, .c (.at (.mp 0))), (5, .c (.at (.own 1))), (18, .c (.at (.ro 66 (.st 66) a0.Dones))), (19, .c (.at (.int .i64 v1))), (20, .c (.at (.int .i64 v2)))], H := [(0, .mp .i64 58 v3), (1, .row 9 .str v4 false)], nx := 2, n := 55, pin := [] }
noncomputable def K12 (N : Nat) (o0 : Orc E R) : KT E R := kAt T (G N) live [] o0 code [1, 1, 1, 1, 0, 1, 0] (kfin T Try.f18 (sp N))
noncomputable def St12 (a0 : Group) : (Int × (List (Int × Entry)) × (List ByteArray)) → St E
  | (v0, v1, v2) => { ρ := [(4, .c (.at (.mp 0))), (5, .c (.at (.own 1))), (10, .c (.at (.int .i64 v0)))], H := [(0, .mp .i64 58 v1), (1, .row 9 .str v2 false)], nx := 2, n := 55, pin := [] }
noncomputable def m0 (N : Nat) (a0 : Group) (lp5 : Int × Int × (List (Int × Entry)) × (List ByteArray) → Option R) : Option R :=
  ob (impl_GroupOK.m N a0) fun y1 =>
  bif (!y1) then
    some (([] : List ByteArray), (1:Int))
  else
  lp5 ((a0.Dones.length : Int), (0:Int), ([] : List (Int × Entry)), ([] : List ByteArray))
theorem run (N : Nat) (o0 : Orc E R) (a0 : Group) : runF T (G N) live [] Try.f18 code (sp N) o0 (a0, ()) = m0 N a0 (fun a => o0 loop5 (K5 N o0) (St5 a0 a)) := by kernel_rfl
theorem body5_0 (N : Nat) (o0 : Orc E R) (o1 : Orc E R) (q1 : St E → Option R) (a0 : Group) (v1 : Int) (v2 : Int) (v3 : List (Int × Entry)) (v4 : List ByteArray) : runA T (G N) live [] o1 body5 (St5 a0 (v1, v2, v3, v4)) (kloop [4, 5, 18, 19, 20] q1 (K5 N o0)) = step5 N a0 (fun a => o0 loop12 (K12 N o0) (St12 a0 a)) (fun a => q1 (St5 a0 a)) (v1, v2, v3, v4) := by kernel_rfl
theorem body12_0 (N : Nat) (o0 : Orc E R) (o1 : Orc E R) (q1 : St E → Option R) (a0 : Group) (v0 : Int) (v1 : List (Int × Entry)) (v2 : List ByteArray) : runA T (G N) live [] o1 body12 (St12 a0 (v0, v1, v2)) (kloop [4, 5, 10] q1 (K12 N o0)) = step12 N a0 (fun a => q1 (St12 a0 a)) (v0, v1, v2) := by kernel_rfl
theorem lp12_eq (N : Nat) (a0 : Group) (a : Int × (List (Int × Entry)) × (List ByteArray)) : (orc T (G N) live [] N 2) loop12 (K12 N (orc T (G N) live [] N 2)) (St12 a0 a) = lp12 N a0 a :=
  (orc_loop (b := body12) (live := [4, 5, 10]) (by kernel_rfl)).trans (iter_eq (St12 a0) _ _ (fun q1 a => by
    have hc := congrFun (congrFun (rfl : (step12 N a0) = (step12 N a0)) (fun a => q1 (St12 a0 a))) a
    obtain ⟨u0, u1, u2⟩ := a
    exact (body12_0 N (orc T (G N) live [] N 2) (orc T (G N) live [] N 1) q1 a0 u0 u1 u2).trans hc) N a)
theorem lp5_eq (N : Nat) (a0 : Group) (a : Int × Int × (List (Int × Entry)) × (List ByteArray)) : (orc T (G N) live [] N 2) loop5 (K5 N (orc T (G N) live [] N 2)) (St5 a0 a) = lp5 N a0 a :=
  (orc_loop (b := body5) (live := [4, 5, 18, 19, 20]) (by kernel_rfl)).trans (iter_eq (St5 a0) _ _ (fun q1 a => by
    have hc := congrFun (congrFun (congrArg (step5 N a0) (funext fun a => lp12_eq N a0 a)) (fun a => q1 (St5 a0 a))) a
    obtain ⟨u0, u1, u2, u3⟩ := a
    exact (body5_0 N (orc T (G N) live [] N 2) (orc T (G N) live [] N 1) q1 a0 u0 u1 u2 u3).trans hc) N a)
theorem G_ok (N : Nat) : GamOK Try.prog (G N) := gam_ok (l := [(39, [], impl_GroupOK.sp N)]) (⟨impl_GroupOK.snd N, trivial⟩)
theorem snd (N : Nat) : Sound Try.prog E 18 (sp N) :=
  Mir.sound T_OK (G_ok N) mixed Try.func18 (c := code) (by kernel_rfl) (by kernel_rfl) (sp N) (Nat.le_of_ble_eq_true (by kernel_rfl)) live [] (by
    rintro ⟨a0, _⟩ r h
    exact ⟨N, 2, ((run N _ a0).trans (congrArg (m0 N a0) (funext fun a => lp5_eq N a0 a))).trans h⟩)
end impl_CommittedData
namespace laws_eqStringS
noncomputable def code : Code := Try.f19.body.getD .skip
abbrev live : Live := [(4, [0, 1, 5])]
noncomputable def G (N : Nat) : Ctx E := gam []
noncomputable def loop4 : Code := codeAt code [1, 1, 0, 1, 0]
noncomputable def body4 : Code := codeAt loop4 [0]
noncomputable def K4 (N : Nat) (o0 : Orc E R) : KT E R := kAt T (G N) live [] o0 code [1, 1, 0, 1, 0] (kfin T Try.f19 (sp N))
noncomputable def St4 (a0 : List ByteArray) (a1 : List ByteArray) : Int → St E
  | v2 => { ρ := [(0, .c (.at (.ro 9 .str a0))), (1, .c (.at (.ro 9 .str a1))), (5, .c (.at (.int .i64 v2)))], H := [], nx := 0, n := 26, pin := [] }
noncomputable def m0 (N : Nat) (a0 : List ByteArray) (a1 : List ByteArray) (lp4 : Int → Option R) : Option R :=
  bif ((a0.length : Int) != (a1.length : Int)) then
    some false
  else
  lp4 (0:Int)
theorem run (N : Nat) (o0 : Orc E R) (a0 : List ByteArray) (a1 : List ByteArray) : runF T (G N) live [] Try.f19 code (sp N) o0 (a0, a1, ()) = m0 N a0 a1 (fun a => o0 loop4 (K4 N o0) (St4 a0 a1 a)) := by kernel_rfl
theorem body4_0 (N : Nat) (o0 : Orc E R) (o1 : Orc E R) (q1 : St E → Option R) (a0 : List ByteArray) (a1 : List ByteArray) (v2 : Int) : runA T (G N) live [] o1 body4 (St4 a0 a1 v2) (kloop [0, 1, 5] q1 (K4 N o0)) = step4 N a0 a1 (fun a => q1 (St4 a0 a1 a)) v2 := by kernel_rfl
theorem lp4_eq (N : Nat) (a0 : List ByteArray) (a1 : List ByteArray) (a : Int) : (orc T (G N) live [] N 2) loop4 (K4 N (orc T (G N) live [] N 2)) (St4 a0 a1 a) = lp4 N a0 a1 a :=
  (orc_loop (b := body4) (live := [0, 1, 5]) (by kernel_rfl)).trans (iter_eq (St4 a0 a1) _ _ (fun q1 a => by
    have hc := congrFun (congrFun (rfl : (step4 N a0 a1) = (step4 N a0 a1)) (fun a => q1 (St4 a0 a1 a))) a
    exact (body4_0 N (orc T (G N) live [] N 2) (orc T (G N) live [] N 1) q1 a0 a1 a).trans hc) N a)
theorem G_ok (N : Nat) : GamOK Try.prog (G N) := gam_ok (l := []) (trivial)
theorem snd (N : Nat) : Sound Try.prog E 19 (sp N) :=
  Mir.sound T_OK (G_ok N) mixed Try.func19 (c := code) (by kernel_rfl) (by kernel_rfl) (sp N) (Nat.le_of_ble_eq_true (by kernel_rfl)) live [] (by
    rintro ⟨a0, a1, _⟩ r h
    exact ⟨N, 2, ((run N _ a0 a1).trans (congrArg (m0 N a0 a1) (funext fun a => lp4_eq N a0 a1 a))).trans h⟩)
end laws_eqStringS
namespace laws_eqEntry
noncomputable def code : Code := Try.f115.body.getD .skip
abbrev live : Live := []
noncomputable def G (N : Nat) : Ctx E := gam []
noncomputable def m0 (N : Nat) (a0 : Entry) (a1 : Entry) : Option R :=
  bif (a0.Term != a1.Term) then
    some false
  else
  bif (a0.Kind != a1.Kind) then
    some false
  else
  bif (!seq a0.Data a1.Data) then
    some false
  else
  some true
theorem run (N : Nat) (o0 : Orc E R) (a0 : Entry) (a1 : Entry) : runF T (G N) live [] Try.f115 code (sp N) o0 (a0, a1, ()) = m0 N a0 a1 := by kernel_rfl
theorem G_ok (N : Nat) : GamOK Try.prog (G N) := gam_ok (l := []) (trivial)
theorem snd (N : Nat) : Sound Try.prog E 115 (sp N) :=
  Mir.sound T_OK (G_ok N) mixed Try.func115 (c := code) (by kernel_rfl) (by kernel_rfl) (sp N) (Nat.le_of_ble_eq_true (by kernel_rfl)) live [] (by
    rintro ⟨a0, a1, _⟩ r h
    exact ⟨N, 2, ((run N _ a0 a1).trans rfl).trans h⟩)
end laws_eqEntry
namespace laws_eqEntryS
noncomputable def code : Code := Try.f113.body.getD .skip
abbrev live : Live := [(4, [0, 1, 5])]
noncomputable def G (N : Nat) : Ctx E := gam [(115, [], laws_eqEntry.sp N)]
noncomputable def loop4 : Code := codeAt code [1, 1, 0, 1, 0]
noncomputable def body4 : Code := codeAt loop4 [0]
noncomputable def K4 (N : Nat) (o0 : Orc E R) : KT E R := kAt T (G N) live [] o0 code [1, 1, 0, 1, 0] (kfin T Try.f113 (sp N))
noncomputable def St4 (a0 : List Entry) (a1 : List Entry) : Int → St E
  | v2 => { ρ := [(0, .c (.at (.ro 58 (.st 58) a0))), (1, .c (.at (.ro 58 (.st 58) a1))), (5, .c (.at (.int .i64 v2)))], H := [], nx := 0, n := 27, pin := [] }
noncomputable def m0 (N : Nat) (a0 : List Entry) (a1 : List Entry) (lp4 : Int → Option R) : Option R :=
  bif ((a0.length : Int) != (a1.length : Int)) then
    some false
  else
  lp4 (0:Int)
theorem run (N : Nat) (o0 : Orc E R) (a0 : List Entry) (a1 : List Entry) : runF T (G N) live [] Try.f113 code (sp N) o0 (a0, a1, ()) = m0 N a0 a1 (fun a => o0 loop4 (K4 N o0) (St4 a0 a1 a)) := by kernel_rfl
theorem body4_0 (N : Nat) (o0 : Orc E R) (o1 : Orc E R) (q1 : St E → Option R) (a0 : List Entry) (a1 : List Entry) (v2 : Int) : runA T (G N) live [] o1 body4 (St4 a0 a1 v2) (kloop [0, 1, 5] q1 (K4 N o0)) = step4 N a0 a1 (fun a => q1 (St4 a0 a1 a)) v2 := by kernel_rfl
theorem lp4_eq (N : Nat) (a0 : List Entry) (a1 : List Entry) (a : Int) : (orc T (G N) live [] N 2) loop4 (K4 N (orc T (G N) live [] N 2)) (St4 a0 a1 a) = lp4 N a0 a1 a :=
  (orc_loop (b := body4) (live := [0, 1, 5]) (by kernel_rfl)).trans (iter_eq (St4 a0 a1) _ _ (fun q1 a => by
    have hc := congrFun (congrFun (rfl : (step4 N a0 a1) = (step4 N a0 a1)) (fun a => q1 (St4 a0 a1 a))) a
    exact (body4_0 N (orc T (G N) live [] N 2) (orc T (G N) live [] N 1) q1 a0 a1 a).trans hc) N a)
theorem G_ok (N : Nat) : GamOK Try.prog (G N) := gam_ok (l := [(115, [], laws_eqEntry.sp N)]) (⟨laws_eqEntry.snd N, trivial⟩)
theorem snd (N : Nat) : Sound Try.prog E 113 (sp N) :=
  Mir.sound T_OK (G_ok N) mixed Try.func113 (c := code) (by kernel_rfl) (by kernel_rfl) (sp N) (Nat.le_of_ble_eq_true (by kernel_rfl)) live [] (by
    rintro ⟨a0, a1, _⟩ r h
    exact ⟨N, 2, ((run N _ a0 a1).trans (congrArg (m0 N a0 a1) (funext fun a => lp4_eq N a0 a1 a))).trans h⟩)
end laws_eqEntryS
namespace laws_eqIntS
noncomputable def code : Code := Try.f114.body.getD .skip
abbrev live : Live := [(4, [0, 1, 5])]
noncomputable def G (N : Nat) : Ctx E := gam []
noncomputable def loop4 : Code := codeAt code [1, 1, 0, 1, 0]
noncomputable def body4 : Code := codeAt loop4 [0]
noncomputable def K4 (N : Nat) (o0 : Orc E R) : KT E R := kAt T (G N) live [] o0 code [1, 1, 0, 1, 0] (kfin T Try.f114 (sp N))
noncomputable def St4 (a0 : List Int) (a1 : List Int) : Int → St E
  | v2 => { ρ := [(0, .c (.at (.ro 3 (.int .i64) a0))), (1, .c (.at (.ro 3 (.int .i64) a1))), (5, .c (.at (.int .i64 v2)))], H := [], nx := 0, n := 26, pin := [] }
noncomputable def m0 (N : Nat) (a0 : List Int) (a1 : List Int) (lp4 : Int → Option R) : Option R :=
  bif ((a0.length : Int) != (a1.length : Int)) then
    some false
  else
  lp4 (0:Int)
theorem run (N : Nat) (o0 : Orc E R) (a0 : List Int) (a1 : List Int) : runF T (G N) live [] Try.f114 code (sp N) o0 (a0, a1, ()) = m0 N a0 a1 (fun a => o0 loop4 (K4 N o0) (St4 a0 a1 a)) := by kernel_rfl
theorem body4_0 (N : Nat) (o0 : Orc E R) (o1 : Orc E R) (q1 : St E → Option R) (a0 : List Int) (a1 : List Int) (v2 : Int) : runA T (G N) live [] o1 body4 (St4 a0 a1 v2) (kloop [0, 1, 5] q1 (K4 N o0)) = step4 N a0 a1 (fun a => q1 (St4 a0 a1 a)) v2 := by kernel_rfl
theorem lp4_eq (N : Nat) (a0 : List Int) (a1 : List Int) (a : Int) : (orc T (G N) live [] N 2) loop4 (K4 N (orc T (G N) live [] N 2)) (St4 a0 a1 a) = lp4 N a0 a1 a :=
  (orc_loop (b := body4) (live := [0, 1, 5]) (by kernel_rfl)).trans (iter_eq (St4 a0 a1) _ _ (fun q1 a => by
    have hc := congrFun (congrFun (rfl : (step4 N a0 a1) = (step4 N a0 a1)) (fun a => q1 (St4 a0 a1 a))) a
    exact (body4_0 N (orc T (G N) live [] N 2) (orc T (G N) live [] N 1) q1 a0 a1 a).trans hc) N a)
theorem G_ok (N : Nat) : GamOK Try.prog (G N) := gam_ok (l := []) (trivial)
theorem snd (N : Nat) : Sound Try.prog E 114 (sp N) :=
  Mir.sound T_OK (G_ok N) mixed Try.func114 (c := code) (by kernel_rfl) (by kernel_rfl) (sp N) (Nat.le_of_ble_eq_true (by kernel_rfl)) live [] (by
    rintro ⟨a0, a1, _⟩ r h
    exact ⟨N, 2, ((run N _ a0 a1).trans (congrArg (m0 N a0 a1) (funext fun a => lp4_eq N a0 a1 a))).trans h⟩)
end laws_eqIntS
namespace laws_eqNode
noncomputable def code : Code := Try.f81.body.getD .skip
abbrev live : Live := []
noncomputable def G (N : Nat) : Ctx E := gam [(113, [], laws_eqEntryS.sp N), (114, [], laws_eqIntS.sp N)]
noncomputable def m0 (N : Nat) (a0 : Node) (a1 : Node) : Option R :=
  bif (a0.Id != a1.Id) then
    some false
  else
  bif (a0.Term != a1.Term) then
    some false
  else
  bif (a0.Vote != a1.Vote) then
    some false
  else
  ob (laws_eqEntryS.m N a0.Log a1.Log) fun y1 =>
  bif (!y1) then
    some false
  else
  ob (laws_eqIntS.m N a0.Start a1.Start) fun y2 =>
  bif (!y2) then
    some false
  else
  bif (a0.Role != a1.Role) then
    some false
  else
  ob (laws_eqIntS.m N a0.Votes a1.Votes) fun y3 =>
  bif (!y3) then
    some false
  else
  ob (laws_eqIntS.m N a0.Next a1.Next) fun y4 =>
  bif (!y4) then
    some false
  else
  ob (laws_eqIntS.m N a0.Match a1.Match) fun y5 =>
  bif (!y5) then
    some false
  else
  bif (a0.Commit != a1.Commit) then
    some false
  else
  bif (a0.Elapsed != a1.Elapsed) then
    some false
  else
  bif (a0.Wait != a1.Wait) then
    some false
  else
  bif (!(a0.Up == a1.Up)) then
    some false
  else
  some true
theorem run (N : Nat) (o0 : Orc E R) (a0 : Node) (a1 : Node) : runF T (G N) live [] Try.f81 code (sp N) o0 (a0, a1, ()) = m0 N a0 a1 := by kernel_rfl
theorem G_ok (N : Nat) : GamOK Try.prog (G N) := gam_ok (l := [(113, [], laws_eqEntryS.sp N), (114, [], laws_eqIntS.sp N)]) (⟨laws_eqEntryS.snd N, laws_eqIntS.snd N, trivial⟩)
theorem snd (N : Nat) : Sound Try.prog E 81 (sp N) :=
  Mir.sound T_OK (G_ok N) mixed Try.func81 (c := code) (by kernel_rfl) (by kernel_rfl) (sp N) (Nat.le_of_ble_eq_true (by kernel_rfl)) live [] (by
    rintro ⟨a0, a1, _⟩ r h
    exact ⟨N, 2, ((run N _ a0 a1).trans rfl).trans h⟩)
end laws_eqNode
namespace laws_eqNodeS
noncomputable def code : Code := Try.f40.body.getD .skip
abbrev live : Live := [(4, [0, 1, 5])]
noncomputable def G (N : Nat) : Ctx E := gam [(81, [], laws_eqNode.sp N)]
noncomputable def loop4 : Code := codeAt code [1, 1, 0, 1, 0]
noncomputable def body4 : Code := codeAt loop4 [0]
noncomputable def K4 (N : Nat) (o0 : Orc E R) : KT E R := kAt T (G N) live [] o0 code [1, 1, 0, 1, 0] (kfin T Try.f40 (sp N))
noncomputable def St4 (a0 : List Node) (a1 : List Node) : Int → St E
  | v2 => { ρ := [(0, .c (.at (.ro 50 (.st 50) a0))), (1, .c (.at (.ro 50 (.st 50) a1))), (5, .c (.at (.int .i64 v2)))], H := [], nx := 0, n := 27, pin := [] }
noncomputable def m0 (N : Nat) (a0 : List Node) (a1 : List Node) (lp4 : Int → Option R) : Option R :=
  bif ((a0.length : Int) != (a1.length : Int)) then
    some false
  else
  lp4 (0:Int)
theorem run (N : Nat) (o0 : Orc E R) (a0 : List Node) (a1 : List Node) : runF T (G N) live [] Try.f40 code (sp N) o0 (a0, a1, ()) = m0 N a0 a1 (fun a => o0 loop4 (K4 N o0) (St4 a0 a1 a)) := by kernel_rfl
theorem body4_0 (N : Nat) (o0 : Orc E R) (o1 : Orc E R) (q1 : St E → Option R) (a0 : List Node) (a1 : List Node) (v2 : Int) : runA T (G N) live [] o1 body4 (St4 a0 a1 v2) (kloop [0, 1, 5] q1 (K4 N o0)) = step4 N a0 a1 (fun a => q1 (St4 a0 a1 a)) v2 := by kernel_rfl
theorem lp4_eq (N : Nat) (a0 : List Node) (a1 : List Node) (a : Int) : (orc T (G N) live [] N 2) loop4 (K4 N (orc T (G N) live [] N 2)) (St4 a0 a1 a) = lp4 N a0 a1 a :=
  (orc_loop (b := body4) (live := [0, 1, 5]) (by kernel_rfl)).trans (iter_eq (St4 a0 a1) _ _ (fun q1 a => by
    have hc := congrFun (congrFun (rfl : (step4 N a0 a1) = (step4 N a0 a1)) (fun a => q1 (St4 a0 a1 a))) a
    exact (body4_0 N (orc T (G N) live [] N 2) (orc T (G N) live [] N 1) q1 a0 a1 a).trans hc) N a)
theorem G_ok (N : Nat) : GamOK Try.prog (G N) := gam_ok (l := [(81, [], laws_eqNode.sp N)]) (⟨laws_eqNode.snd N, trivial⟩)
theorem snd (N : Nat) : Sound Try.prog E 40 (sp N) :=
  Mir.sound T_OK (G_ok N) mixed Try.func40 (c := code) (by kernel_rfl) (by kernel_rfl) (sp N) (Nat.le_of_ble_eq_true (by kernel_rfl)) live [] (by
    rintro ⟨a0, a1, _⟩ r h
    exact ⟨N, 2, ((run N _ a0 a1).trans (congrArg (m0 N a0 a1) (funext fun a => lp4_eq N a0 a1 a))).trans h⟩)
end laws_eqNodeS
namespace laws_eqMessage
noncomputable def code : Code := Try.f82.body.getD .skip
abbrev live : Live := []
noncomputable def G (N : Nat) : Ctx E := gam [(113, [], laws_eqEntryS.sp N)]
noncomputable def m0 (N : Nat) (a0 : Message) (a1 : Message) : Option R :=
  bif (a0.Kind != a1.Kind) then
    some false
  else
  bif (a0.From != a1.From) then
    some false
  else
  bif (a0.To != a1.To) then
    some false
  else
  bif (a0.Term != a1.Term) then
    some false
  else
  bif (a0.Index != a1.Index) then
    some false
  else
  bif (a0.LogTerm != a1.LogTerm) then
    some false
  else
  bif (a0.Commit != a1.Commit) then
    some false
  else
  ob (laws_eqEntryS.m N a0.Entries a1.Entries) fun y1 =>
  bif (!y1) then
    some false
  else
  bif (!(a0.Ok == a1.Ok)) then
    some false
  else
  some true
theorem run (N : Nat) (o0 : Orc E R) (a0 : Message) (a1 : Message) : runF T (G N) live [] Try.f82 code (sp N) o0 (a0, a1, ()) = m0 N a0 a1 := by kernel_rfl
theorem G_ok (N : Nat) : GamOK Try.prog (G N) := gam_ok (l := [(113, [], laws_eqEntryS.sp N)]) (⟨laws_eqEntryS.snd N, trivial⟩)
theorem snd (N : Nat) : Sound Try.prog E 82 (sp N) :=
  Mir.sound T_OK (G_ok N) mixed Try.func82 (c := code) (by kernel_rfl) (by kernel_rfl) (sp N) (Nat.le_of_ble_eq_true (by kernel_rfl)) live [] (by
    rintro ⟨a0, a1, _⟩ r h
    exact ⟨N, 2, ((run N _ a0 a1).trans rfl).trans h⟩)
end laws_eqMessage
end Mir.Y
