/- The models are what the functions do. -/
import Derived.Test.YtojpcjbdehoibaaGreatKP2
import Derived.Test.YtojpcjbdehoibaaGreatKCmpLays
namespace Mir.Y
set_option linter.unusedVariables false
set_option maxRecDepth 10000
open Go Go.Proofs Mir
namespace slices_IndexFunc_string_string__impl_isText_1
noncomputable def code : Code := Tryz.f92.body.getD .skip
abbrev live : Live := [(2, [0, 1, 7, 8])]
noncomputable def G (N : Nat) : Ctx E := gam [(65, [], impl_isText_1.sp N)]
noncomputable def loop2 : Code := codeAt code [1, 0, 1, 0]
noncomputable def body2 : Code := codeAt loop2 [0]
noncomputable def K2 (N : Nat) (o0 : Orc E R) : KT E R := kAt T (G N) live [] o0 code [1, 0, 1, 0] (kfin T Tryz.f92 (sp N))
noncomputable def St2 (a0 : List ByteArray) : (Int × Int) → St E
  | (v1, v2) => { ρ := [(0, .c (.at (.ro 9 .str a0))), (1, .clo 65 []), (7, .c (.at (.int .i64 v1))), (8, .c (.at (.int .i64 v2)))], H := [], nx := 0, n := 19, pin := [] }
noncomputable def m0 (N : Nat) (a0 : List ByteArray) (lp2 : Int × Int → Option R) : Option R :=
  lp2 ((a0.length : Int), (0:Int))
theorem run (N : Nat) (o0 : Orc E R) (a0 : List ByteArray) : runF T (G N) live [] Tryz.f92 code (sp N) o0 (a0, (), ()) = m0 N a0 (fun a => o0 loop2 (K2 N o0) (St2 a0 a)) := by kernel_rfl
theorem body2_0 (N : Nat) (o0 : Orc E R) (o1 : Orc E R) (q1 : St E → Option R) (a0 : List ByteArray) (v1 : Int) (v2 : Int) : runA T (G N) live [] o1 body2 (St2 a0 (v1, v2)) (kloop [0, 1, 7, 8] q1 (K2 N o0)) = step2 N a0 (fun a => q1 (St2 a0 a)) (v1, v2) := by kernel_rfl
theorem lp2_eq (N : Nat) (a0 : List ByteArray) (a : Int × Int) : (orc T (G N) live [] N 2) loop2 (K2 N (orc T (G N) live [] N 2)) (St2 a0 a) = lp2 N a0 a :=
  (orc_loop (b := body2) (live := [0, 1, 7, 8]) (by kernel_rfl)).trans (iter_eq (St2 a0) _ _ (fun q1 a => by
    have hc := congrFun (congrFun (rfl : (step2 N a0) = (step2 N a0)) (fun a => q1 (St2 a0 a))) a
    obtain ⟨u0, u1⟩ := a
    exact (body2_0 N (orc T (G N) live [] N 2) (orc T (G N) live [] N 1) q1 a0 u0 u1).trans hc) N a)
theorem G_ok (N : Nat) : GamOK Tryz.prog (G N) := gam_ok (l := [(65, [], impl_isText_1.sp N)]) (⟨impl_isText_1.snd N, trivial⟩)
theorem snd (N : Nat) : Sound Tryz.prog E 92 (sp N) :=
  Mir.sound T_OK (G_ok N) mixed Tryz.func92 (c := code) (by kernel_rfl) (by kernel_rfl) (sp N) (Nat.le_of_ble_eq_true (by kernel_rfl)) live [] (by
    rintro ⟨a0, _, _⟩ r h
    exact ⟨N, 2, ((run N _ a0).trans (congrArg (m0 N a0) (funext fun a => lp2_eq N a0 a))).trans h⟩)
end slices_IndexFunc_string_string__impl_isText_1
namespace slices_ContainsFunc_string_string__impl_isText_1
noncomputable def code : Code := Tryz.f64.body.getD .skip
abbrev live : Live := []
noncomputable def G (N : Nat) : Ctx E := gam [(92, [65], slices_IndexFunc_string_string__impl_isText_1.sp N)]
noncomputable def m0 (N : Nat) (a0 : List ByteArray) : Option R :=
  ob (slices_IndexFunc_string_string__impl_isText_1.m N a0) fun y1 =>
  some (decide (y1 ≥ (0:Int)))
theorem run (N : Nat) (o0 : Orc E R) (a0 : List ByteArray) : runF T (G N) live [] Tryz.f64 code (sp N) o0 (a0, (), ()) = m0 N a0 := by kernel_rfl
theorem G_ok (N : Nat) : GamOK Tryz.prog (G N) := gam_ok (l := [(92, [65], slices_IndexFunc_string_string__impl_isText_1.sp N)]) (⟨slices_IndexFunc_string_string__impl_isText_1.snd N, trivial⟩)
theorem snd (N : Nat) : Sound Tryz.prog E 64 (sp N) :=
  Mir.sound T_OK (G_ok N) mixed Tryz.func64 (c := code) (by kernel_rfl) (by kernel_rfl) (sp N) (Nat.le_of_ble_eq_true (by kernel_rfl)) live [] (by
    rintro ⟨a0, _, _⟩ r h
    exact ⟨N, 2, ((run N _ a0).trans rfl).trans h⟩)
end slices_ContainsFunc_string_string__impl_isText_1
namespace impl_isText
noncomputable def code : Code := Tryz.f27.body.getD .skip
abbrev live : Live := []
noncomputable def G (N : Nat) : Ctx E := gam [(64, [65], slices_ContainsFunc_string_string__impl_isText_1.sp N)]
noncomputable def m0 (N : Nat) (a0 : List ByteArray) : Option R :=
  ob (slices_ContainsFunc_string_string__impl_isText_1.m N a0) fun y1 =>
  some (!y1)
theorem run (N : Nat) (o0 : Orc E R) (a0 : List ByteArray) : runF T (G N) live [] Tryz.f27 code (sp N) o0 (a0, ()) = m0 N a0 := by kernel_rfl
theorem G_ok (N : Nat) : GamOK Tryz.prog (G N) := gam_ok (l := [(64, [65], slices_ContainsFunc_string_string__impl_isText_1.sp N)]) (⟨slices_ContainsFunc_string_string__impl_isText_1.snd N, trivial⟩)
theorem snd (N : Nat) : Sound Tryz.prog E 27 (sp N) :=
  Mir.sound T_OK (G_ok N) mixed Tryz.func27 (c := code) (by kernel_rfl) (by kernel_rfl) (sp N) (Nat.le_of_ble_eq_true (by kernel_rfl)) live [] (by
    rintro ⟨a0, _⟩ r h
    exact ⟨N, 2, ((run N _ a0).trans rfl).trans h⟩)
end impl_isText
namespace impl_mapCode
noncomputable def code : Code := Tryz.f19.body.getD .skip
abbrev live : Live := []
noncomputable def G (N : Nat) : Ctx E := gam [(27, [], impl_isText.sp N), (49, [], impl_mapPairs.sp N), (29, [], impl_isKey.sp N)]
noncomputable def m0 (N : Nat) (a0 : Branch) (a1 : ByteArray) : Option R :=
  ob (impl_isText.m N ([a1])) fun y1 =>
  bif (!y1) then
    some (([] : List pairOf), (2:Int))
  else
  ob (impl_mapPairs.m N (Branch.mk a0.Key a0.Value a0.At a0.Kids)) fun y2 =>
  bif (!y2.2) then
    some (([] : List pairOf), (1:Int))
  else
  ob (impl_isKey.m N a1) fun y3 =>
  bif (bif false then true else (!y3)) then
    some (([] : List pairOf), (1:Int))
  else
  some (y2.1, (0:Int))
theorem run (N : Nat) (o0 : Orc E R) (a0 : Branch) (a1 : ByteArray) : runF T (G N) live [] Tryz.f19 code (sp N) o0 (a0, a1, ()) = m0 N a0 a1 := by kernel_rfl
theorem G_ok (N : Nat) : GamOK Tryz.prog (G N) := gam_ok (l := [(27, [], impl_isText.sp N), (49, [], impl_mapPairs.sp N), (29, [], impl_isKey.sp N)]) (⟨impl_isText.snd N, impl_mapPairs.snd N, impl_isKey.snd N, trivial⟩)
theorem snd (N : Nat) : Sound Tryz.prog E 19 (sp N) :=
  Mir.sound T_OK (G_ok N) mixed Tryz.func19 (c := code) (by kernel_rfl) (by kernel_rfl) (sp N) (Nat.le_of_ble_eq_true (by kernel_rfl)) live [] (by
    rintro ⟨a0, a1, _⟩ r h
    exact ⟨N, 2, ((run N _ a0 a1).trans rfl).trans h⟩)
end impl_mapCode
namespace impl_ProveKey
noncomputable def code : Code := Tryz.f7.body.getD .skip
abbrev live : Live := [(7, [1, 2, 4, 8, 9])]
noncomputable def G (N : Nat) : Ctx E := gam [(19, [], impl_mapCode.sp N), (20, [], impl_hash.sp N), (21, [], impl_Branch_isEmpty.sp N), (22, [], impl_bit.sp N), (18, [], impl_mapRoot.sp N)]
noncomputable def loop7 : Code := codeAt code [1, 1, 1, 1, 0, 0]
noncomputable def body7 : Code := codeAt loop7 [0]
noncomputable def K7 (N : Nat) (o0 : Orc E R) : KT E R := kAt T (G N) live [] o0 code [1, 1, 1, 1, 0, 0] (kfin T Tryz.f7 (sp N))
noncomputable def St7 (a0 : Branch) (a1 : ByteArray) : A7 → St E
  | .s0 v1 v6 v7 v8 v9 => { ρ := [(1, .c (.at (.str a1))), (2, .c (.at (.ptr 0 0))), (4, .c (.at (.ptr 1 0))), (8, .c (.at (.str v1))), (9, .c (.at (.ptr 2 0)))], H := [(0, .box 25 [.str a0.Key, .str a0.Value, .int .i64 a0.At, .ro 25 (.st 25) a0.Kids]), (1, .box 32 [.bool false, .str v6, .str v7, .nils]), (2, .box 32 [.bool false, .str v8, .str v9, .nils])], nx := 3, n := 66, pin := [] }
  | .s1 v1 v2 v3 v4 v5 v6 v7 v8 v9 v10 => { ρ := [(1, .c (.at (.str a1))), (2, .c (.at (.ptr 0 0))), (4, .c (.at (.ptr 1 0))), (8, .c (.at (.str v1))), (9, .c (.at (.ptr 2 0)))], H := [(0, .box 25 [.str v2, .str v3, .int .i64 v4, .ro 25 (.st 25) v5]), (1, .box 32 [.bool false, .str v6, .str v7, .nils]), (2, .box 32 [.bool false, .str v8, .str v9, .own 3]), (3, .row 52 (.st 52) v10 false)], nx := 4, n := 66, pin := [] }
noncomputable def m0 (N : Nat) (a0 : Branch) (a1 : ByteArray) (lp7 : A7 → Option R) : Option R :=
  ob (impl_mapCode.m N (Branch.mk a0.Key a0.Value a0.At a0.Kids) a1) fun y1 =>
  bif (y1.2 != (0:Int)) then
    some ((MapProof.mk false ByteArray.empty ByteArray.empty ([] : List MapStep)), y1.2)
  else
  ob (impl_hash.m N a1) fun y2 =>
  ob (impl_Branch_isEmpty.m N (Branch.mk a0.Key a0.Value a0.At a0.Kids)) fun y3 =>
  bif y3 then
    some ((MapProof.mk false ByteArray.empty ByteArray.empty ([] : List MapStep)), (0:Int))
  else
  lp7 (.s0 y2 ByteArray.empty ByteArray.empty ByteArray.empty ByteArray.empty)
theorem run (N : Nat) (o0 : Orc E R) (a0 : Branch) (a1 : ByteArray) : runF T (G N) live [] Tryz.f7 code (sp N) o0 (a0, a1, ()) = m0 N a0 a1 (fun a => o0 loop7 (K7 N o0) (St7 a0 a1 a)) := by kernel_rfl
theorem body7_0 (N : Nat) (o0 : Orc E R) (o1 : Orc E R) (q1 : St E → Option R) (a0 : Branch) (a1 : ByteArray) (v1 : ByteArray) (v6 : ByteArray) (v7 : ByteArray) (v8 : ByteArray) (v9 : ByteArray) : runA T (G N) live [] o1 body7 (St7 a0 a1 (.s0 v1 v6 v7 v8 v9)) (kloop [1, 2, 4, 8, 9] q1 (K7 N o0)) = step7 N a0 a1 (fun a => q1 (St7 a0 a1 a)) (.s0 v1 v6 v7 v8 v9) := by kernel_rfl
theorem body7_1 (N : Nat) (o0 : Orc E R) (o1 : Orc E R) (q1 : St E → Option R) (a0 : Branch) (a1 : ByteArray) (v1 : ByteArray) (v2 : ByteArray) (v3 : ByteArray) (v4 : Int) (v5 : List Branch) (v6 : ByteArray) (v7 : ByteArray) (v8 : ByteArray) (v9 : ByteArray) (v10 : List MapStep) : runA T (G N) live [] o1 body7 (St7 a0 a1 (.s1 v1 v2 v3 v4 v5 v6 v7 v8 v9 v10)) (kloop [1, 2, 4, 8, 9] q1 (K7 N o0)) = step7 N a0 a1 (fun a => q1 (St7 a0 a1 a)) (.s1 v1 v2 v3 v4 v5 v6 v7 v8 v9 v10) := by kernel_rfl
theorem lp7_eq (N : Nat) (a0 : Branch) (a1 : ByteArray) (a : A7) : (orc T (G N) live [] N 2) loop7 (K7 N (orc T (G N) live [] N 2)) (St7 a0 a1 a) = lp7 N a0 a1 a :=
  (orc_loop (b := body7) (live := [1, 2, 4, 8, 9]) (by kernel_rfl)).trans (iter_eq (St7 a0 a1) _ _ (fun q1 a => by
    have hc := congrFun (congrFun (rfl : (step7 N a0 a1) = (step7 N a0 a1)) (fun a => q1 (St7 a0 a1 a))) a
    cases a with
    | s0 u0 u1 u2 u3 u4 => exact (body7_0 N (orc T (G N) live [] N 2) (orc T (G N) live [] N 1) q1 a0 a1 u0 u1 u2 u3 u4).trans hc
    | s1 u0 u1 u2 u3 u4 u5 u6 u7 u8 u9 => exact (body7_1 N (orc T (G N) live [] N 2) (orc T (G N) live [] N 1) q1 a0 a1 u0 u1 u2 u3 u4 u5 u6 u7 u8 u9).trans hc) N a)
theorem G_ok (N : Nat) : GamOK Tryz.prog (G N) := gam_ok (l := [(19, [], impl_mapCode.sp N), (20, [], impl_hash.sp N), (21, [], impl_Branch_isEmpty.sp N), (22, [], impl_bit.sp N), (18, [], impl_mapRoot.sp N)]) (⟨impl_mapCode.snd N, impl_hash.snd N, impl_Branch_isEmpty.snd N, impl_bit.snd N, impl_mapRoot.snd N, trivial⟩)
theorem snd (N : Nat) : Sound Tryz.prog E 7 (sp N) :=
  Mir.sound T_OK (G_ok N) mixed Tryz.func7 (c := code) (by kernel_rfl) (by kernel_rfl) (sp N) (Nat.le_of_ble_eq_true (by kernel_rfl)) live [] (by
    rintro ⟨a0, a1, _⟩ r h
    exact ⟨N, 2, ((run N _ a0 a1).trans (congrArg (m0 N a0 a1) (funext fun a => lp7_eq N a0 a1 a))).trans h⟩)
end impl_ProveKey
namespace spec_l02Key
noncomputable def code : Code := Tryz.f24.body.getD .skip
abbrev live : Live := []
noncomputable def G (N : Nat) : Ctx E := gam []
noncomputable def m0 (N : Nat) (a0 : ByteArray) : Option R :=
  bif (decide ((a0.size : Int) ≥ (1:Int))) then
    some (bif true then (decide ((a0.size : Int) ≤ (24:Int))) else false)
  else
  some false
theorem run (N : Nat) (o0 : Orc E R) (a0 : ByteArray) : runF T (G N) live [] Tryz.f24 code (sp N) o0 (a0, ()) = m0 N a0 := by kernel_rfl
theorem G_ok (N : Nat) : GamOK Tryz.prog (G N) := gam_ok (l := []) (trivial)
theorem snd (N : Nat) : Sound Tryz.prog E 24 (sp N) :=
  Mir.sound T_OK (G_ok N) mixed Tryz.func24 (c := code) (by kernel_rfl) (by kernel_rfl) (sp N) (Nat.le_of_ble_eq_true (by kernel_rfl)) live [] (by
    rintro ⟨a0, _⟩ r h
    exact ⟨N, 2, ((run N _ a0).trans rfl).trans h⟩)
end spec_l02Key
namespace spec_l01Bits
noncomputable def code : Code := Tryz.f90.body.getD .skip
abbrev live : Live := [(6, [0, 3, 4, 5]), (3, [0, 3, 4])]
noncomputable def G (N : Nat) : Ctx E := gam []
noncomputable def loop3 : Code := codeAt code [1, 1, 0, 1, 0]
noncomputable def body3 : Code := codeAt loop3 [0]
noncomputable def loop6 : Code := codeAt body3 [1, 0, 0, 1, 0]
noncomputable def body6 : Code := codeAt loop6 [0]
noncomputable def K3 (N : Nat) (o0 : Orc E R) : KT E R := kAt T (G N) live [] o0 code [1, 1, 0, 1, 0] (kfin T Tryz.f90 (sp N))
noncomputable def St3 (a0 : ByteArray) : (Int × (List Int)) → St E
  | (v1, v2) => { ρ := [(0, .c (.at (.str a0))), (3, .c (.at (.own 0))), (4, .c (.at (.int .i64 v1)))], H := [(0, .row 5 (.int .u8) v2 false)], nx := 1, n := 30, pin := [] }
noncomputable def K6 (N : Nat) (o0 : Orc E R) (o1 : Orc E R) (q1 : St E → Option R) : KT E R := kAt T (G N) live [] o1 body3 [1, 0, 0, 1, 0] (kloop [0, 3, 4] q1 (K3 N o0))
noncomputable def St6 (a0 : ByteArray) : (Int × Int × (List Int)) → St E
  | (v1, v2, v3) => { ρ := [(0, .c (.at (.str a0))), (3, .c (.at (.own 0))), (4, .c (.at (.int .i64 v1))), (5, .c (.at (.int .i64 v2)))], H := [(0, .row 5 (.int .u8) v3 false)], nx := 1, n := 30, pin := [] }
noncomputable def m0 (N : Nat) (a0 : ByteArray) (lp3 : Int × (List Int) → Option R) : Option R :=
  lp3 ((0:Int), ([] : List Int))
theorem run (N : Nat) (o0 : Orc E R) (a0 : ByteArray) : runF T (G N) live [] Tryz.f90 code (sp N) o0 (a0, ()) = m0 N a0 (fun a => o0 loop3 (K3 N o0) (St3 a0 a)) := by kernel_rfl
theorem body3_0 (N : Nat) (o0 : Orc E R) (o1 : Orc E R) (q1 : St E → Option R) (a0 : ByteArray) (v1 : Int) (v2 : List Int) : runA T (G N) live [] o1 body3 (St3 a0 (v1, v2)) (kloop [0, 3, 4] q1 (K3 N o0)) = step3 N a0 (fun a => o1 loop6 (K6 N o0 o1 q1) (St6 a0 a)) (fun a => q1 (St3 a0 a)) (v1, v2) := by kernel_rfl
theorem body6_0 (N : Nat) (o0 : Orc E R) (o1 : Orc E R) (o2 : Orc E R) (q1 : St E → Option R) (q2 : St E → Option R) (a0 : ByteArray) (v1 : Int) (v2 : Int) (v3 : List Int) : runA T (G N) live [] o2 body6 (St6 a0 (v1, v2, v3)) (kloop [0, 3, 4, 5] q2 (K6 N o0 o1 q1)) = step6 N a0 (fun a => q1 (St3 a0 a)) (fun a => q2 (St6 a0 a)) (v1, v2, v3) := by kernel_rfl
theorem lp6_eq (N : Nat) (a0 : ByteArray) (q1 : St E → Option R) (a : Int × Int × (List Int)) : (orc T (G N) live [] N 2) loop6 (K6 N (orc T (G N) live [] N 3) (orc T (G N) live [] N 2) q1) (St6 a0 a) = lp6 N a0 (fun a => q1 (St3 a0 a)) a :=
  (orc_loop (b := body6) (live := [0, 3, 4, 5]) (by kernel_rfl)).trans (iter_eq (St6 a0) _ _ (fun q2 a => by
    have hc := congrFun (congrFun (congrArg (step6 N a0) (Eq.refl (fun a => q1 (St3 a0 a)))) (fun a => q2 (St6 a0 a))) a
    obtain ⟨u0, u1, u2⟩ := a
    exact (body6_0 N (orc T (G N) live [] N 3) (orc T (G N) live [] N 2) (orc T (G N) live [] N 1) q1 q2 a0 u0 u1 u2).trans hc) N a)
theorem lp3_eq (N : Nat) (a0 : ByteArray) (a : Int × (List Int)) : (orc T (G N) live [] N 3) loop3 (K3 N (orc T (G N) live [] N 3)) (St3 a0 a) = lp3 N a0 a :=
  (orc_loop (b := body3) (live := [0, 3, 4]) (by kernel_rfl)).trans (iter_eq (St3 a0) _ _ (fun q1 a => by
    have hc := congrFun (congrFun (congrArg (step3 N a0) (funext fun a => lp6_eq N a0 q1 a)) (fun a => q1 (St3 a0 a))) a
    obtain ⟨u0, u1⟩ := a
    exact (body3_0 N (orc T (G N) live [] N 3) (orc T (G N) live [] N 2) q1 a0 u0 u1).trans hc) N a)
theorem G_ok (N : Nat) : GamOK Tryz.prog (G N) := gam_ok (l := []) (trivial)
theorem snd (N : Nat) : Sound Tryz.prog E 90 (sp N) :=
  Mir.sound T_OK (G_ok N) mixed Tryz.func90 (c := code) (by kernel_rfl) (by kernel_rfl) (sp N) (Nat.le_of_ble_eq_true (by kernel_rfl)) live [] (by
    rintro ⟨a0, _⟩ r h
    exact ⟨N, 3, ((run N _ a0).trans (congrArg (m0 N a0) (funext fun a => lp3_eq N a0 a))).trans h⟩)
end spec_l01Bits
namespace spec_l01In
noncomputable def code : Code := Tryz.f34.body.getD .skip
abbrev live : Live := []
noncomputable def G (N : Nat) : Ctx E := gam []
noncomputable def m0 (N : Nat) (a0 : Int) (a1 : Int) (a2 : Int) : Option R :=
  bif (decide (a0 ≥ a1)) then
    some (bif true then (decide (a0 ≤ a2)) else false)
  else
  some false
theorem run (N : Nat) (o0 : Orc E R) (a0 : Int) (a1 : Int) (a2 : Int) : runF T (G N) live [] Tryz.f34 code (sp N) o0 (a0, a1, a2, ()) = m0 N a0 a1 a2 := by kernel_rfl
theorem G_ok (N : Nat) : GamOK Tryz.prog (G N) := gam_ok (l := []) (trivial)
theorem snd (N : Nat) : Sound Tryz.prog E 34 (sp N) :=
  Mir.sound T_OK (G_ok N) mixed Tryz.func34 (c := code) (by kernel_rfl) (by kernel_rfl) (sp N) (Nat.le_of_ble_eq_true (by kernel_rfl)) live [] (by
    rintro ⟨a0, a1, a2, _⟩ r h
    exact ⟨N, 2, ((run N _ a0 a1 a2).trans rfl).trans h⟩)
end spec_l01In
namespace spec_l07Count
noncomputable def code : Code := Tryz.f58.body.getD .skip
abbrev live : Live := [(21, [3, 4, 11, 12, 13]), (11, [2, 3, 4, 9, 10])]
noncomputable def G (N : Nat) (slf : Branch → Int → ByteArray → Int → Option R) : Ctx E := gam [(59, [], spec_l07Leaf.sp N), (24, [], spec_l02Key.sp N), (36, [], spec_l07Hash.sp N), (90, [], spec_l01Bits.sp N), (34, [], spec_l01In.sp N), (58, [], spf slf)]
noncomputable def loop11 : Code := codeAt code [1, 1, 1, 1, 1, 0, 1, 0]
noncomputable def body11 : Code := codeAt loop11 [0]
noncomputable def loop21 : Code := codeAt code [1, 1, 1, 1, 1, 1, 1, 1, 1, 1, 0, 1, 0]
noncomputable def body21 : Code := codeAt loop21 [0]
noncomputable def K11 (N : Nat) (slf : Branch → Int → ByteArray → Int → Option R) (o0 : Orc E R) : KT E R := kAt T (G N slf) live [] o0 code [1, 1, 1, 1, 1, 0, 1, 0] (kfin T Tryz.f58 (spf (mb N slf)))
noncomputable def St11 (slf : Branch → Int → ByteArray → Int → Option R) (a0 : Branch) (a1 : Int) (a2 : ByteArray) (a3 : Int) : (Int × ByteArray × ByteArray × Int × (List Branch)) → St E
  | (v2, v7, v8, v9, v10) => { ρ := [(2, .c (.at (.str a2))), (3, .c (.at (.int .i64 a3))), (4, .c (.at (.ptr 0 0))), (9, .c (.at (.ptr 1 0))), (10, .c (.at (.int .i64 v2)))], H := [(0, .box 25 [.str a0.Key, .str a0.Value, .int .i64 a0.At, .ro 25 (.st 25) a0.Kids]), (1, .box 25 [.str v7, .str v8, .int .i64 v9, .ro 25 (.st 25) v10])], nx := 2, n := 141, pin := [] }
noncomputable def K21 (N : Nat) (slf : Branch → Int → ByteArray → Int → Option R) (o0 : Orc E R) : KT E R := kAt T (G N slf) live [] o0 code [1, 1, 1, 1, 1, 1, 1, 1, 1, 1, 0, 1, 0] (kfin T Tryz.f58 (spf (mb N slf)))
noncomputable def St21 (slf : Branch → Int → ByteArray → Int → Option R) (a0 : Branch) (a1 : Int) (a2 : ByteArray) (a3 : Int) : (ByteArray × Int × Int) → St E
  | (v1, v2, v3) => { ρ := [(3, .c (.at (.int .i64 a3))), (4, .c (.at (.ptr 0 0))), (11, .c (.at (.str v1))), (12, .c (.at (.int .i64 v2))), (13, .c (.at (.int .i64 v3)))], H := [(0, .box 25 [.str a0.Key, .str a0.Value, .int .i64 a0.At, .ro 25 (.st 25) a0.Kids])], nx := 1, n := 141, pin := [] }
noncomputable def m0 (N : Nat) (slf : Branch → Int → ByteArray → Int → Option R) (a0 : Branch) (a1 : Int) (a2 : ByteArray) (a3 : Int) (lp11 : Int × ByteArray × ByteArray × Int × (List Branch) → Option R) : Option R :=
  bif (decide (a3 < (1:Int))) then
    some (-1:Int)
  else
  ob (spec_l07Leaf.m N (Branch.mk a0.Key a0.Value a0.At a0.Kids)) fun y1 =>
  bif y1 then
    ob (spec_l02Key.m N a0.Key) fun y2 =>
    bif (!y2) then
      some (-1:Int)
    else
    bif (bif false then true else (decide ((a0.Value.size : Int) > (60:Int)))) then
      some (-1:Int)
    else
    bif (bif false then true else (a0.At != (256:Int))) then
      some (-1:Int)
    else
    ob (spec_l07Hash.m N a0.Key) fun y3 =>
    ob (spec_l01Bits.m N y3) fun y4 =>
    bif (decide (0 ≤ (a2.size : Int))) then
    bif (decide ((a2.size : Int) ≤ ((y4.size : Nat) : Int))) then
    bif (bif false then true else (!seq (y4.extract 0 (Int.toNat (a2.size : Int))) a2)) then
      some (-1:Int)
    else
    some (1:Int)
    else none
    else none
  else
  bif ((a0.Kids.length : Int) != (2:Int)) then
    some (-1:Int)
  else
  bif (bif false then true else (!seq a0.Key ByteArray.empty)) then
    some (-1:Int)
  else
  bif (bif false then true else (!seq a0.Value ByteArray.empty)) then
    some (-1:Int)
  else
  ob (spec_l01In.m N a0.At a1 (255:Int)) fun y5 =>
  bif (bif false then true else (!y5)) then
    some (-1:Int)
  else
  bif (decide (0 ≤ (0:Int))) then
  bif (decide ((0:Int) < (a0.Kids.length : Int))) then
  lp11 ((0:Int), (a0.Kids.getD 0 Branch.dz).Key, (a0.Kids.getD 0 Branch.dz).Value, (a0.Kids.getD 0 Branch.dz).At, (a0.Kids.getD 0 Branch.dz).Kids)
  else none
  else none
theorem run (N : Nat) (o0 : Orc E R) (slf : Branch → Int → ByteArray → Int → Option R) (a0 : Branch) (a1 : Int) (a2 : ByteArray) (a3 : Int) : runF T (G N slf) live [] Tryz.f58 code (spf (mb N slf)) o0 (a0, a1, a2, a3, ()) = m0 N slf a0 a1 a2 a3 (fun a => o0 loop11 (K11 N slf o0) (St11 slf a0 a1 a2 a3 a)) := by kernel_rfl
theorem body11_0 (N : Nat) (o0 : Orc E R) (o1 : Orc E R) (q1 : St E → Option R) (slf : Branch → Int → ByteArray → Int → Option R) (a0 : Branch) (a1 : Int) (a2 : ByteArray) (a3 : Int) (v2 : Int) (v7 : ByteArray) (v8 : ByteArray) (v9 : Int) (v10 : List Branch) : runA T (G N slf) live [] o1 body11 (St11 slf a0 a1 a2 a3 (v2, v7, v8, v9, v10)) (kloop [2, 3, 4, 9, 10] q1 (K11 N slf o0)) = step11 N slf a0 a1 a2 a3 (fun a => o0 loop21 (K21 N slf o0) (St21 slf a0 a1 a2 a3 a)) (fun a => q1 (St11 slf a0 a1 a2 a3 a)) (v2, v7, v8, v9, v10) := by kernel_rfl
theorem body21_0 (N : Nat) (o0 : Orc E R) (o1 : Orc E R) (q1 : St E → Option R) (slf : Branch → Int → ByteArray → Int → Option R) (a0 : Branch) (a1 : Int) (a2 : ByteArray) (a3 : Int) (v1 : ByteArray) (v2 : Int) (v3 : Int) : runA T (G N slf) live [] o1 body21 (St21 slf a0 a1 a2 a3 (v1, v2, v3)) (kloop [3, 4, 11, 12, 13] q1 (K21 N slf o0)) = step21 N slf a0 a1 a2 a3 (fun a => q1 (St21 slf a0 a1 a2 a3 a)) (v1, v2, v3) := by kernel_rfl
theorem lp21_eq (N : Nat) (slf : Branch → Int → ByteArray → Int → Option R) (a0 : Branch) (a1 : Int) (a2 : ByteArray) (a3 : Int) (a : ByteArray × Int × Int) : (orc T (G N slf) live [] N 2) loop21 (K21 N slf (orc T (G N slf) live [] N 2)) (St21 slf a0 a1 a2 a3 a) = lp21 N slf a0 a1 a2 a3 a :=
  (orc_loop (b := body21) (live := [3, 4, 11, 12, 13]) (by kernel_rfl)).trans (iter_eq (St21 slf a0 a1 a2 a3) _ _ (fun q1 a => by
    have hc := congrFun (congrFun (rfl : (step21 N slf a0 a1 a2 a3) = (step21 N slf a0 a1 a2 a3)) (fun a => q1 (St21 slf a0 a1 a2 a3 a))) a
    obtain ⟨u0, u1, u2⟩ := a
    exact (body21_0 N (orc T (G N slf) live [] N 2) (orc T (G N slf) live [] N 1) q1 slf a0 a1 a2 a3 u0 u1 u2).trans hc) N a)
theorem lp11_eq (N : Nat) (slf : Branch → Int → ByteArray → Int → Option R) (a0 : Branch) (a1 : Int) (a2 : ByteArray) (a3 : Int) (a : Int × ByteArray × ByteArray × Int × (List Branch)) : (orc T (G N slf) live [] N 2) loop11 (K11 N slf (orc T (G N slf) live [] N 2)) (St11 slf a0 a1 a2 a3 a) = lp11 N slf a0 a1 a2 a3 a :=
  (orc_loop (b := body11) (live := [2, 3, 4, 9, 10]) (by kernel_rfl)).trans (iter_eq (St11 slf a0 a1 a2 a3) _ _ (fun q1 a => by
    have hc := congrFun (congrFun (congrArg (step11 N slf a0 a1 a2 a3) (funext fun a => lp21_eq N slf a0 a1 a2 a3 a)) (fun a => q1 (St11 slf a0 a1 a2 a3 a))) a
    obtain ⟨u0, u1, u2, u3, u4⟩ := a
    exact (body11_0 N (orc T (G N slf) live [] N 2) (orc T (G N slf) live [] N 1) q1 slf a0 a1 a2 a3 u0 u1 u2 u3 u4).trans hc) N a)
theorem G_ok (N : Nat) (slf : Branch → Int → ByteArray → Int → Option R) (hs : Sound Tryz.prog E 58 (spf slf)) : GamOK Tryz.prog (G N slf) := gam_ok (l := [(59, [], spec_l07Leaf.sp N), (24, [], spec_l02Key.sp N), (36, [], spec_l07Hash.sp N), (90, [], spec_l01Bits.sp N), (34, [], spec_l01In.sp N), (58, [], spf slf)]) (⟨spec_l07Leaf.snd N, spec_l02Key.snd N, spec_l07Hash.snd N, spec_l01Bits.snd N, spec_l01In.snd N, hs, trivial⟩)
theorem sndF (N : Nat) : ∀ n, Sound Tryz.prog E 58 (spf (mF N n))
  | 0 => sound_none Tryz.func58 (c := code) (by kernel_rfl) (by kernel_rfl) (spf (mF N 0)) (fun _ => rfl)
  | n + 1 => by
    have hr := fun (a0 : Branch) (a1 : Int) (a2 : ByteArray) (a3 : Int) => (run N (orc T (G N (mF N n)) live [] N 2) (mF N n) a0 a1 a2 a3).trans (congrArg (m0 N (mF N n) a0 a1 a2 a3) (funext fun a => lp11_eq N (mF N n) a0 a1 a2 a3 a))
    exact Mir.sound T_OK (G_ok N (mF N n) (sndF N n)) mixed Tryz.func58 (c := code) (by kernel_rfl) (by kernel_rfl) (spf (mF N (n + 1))) (Nat.le_of_ble_eq_true (by kernel_rfl)) live [] (by
      rintro ⟨a0, a1, a2, a3, _⟩ r h
      exact ⟨N, 2, (hr a0 a1 a2 a3).trans h⟩)
theorem snd (N : Nat) : Sound Tryz.prog E 58 (sp N) := sndF N N
end spec_l07Count
namespace spec_MapOK
noncomputable def code : Code := Tryz.f23.body.getD .skip
abbrev live : Live := []
noncomputable def G (N : Nat) : Ctx E := gam [(57, [], spec_l07Empty.sp N), (58, [], spec_l07Count.sp N)]
noncomputable def m0 (N : Nat) (a0 : Branch) : Option R :=
  ob (spec_l07Empty.m N (Branch.mk a0.Key a0.Value a0.At a0.Kids)) fun y1 =>
  bif y1 then
    some true
  else
  ob (spec_l07Count.m N (Branch.mk a0.Key a0.Value a0.At a0.Kids) (0:Int) ByteArray.empty (40:Int)) fun y2 =>
  some (bif false then true else (decide (y2 > (0:Int))))
theorem run (N : Nat) (o0 : Orc E R) (a0 : Branch) : runF T (G N) live [] Tryz.f23 code (sp N) o0 (a0, ()) = m0 N a0 := by kernel_rfl
theorem G_ok (N : Nat) : GamOK Tryz.prog (G N) := gam_ok (l := [(57, [], spec_l07Empty.sp N), (58, [], spec_l07Count.sp N)]) (⟨spec_l07Empty.snd N, spec_l07Count.snd N, trivial⟩)
theorem snd (N : Nat) : Sound Tryz.prog E 23 (sp N) :=
  Mir.sound T_OK (G_ok N) mixed Tryz.func23 (c := code) (by kernel_rfl) (by kernel_rfl) (sp N) (Nat.le_of_ble_eq_true (by kernel_rfl)) live [] (by
    rintro ⟨a0, _⟩ r h
    exact ⟨N, 2, ((run N _ a0).trans rfl).trans h⟩)
end spec_MapOK
namespace spec_l07LeafHash
noncomputable def code : Code := Tryz.f39.body.getD .skip
abbrev live : Live := []
noncomputable def G (N : Nat) : Ctx E := gam [(35, [], spec_l01Hash.sp N)]
noncomputable def m0 (N : Nat) (a0 : ByteArray) (a1 : ByteArray) : Option R :=
  bif (room (([(0:Int), (wu8 (a0.size : Int))]).length + (bytesOf a0).length) 1) then
  bif (room (([(0:Int), (wu8 (a0.size : Int))] ++ (bytesOf a0)).length + (bytesOf a1).length) 1) then
  ob (spec_l01Hash.m N (([(0:Int), (wu8 (a0.size : Int))] ++ (bytesOf a0)) ++ (bytesOf a1))) fun y1 =>
  some y1
  else none
  else none
theorem run (N : Nat) (o0 : Orc E R) (a0 : ByteArray) (a1 : ByteArray) : runF T (G N) live [] Tryz.f39 code (sp N) o0 (a0, a1, ()) = m0 N a0 a1 := by kernel_rfl
theorem G_ok (N : Nat) : GamOK Tryz.prog (G N) := gam_ok (l := [(35, [], spec_l01Hash.sp N)]) (⟨spec_l01Hash.snd N, trivial⟩)
theorem snd (N : Nat) : Sound Tryz.prog E 39 (sp N) :=
  Mir.sound T_OK (G_ok N) mixed Tryz.func39 (c := code) (by kernel_rfl) (by kernel_rfl) (sp N) (Nat.le_of_ble_eq_true (by kernel_rfl)) live [] (by
    rintro ⟨a0, a1, _⟩ r h
    exact ⟨N, 2, ((run N _ a0 a1).trans rfl).trans h⟩)
end spec_l07LeafHash
namespace spec_l07ForkHash
noncomputable def code : Code := Tryz.f74.body.getD .skip
abbrev live : Live := []
noncomputable def G (N : Nat) : Ctx E := gam [(35, [], spec_l01Hash.sp N)]
noncomputable def m0 (N : Nat) (a0 : Int) (a1 : ByteArray) (a2 : ByteArray) : Option R :=
  bif (room (([(1:Int), (wu8 a0)]).length + (bytesOf a1).length) 1) then
  bif (room (([(1:Int), (wu8 a0)] ++ (bytesOf a1)).length + (bytesOf a2).length) 1) then
  ob (spec_l01Hash.m N (([(1:Int), (wu8 a0)] ++ (bytesOf a1)) ++ (bytesOf a2))) fun y1 =>
  some y1
  else none
  else none
theorem run (N : Nat) (o0 : Orc E R) (a0 : Int) (a1 : ByteArray) (a2 : ByteArray) : runF T (G N) live [] Tryz.f74 code (sp N) o0 (a0, a1, a2, ()) = m0 N a0 a1 a2 := by kernel_rfl
theorem G_ok (N : Nat) : GamOK Tryz.prog (G N) := gam_ok (l := [(35, [], spec_l01Hash.sp N)]) (⟨spec_l01Hash.snd N, trivial⟩)
theorem snd (N : Nat) : Sound Tryz.prog E 74 (sp N) :=
  Mir.sound T_OK (G_ok N) mixed Tryz.func74 (c := code) (by kernel_rfl) (by kernel_rfl) (sp N) (Nat.le_of_ble_eq_true (by kernel_rfl)) live [] (by
    rintro ⟨a0, a1, a2, _⟩ r h
    exact ⟨N, 2, ((run N _ a0 a1 a2).trans rfl).trans h⟩)
end spec_l07ForkHash
namespace spec_l07Root
noncomputable def code : Code := Tryz.f60.body.getD .skip
abbrev live : Live := []
noncomputable def G (N : Nat) (slf : Branch → Option R) : Ctx E := gam [(57, [], spec_l07Empty.sp N), (35, [], spec_l01Hash.sp N), (59, [], spec_l07Leaf.sp N), (39, [], spec_l07LeafHash.sp N), (60, [], spf slf), (74, [], spec_l07ForkHash.sp N)]
noncomputable def m0 (N : Nat) (slf : Branch → Option R) (a0 : Branch) : Option R :=
  ob (spec_l07Empty.m N (Branch.mk a0.Key a0.Value a0.At a0.Kids)) fun y1 =>
  bif y1 then
    ob (spec_l01Hash.m N ([(2:Int)])) fun y2 =>
    some y2
  else
  ob (spec_l07Leaf.m N (Branch.mk a0.Key a0.Value a0.At a0.Kids)) fun y3 =>
  bif y3 then
    ob (spec_l07LeafHash.m N a0.Key a0.Value) fun y4 =>
    some y4
  else
  bif (decide (0 ≤ (0:Int))) then
  bif (decide ((0:Int) < (a0.Kids.length : Int))) then
  ob (slf (Branch.mk ((a0.Kids.getD 0 Branch.dz).Key) ((a0.Kids.getD 0 Branch.dz).Value) ((a0.Kids.getD 0 Branch.dz).At) ((a0.Kids.getD 0 Branch.dz).Kids))) fun y5 =>
  bif (decide (0 ≤ (1:Int))) then
  bif (decide ((1:Int) < (a0.Kids.length : Int))) then
  ob (slf (Branch.mk ((a0.Kids.getD 1 Branch.dz).Key) ((a0.Kids.getD 1 Branch.dz).Value) ((a0.Kids.getD 1 Branch.dz).At) ((a0.Kids.getD 1 Branch.dz).Kids))) fun y6 =>
  ob (spec_l07ForkHash.m N a0.At y5 y6) fun y7 =>
  some y7
  else none
  else none
  else none
  else none
theorem run (N : Nat) (o0 : Orc E R) (slf : Branch → Option R) (a0 : Branch) : runF T (G N slf) live [] Tryz.f60 code (spf (mb N slf)) o0 (a0, ()) = m0 N slf a0 := by kernel_rfl
theorem G_ok (N : Nat) (slf : Branch → Option R) (hs : Sound Tryz.prog E 60 (spf slf)) : GamOK Tryz.prog (G N slf) := gam_ok (l := [(57, [], spec_l07Empty.sp N), (35, [], spec_l01Hash.sp N), (59, [], spec_l07Leaf.sp N), (39, [], spec_l07LeafHash.sp N), (60, [], spf slf), (74, [], spec_l07ForkHash.sp N)]) (⟨spec_l07Empty.snd N, spec_l01Hash.snd N, spec_l07Leaf.snd N, spec_l07LeafHash.snd N, hs, spec_l07ForkHash.snd N, trivial⟩)
theorem sndF (N : Nat) : ∀ n, Sound Tryz.prog E 60 (spf (mF N n))
  | 0 => sound_none Tryz.func60 (c := code) (by kernel_rfl) (by kernel_rfl) (spf (mF N 0)) (fun _ => rfl)
  | n + 1 => by
    have hr := fun (a0 : Branch) => (run N (orc T (G N (mF N n)) live [] N 2) (mF N n) a0).trans rfl
    exact Mir.sound T_OK (G_ok N (mF N n) (sndF N n)) mixed Tryz.func60 (c := code) (by kernel_rfl) (by kernel_rfl) (spf (mF N (n + 1))) (Nat.le_of_ble_eq_true (by kernel_rfl)) live [] (by
      rintro ⟨a0, _⟩ r h
      exact ⟨N, 2, (hr a0).trans h⟩)
theorem snd (N : Nat) : Sound Tryz.prog E 60 (sp N) := sndF N N
end spec_l07Root
namespace spec_l07Prove
noncomputable def code : Code := Tryz.f25.body.getD .skip
abbrev live : Live := [(5, [1, 2, 4, 5, 6])]
noncomputable def G (N : Nat) : Ctx E := gam [(57, [], spec_l07Empty.sp N), (36, [], spec_l07Hash.sp N), (59, [], spec_l07Leaf.sp N), (37, [], spec_l07Bit.sp N), (60, [], spec_l07Root.sp N)]
noncomputable def loop5 : Code := codeAt code [1, 1, 1, 1, 0, 0]
noncomputable def body5 : Code := codeAt loop5 [0]
noncomputable def K5 (N : Nat) (o0 : Orc E R) : KT E R := kAt T (G N) live [] o0 code [1, 1, 1, 1, 0, 0] (kfin T Tryz.f25 (sp N))
noncomputable def St5 (a0 : Branch) (a1 : ByteArray) : (ByteArray × ByteArray × ByteArray × Int × (List Branch) × ByteArray × ByteArray × ByteArray × ByteArray × (List MapStep)) → St E
  | (v1, v2, v3, v4, v5, v6, v7, v8, v9, v10) => { ρ := [(1, .c (.at (.str a1))), (2, .c (.at (.ptr 0 0))), (4, .c (.at (.ptr 1 0))), (5, .c (.at (.ptr 2 0))), (6, .c (.at (.str v1)))], H := [(0, .box 25 [.str v2, .str v3, .int .i64 v4, .ro 25 (.st 25) v5]), (1, .box 32 [.bool false, .str v6, .str v7, .nils]), (2, .box 32 [.bool false, .str v8, .str v9, .own 3]), (3, .row 52 (.st 52) v10 false)], nx := 4, n := 54, pin := [] }
noncomputable def m0 (N : Nat) (a0 : Branch) (a1 : ByteArray) (lp5 : ByteArray × ByteArray × ByteArray × Int × (List Branch) × ByteArray × ByteArray × ByteArray × ByteArray × (List MapStep) → Option R) : Option R :=
  ob (spec_l07Empty.m N (Branch.mk a0.Key a0.Value a0.At a0.Kids)) fun y1 =>
  bif y1 then
    some (MapProof.mk false ByteArray.empty ByteArray.empty ([] : List MapStep))
  else
  ob (spec_l07Hash.m N a1) fun y2 =>
  lp5 (y2, a0.Key, a0.Value, a0.At, a0.Kids, ByteArray.empty, ByteArray.empty, ByteArray.empty, ByteArray.empty, ([] : List MapStep))
theorem run (N : Nat) (o0 : Orc E R) (a0 : Branch) (a1 : ByteArray) : runF T (G N) live [] Tryz.f25 code (sp N) o0 (a0, a1, ()) = m0 N a0 a1 (fun a => o0 loop5 (K5 N o0) (St5 a0 a1 a)) := by kernel_rfl
theorem body5_0 (N : Nat) (o0 : Orc E R) (o1 : Orc E R) (q1 : St E → Option R) (a0 : Branch) (a1 : ByteArray) (v1 : ByteArray) (v2 : ByteArray) (v3 : ByteArray) (v4 : Int) (v5 : List Branch) (v6 : ByteArray) (v7 : ByteArray) (v8 : ByteArray) (v9 : ByteArray) (v10 : List MapStep) : runA T (G N) live [] o1 body5 (St5 a0 a1 (v1, v2, v3, v4, v5, v6, v7, v8, v9, v10)) (kloop [1, 2, 4, 5, 6] q1 (K5 N o0)) = step5 N a0 a1 (fun a => q1 (St5 a0 a1 a)) (v1, v2, v3, v4, v5, v6, v7, v8, v9, v10) := by kernel_rfl
theorem lp5_eq (N : Nat) (a0 : Branch) (a1 : ByteArray) (a : ByteArray × ByteArray × ByteArray × Int × (List Branch) × ByteArray × ByteArray × ByteArray × ByteArray × (List MapStep)) : (orc T (G N) live [] N 2) loop5 (K5 N (orc T (G N) live [] N 2)) (St5 a0 a1 a) = lp5 N a0 a1 a :=
  (orc_loop (b := body5) (live := [1, 2, 4, 5, 6]) (by kernel_rfl)).trans (iter_eq (St5 a0 a1) _ _ (fun q1 a => by
    have hc := congrFun (congrFun (rfl : (step5 N a0 a1) = (step5 N a0 a1)) (fun a => q1 (St5 a0 a1 a))) a
    obtain ⟨u0, u1, u2, u3, u4, u5, u6, u7, u8, u9⟩ := a
    exact (body5_0 N (orc T (G N) live [] N 2) (orc T (G N) live [] N 1) q1 a0 a1 u0 u1 u2 u3 u4 u5 u6 u7 u8 u9).trans hc) N a)
theorem G_ok (N : Nat) : GamOK Tryz.prog (G N) := gam_ok (l := [(57, [], spec_l07Empty.sp N), (36, [], spec_l07Hash.sp N), (59, [], spec_l07Leaf.sp N), (37, [], spec_l07Bit.sp N), (60, [], spec_l07Root.sp N)]) (⟨spec_l07Empty.snd N, spec_l07Hash.snd N, spec_l07Leaf.snd N, spec_l07Bit.snd N, spec_l07Root.snd N, trivial⟩)
theorem snd (N : Nat) : Sound Tryz.prog E 25 (sp N) :=
  Mir.sound T_OK (G_ok N) mixed Tryz.func25 (c := code) (by kernel_rfl) (by kernel_rfl) (sp N) (Nat.le_of_ble_eq_true (by kernel_rfl)) live [] (by
    rintro ⟨a0, a1, _⟩ r h
    exact ⟨N, 2, ((run N _ a0 a1).trans (congrArg (m0 N a0 a1) (funext fun a => lp5_eq N a0 a1 a))).trans h⟩)
end spec_l07Prove
namespace spec_ProveKey
noncomputable def code : Code := Tryz.f8.body.getD .skip
abbrev live : Live := []
noncomputable def G (N : Nat) : Ctx E := gam [(23, [], spec_MapOK.sp N), (24, [], spec_l02Key.sp N), (25, [], spec_l07Prove.sp N)]
noncomputable def m0 (N : Nat) (a0 : Branch) (a1 : ByteArray) : Option R :=
  bif (decide ((a1.size : Int) > (65536:Int))) then
    some ((MapProof.mk false ByteArray.empty ByteArray.empty ([] : List MapStep)), (2:Int))
  else
  ob (spec_MapOK.m N (Branch.mk a0.Key a0.Value a0.At a0.Kids)) fun y1 =>
  bif (!y1) then
    some ((MapProof.mk false ByteArray.empty ByteArray.empty ([] : List MapStep)), (1:Int))
  else
  ob (spec_l02Key.m N a1) fun y2 =>
  bif (bif false then true else (!y2)) then
    some ((MapProof.mk false ByteArray.empty ByteArray.empty ([] : List MapStep)), (1:Int))
  else
  ob (spec_l07Prove.m N (Branch.mk a0.Key a0.Value a0.At a0.Kids) a1) fun y3 =>
  some (y3, (0:Int))
theorem run (N : Nat) (o0 : Orc E R) (a0 : Branch) (a1 : ByteArray) : runF T (G N) live [] Tryz.f8 code (sp N) o0 (a0, a1, ()) = m0 N a0 a1 := by kernel_rfl
theorem G_ok (N : Nat) : GamOK Tryz.prog (G N) := gam_ok (l := [(23, [], spec_MapOK.sp N), (24, [], spec_l02Key.sp N), (25, [], spec_l07Prove.sp N)]) (⟨spec_MapOK.snd N, spec_l02Key.snd N, spec_l07Prove.snd N, trivial⟩)
theorem snd (N : Nat) : Sound Tryz.prog E 8 (sp N) :=
  Mir.sound T_OK (G_ok N) mixed Tryz.func8 (c := code) (by kernel_rfl) (by kernel_rfl) (sp N) (Nat.le_of_ble_eq_true (by kernel_rfl)) live [] (by
    rintro ⟨a0, a1, _⟩ r h
    exact ⟨N, 2, ((run N _ a0 a1).trans rfl).trans h⟩)
end spec_ProveKey
namespace strings_Compare
theorem str_of {W : World} {F : Nat → Prop} {s : ByteArray} {v : Value} (h : RoV E W F .str s v) : v = .string s := by
  obtain ⟨d, h⟩ := h; cases d <;> exact h
theorem snd (N : Nat) : Sound Tryz.prog E 63 (sp N) := by
  refine ⟨fun args W => run_callFunc_go Tryz.func63 (c := Tryz.f63.body.getD .skip) (by kernel_rfl) (by kernel_rfl) args W, ?_⟩
  rintro W F ⟨a0, a1, _⟩ r args fp hfn ⟨v, vs, f1, f2, rfl, rfl, ⟨h0, rfl⟩, ⟨w, ws, g1, g2, rfl, rfl, ⟨h1, rfl⟩, ⟨rfl, rfl⟩⟩⟩ _ _ hF
  obtain rfl := str_of h0
  obtain rfl := str_of h1
  cases hfn
  have hcall := Go.Proofs.Any.strings_Compare Tryz.cmpLays a0 a1 W
  refine (show Calls Tryz.prog 63 #[.string a0, .string a1] W _ from hcall).mono ?_
  rintro e W' ⟨rfl, rfl⟩
  exact ⟨_, rfl, ⟨F, [.int .i64 (Go.Lib.compareBytes a0.data.toList a1.data.toList)], [], [], rfl, fun b h => h, fun b h => ⟨.inl h, hF b h⟩, ⟨_, [], [], [], rfl, rfl, ⟨rfl, rfl⟩, ⟨rfl, rfl⟩⟩, ⟨_, _, [], [], rfl, rfl, rfl, ⟨_, _, [], [], rfl, rfl, rfl, ⟨rfl, rfl⟩⟩⟩, List.nodup_nil, fun b h => by cases h⟩, rfl, rfl, rfl, Nat.le_refl _, fun b h _ => rfl⟩
end strings_Compare
namespace impl_pairAt_1
noncomputable def code : Code := Tryz.f62.body.getD .skip
abbrev live : Live := []
noncomputable def G (N : Nat) : Ctx E := gam [(63, [], strings_Compare.sp N)]
noncomputable def m0 (N : Nat) (a0 : pairOf) (a1 : ByteArray) : Option R :=
  ob (strings_Compare.m N a0.hash a1) fun y1 =>
  some y1
theorem run (N : Nat) (o0 : Orc E R) (a0 : pairOf) (a1 : ByteArray) : runF T (G N) live [] Tryz.f62 code (sp N) o0 (a0, a1, ()) = m0 N a0 a1 := by kernel_rfl
theorem G_ok (N : Nat) : GamOK Tryz.prog (G N) := gam_ok (l := [(63, [], strings_Compare.sp N)]) (⟨strings_Compare.snd N, trivial⟩)
theorem snd (N : Nat) : Sound Tryz.prog E 62 (sp N) :=
  Mir.sound T_OK (G_ok N) mixed Tryz.func62 (c := code) (by kernel_rfl) (by kernel_rfl) (sp N) (Nat.le_of_ble_eq_true (by kernel_rfl)) live [] (by
    rintro ⟨a0, a1, _⟩ r h
    exact ⟨N, 2, ((run N _ a0 a1).trans rfl).trans h⟩)
end impl_pairAt_1
namespace slices_BinarySearchFunc_impl_pairOf_impl_pairOf_string__impl_pairAt_1
noncomputable def code : Code := Tryz.f61.body.getD .skip
abbrev live : Live := [(3, [0, 1, 2, 8, 9, 10])]
noncomputable def G (N : Nat) : Ctx E := gam [(62, [], impl_pairAt_1.sp N)]
noncomputable def loop3 : Code := codeAt code [1, 1, 1, 0, 0]
noncomputable def body3 : Code := codeAt loop3 [0]
noncomputable def K3 (N : Nat) (o0 : Orc E R) : KT E R := kAt T (G N) live [] o0 code [1, 1, 1, 0, 0] (kfin T Tryz.f61 (sp N))
noncomputable def St3 (a0 : List pairOf) (a1 : ByteArray) : (Int × Int × Int) → St E
  | (v2, v3, v4) => { ρ := [(0, .c (.at (.ro 58 (.st 58) a0))), (1, .c (.at (.str a1))), (2, .clo 62 []), (8, .c (.at (.int .i64 v2))), (9, .c (.at (.int .i64 v3))), (10, .c (.at (.int .i64 v4)))], H := [], nx := 0, n := 49, pin := [] }
noncomputable def m0 (N : Nat) (a0 : List pairOf) (a1 : ByteArray) (lp3 : Int × Int × Int → Option R) : Option R :=
  lp3 ((a0.length : Int), (0:Int), (a0.length : Int))
theorem run (N : Nat) (o0 : Orc E R) (a0 : List pairOf) (a1 : ByteArray) : runF T (G N) live [] Tryz.f61 code (sp N) o0 (a0, a1, (), ()) = m0 N a0 a1 (fun a => o0 loop3 (K3 N o0) (St3 a0 a1 a)) := by kernel_rfl
theorem body3_0 (N : Nat) (o0 : Orc E R) (o1 : Orc E R) (q1 : St E → Option R) (a0 : List pairOf) (a1 : ByteArray) (v2 : Int) (v3 : Int) (v4 : Int) : runA T (G N) live [] o1 body3 (St3 a0 a1 (v2, v3, v4)) (kloop [0, 1, 2, 8, 9, 10] q1 (K3 N o0)) = step3 N a0 a1 (fun a => q1 (St3 a0 a1 a)) (v2, v3, v4) := by kernel_rfl
theorem lp3_eq (N : Nat) (a0 : List pairOf) (a1 : ByteArray) (a : Int × Int × Int) : (orc T (G N) live [] N 2) loop3 (K3 N (orc T (G N) live [] N 2)) (St3 a0 a1 a) = lp3 N a0 a1 a :=
  (orc_loop (b := body3) (live := [0, 1, 2, 8, 9, 10]) (by kernel_rfl)).trans (iter_eq (St3 a0 a1) _ _ (fun q1 a => by
    have hc := congrFun (congrFun (rfl : (step3 N a0 a1) = (step3 N a0 a1)) (fun a => q1 (St3 a0 a1 a))) a
    obtain ⟨u0, u1, u2⟩ := a
    exact (body3_0 N (orc T (G N) live [] N 2) (orc T (G N) live [] N 1) q1 a0 a1 u0 u1 u2).trans hc) N a)
theorem G_ok (N : Nat) : GamOK Tryz.prog (G N) := gam_ok (l := [(62, [], impl_pairAt_1.sp N)]) (⟨impl_pairAt_1.snd N, trivial⟩)
theorem snd (N : Nat) : Sound Tryz.prog E 61 (sp N) :=
  Mir.sound T_OK (G_ok N) mixed Tryz.func61 (c := code) (by kernel_rfl) (by kernel_rfl) (sp N) (Nat.le_of_ble_eq_true (by kernel_rfl)) live [] (by
    rintro ⟨a0, a1, _, _⟩ r h
    exact ⟨N, 2, ((run N _ a0 a1).trans (congrArg (m0 N a0 a1) (funext fun a => lp3_eq N a0 a1 a))).trans h⟩)
end slices_BinarySearchFunc_impl_pairOf_impl_pairOf_string__impl_pairAt_1
namespace impl_pairAt
noncomputable def code : Code := Tryz.f26.body.getD .skip
abbrev live : Live := []
noncomputable def G (N : Nat) : Ctx E := gam [(20, [], impl_hash.sp N), (61, [62], slices_BinarySearchFunc_impl_pairOf_impl_pairOf_string__impl_pairAt_1.sp N)]
noncomputable def m0 (N : Nat) (a0 : List pairOf) (a1 : ByteArray) : Option R :=
  ob (impl_hash.m N a1) fun y1 =>
  ob (slices_BinarySearchFunc_impl_pairOf_impl_pairOf_string__impl_pairAt_1.m N a0 y1) fun y2 =>
  some (y2.1, y2.2)
theorem run (N : Nat) (o0 : Orc E R) (a0 : List pairOf) (a1 : ByteArray) : runF T (G N) live [] Tryz.f26 code (sp N) o0 (a0, a1, ()) = m0 N a0 a1 := by kernel_rfl
theorem G_ok (N : Nat) : GamOK Tryz.prog (G N) := gam_ok (l := [(20, [], impl_hash.sp N), (61, [62], slices_BinarySearchFunc_impl_pairOf_impl_pairOf_string__impl_pairAt_1.sp N)]) (⟨impl_hash.snd N, slices_BinarySearchFunc_impl_pairOf_impl_pairOf_string__impl_pairAt_1.snd N, trivial⟩)
theorem snd (N : Nat) : Sound Tryz.prog E 26 (sp N) :=
  Mir.sound T_OK (G_ok N) mixed Tryz.func26 (c := code) (by kernel_rfl) (by kernel_rfl) (sp N) (Nat.le_of_ble_eq_true (by kernel_rfl)) live [] (by
    rintro ⟨a0, a1, _⟩ r h
    exact ⟨N, 2, ((run N _ a0 a1).trans rfl).trans h⟩)
end impl_pairAt
namespace impl_MapGet
noncomputable def code : Code := Tryz.f9.body.getD .skip
abbrev live : Live := []
noncomputable def G (N : Nat) : Ctx E := gam [(19, [], impl_mapCode.sp N), (26, [], impl_pairAt.sp N)]
noncomputable def m0 (N : Nat) (a0 : Branch) (a1 : ByteArray) : Option R :=
  ob (impl_mapCode.m N (Branch.mk a0.Key a0.Value a0.At a0.Kids) a1) fun y1 =>
  bif (y1.2 != (0:Int)) then
    some (ByteArray.empty, y1.2)
  else
  ob (impl_pairAt.m N y1.1 a1) fun y2 =>
  bif (!y2.2) then
    some (ByteArray.empty, (5:Int))
  else
  bif (decide (0 ≤ y2.1)) then
  bif (decide (y2.1 < (y1.1.length : Int))) then
  some ((y1.1.getD (Int.toNat y2.1) pairOf.dz).value, (0:Int))
  else none
  else none
theorem run (N : Nat) (o0 : Orc E R) (a0 : Branch) (a1 : ByteArray) : runF T (G N) live [] Tryz.f9 code (sp N) o0 (a0, a1, ()) = m0 N a0 a1 := by kernel_rfl
theorem G_ok (N : Nat) : GamOK Tryz.prog (G N) := gam_ok (l := [(19, [], impl_mapCode.sp N), (26, [], impl_pairAt.sp N)]) (⟨impl_mapCode.snd N, impl_pairAt.snd N, trivial⟩)
theorem snd (N : Nat) : Sound Tryz.prog E 9 (sp N) :=
  Mir.sound T_OK (G_ok N) mixed Tryz.func9 (c := code) (by kernel_rfl) (by kernel_rfl) (sp N) (Nat.le_of_ble_eq_true (by kernel_rfl)) live [] (by
    rintro ⟨a0, a1, _⟩ r h
    exact ⟨N, 2, ((run N _ a0 a1).trans rfl).trans h⟩)
end impl_MapGet
namespace laws_sameProof
noncomputable def code : Code := Tryz.f10.body.getD .skip
abbrev live : Live := [(4, [2, 3, 5])]
noncomputable def G (N : Nat) : Ctx E := gam []
noncomputable def loop4 : Code := codeAt code [1, 1, 0, 1, 0]
noncomputable def body4 : Code := codeAt loop4 [0]
noncomputable def K4 (N : Nat) (o0 : Orc E R) : KT E R := kAt T (G N) live [] o0 code [1, 1, 0, 1, 0] (kfin T Tryz.f10 (sp N))
noncomputable def St4 (a0 : MapProof) (a1 : MapProof) : Int → St E
  | v0 => { ρ := [(2, .c (.at (.ptr 0 0))), (3, .c (.at (.ptr 1 0))), (5, .c (.at (.int .i64 v0)))], H := [(0, .box 32 [.bool a0.Found, .str a0.Key, .str a0.Value, .ro 52 (.st 52) a0.Steps]), (1, .box 32 [.bool a1.Found, .str a1.Key, .str a1.Value, .ro 52 (.st 52) a1.Steps])], nx := 2, n := 52, pin := [] }
noncomputable def m0 (N : Nat) (a0 : MapProof) (a1 : MapProof) (lp4 : Int → Option R) : Option R :=
  bif (!(a0.Found == a1.Found)) then
    some false
  else
  bif (bif false then true else (!seq a0.Key a1.Key)) then
    some false
  else
  bif (bif false then true else (!seq a0.Value a1.Value)) then
    some false
  else
  bif (bif false then true else ((a0.Steps.length : Int) != (a1.Steps.length : Int))) then
    some false
  else
  lp4 (0:Int)
theorem run (N : Nat) (o0 : Orc E R) (a0 : MapProof) (a1 : MapProof) : runF T (G N) live [] Tryz.f10 code (sp N) o0 (a0, a1, ()) = m0 N a0 a1 (fun a => o0 loop4 (K4 N o0) (St4 a0 a1 a)) := by kernel_rfl
theorem body4_0 (N : Nat) (o0 : Orc E R) (o1 : Orc E R) (q1 : St E → Option R) (a0 : MapProof) (a1 : MapProof) (v0 : Int) : runA T (G N) live [] o1 body4 (St4 a0 a1 v0) (kloop [2, 3, 5] q1 (K4 N o0)) = step4 N a0 a1 (fun a => q1 (St4 a0 a1 a)) v0 := by kernel_rfl
theorem lp4_eq (N : Nat) (a0 : MapProof) (a1 : MapProof) (a : Int) : (orc T (G N) live [] N 2) loop4 (K4 N (orc T (G N) live [] N 2)) (St4 a0 a1 a) = lp4 N a0 a1 a :=
  (orc_loop (b := body4) (live := [2, 3, 5]) (by kernel_rfl)).trans (iter_eq (St4 a0 a1) _ _ (fun q1 a => by
    have hc := congrFun (congrFun (rfl : (step4 N a0 a1) = (step4 N a0 a1)) (fun a => q1 (St4 a0 a1 a))) a
    exact (body4_0 N (orc T (G N) live [] N 2) (orc T (G N) live [] N 1) q1 a0 a1 a).trans hc) N a)
theorem G_ok (N : Nat) : GamOK Tryz.prog (G N) := gam_ok (l := []) (trivial)
theorem snd (N : Nat) : Sound Tryz.prog E 10 (sp N) :=
  Mir.sound T_OK (G_ok N) mixed Tryz.func10 (c := code) (by kernel_rfl) (by kernel_rfl) (sp N) (Nat.le_of_ble_eq_true (by kernel_rfl)) live [] (by
    rintro ⟨a0, a1, _⟩ r h
    exact ⟨N, 2, ((run N _ a0 a1).trans (congrArg (m0 N a0 a1) (funext fun a => lp4_eq N a0 a1 a))).trans h⟩)
end laws_sameProof
namespace impl_isHash_1
noncomputable def code : Code := Tryz.f66.body.getD .skip
abbrev live : Live := []
noncomputable def G (N : Nat) : Ctx E := gam []
noncomputable def m0 (N : Nat) (a0 : ByteArray) : Option R :=
  some ((a0.size : Int) != (32:Int))
theorem run (N : Nat) (o0 : Orc E R) (a0 : ByteArray) : runF T (G N) live [] Tryz.f66 code (sp N) o0 (a0, ()) = m0 N a0 := by kernel_rfl
theorem G_ok (N : Nat) : GamOK Tryz.prog (G N) := gam_ok (l := []) (trivial)
theorem snd (N : Nat) : Sound Tryz.prog E 66 (sp N) :=
  Mir.sound T_OK (G_ok N) mixed Tryz.func66 (c := code) (by kernel_rfl) (by kernel_rfl) (sp N) (Nat.le_of_ble_eq_true (by kernel_rfl)) live [] (by
    rintro ⟨a0, _⟩ r h
    exact ⟨N, 2, ((run N _ a0).trans rfl).trans h⟩)
end impl_isHash_1
namespace slices_IndexFunc_string_string__impl_isHash_1
noncomputable def code : Code := Tryz.f92.body.getD .skip
abbrev live : Live := [(2, [0, 1, 7, 8])]
noncomputable def G (N : Nat) : Ctx E := gam [(66, [], impl_isHash_1.sp N)]
noncomputable def loop2 : Code := codeAt code [1, 0, 1, 0]
noncomputable def body2 : Code := codeAt loop2 [0]
noncomputable def K2 (N : Nat) (o0 : Orc E R) : KT E R := kAt T (G N) live [] o0 code [1, 0, 1, 0] (kfin T Tryz.f92 (sp N))
noncomputable def St2 (a0 : List ByteArray) : (Int × Int) → St E
  | (v1, v2) => { ρ := [(0, .c (.at (.ro 9 .str a0))), (1, .clo 66 []), (7, .c (.at (.int .i64 v1))), (8, .c (.at (.int .i64 v2)))], H := [], nx := 0, n := 19, pin := [] }
noncomputable def m0 (N : Nat) (a0 : List ByteArray) (lp2 : Int × Int → Option R) : Option R :=
  lp2 ((a0.length : Int), (0:Int))
theorem run (N : Nat) (o0 : Orc E R) (a0 : List ByteArray) : runF T (G N) live [] Tryz.f92 code (sp N) o0 (a0, (), ()) = m0 N a0 (fun a => o0 loop2 (K2 N o0) (St2 a0 a)) := by kernel_rfl
theorem body2_0 (N : Nat) (o0 : Orc E R) (o1 : Orc E R) (q1 : St E → Option R) (a0 : List ByteArray) (v1 : Int) (v2 : Int) : runA T (G N) live [] o1 body2 (St2 a0 (v1, v2)) (kloop [0, 1, 7, 8] q1 (K2 N o0)) = step2 N a0 (fun a => q1 (St2 a0 a)) (v1, v2) := by kernel_rfl
theorem lp2_eq (N : Nat) (a0 : List ByteArray) (a : Int × Int) : (orc T (G N) live [] N 2) loop2 (K2 N (orc T (G N) live [] N 2)) (St2 a0 a) = lp2 N a0 a :=
  (orc_loop (b := body2) (live := [0, 1, 7, 8]) (by kernel_rfl)).trans (iter_eq (St2 a0) _ _ (fun q1 a => by
    have hc := congrFun (congrFun (rfl : (step2 N a0) = (step2 N a0)) (fun a => q1 (St2 a0 a))) a
    obtain ⟨u0, u1⟩ := a
    exact (body2_0 N (orc T (G N) live [] N 2) (orc T (G N) live [] N 1) q1 a0 u0 u1).trans hc) N a)
theorem G_ok (N : Nat) : GamOK Tryz.prog (G N) := gam_ok (l := [(66, [], impl_isHash_1.sp N)]) (⟨impl_isHash_1.snd N, trivial⟩)
theorem snd (N : Nat) : Sound Tryz.prog E 92 (sp N) :=
  Mir.sound T_OK (G_ok N) mixed Tryz.func92 (c := code) (by kernel_rfl) (by kernel_rfl) (sp N) (Nat.le_of_ble_eq_true (by kernel_rfl)) live [] (by
    rintro ⟨a0, _, _⟩ r h
    exact ⟨N, 2, ((run N _ a0).trans (congrArg (m0 N a0) (funext fun a => lp2_eq N a0 a))).trans h⟩)
end slices_IndexFunc_string_string__impl_isHash_1
namespace slices_ContainsFunc_string_string__impl_isHash_1
noncomputable def code : Code := Tryz.f64.body.getD .skip
abbrev live : Live := []
noncomputable def G (N : Nat) : Ctx E := gam [(92, [66], slices_IndexFunc_string_string__impl_isHash_1.sp N)]
noncomputable def m0 (N : Nat) (a0 : List ByteArray) : Option R :=
  ob (slices_IndexFunc_string_string__impl_isHash_1.m N a0) fun y1 =>
  some (decide (y1 ≥ (0:Int)))
theorem run (N : Nat) (o0 : Orc E R) (a0 : List ByteArray) : runF T (G N) live [] Tryz.f64 code (sp N) o0 (a0, (), ()) = m0 N a0 := by kernel_rfl
theorem G_ok (N : Nat) : GamOK Tryz.prog (G N) := gam_ok (l := [(92, [66], slices_IndexFunc_string_string__impl_isHash_1.sp N)]) (⟨slices_IndexFunc_string_string__impl_isHash_1.snd N, trivial⟩)
theorem snd (N : Nat) : Sound Tryz.prog E 64 (sp N) :=
  Mir.sound T_OK (G_ok N) mixed Tryz.func64 (c := code) (by kernel_rfl) (by kernel_rfl) (sp N) (Nat.le_of_ble_eq_true (by kernel_rfl)) live [] (by
    rintro ⟨a0, _, _⟩ r h
    exact ⟨N, 2, ((run N _ a0).trans rfl).trans h⟩)
end slices_ContainsFunc_string_string__impl_isHash_1
namespace impl_isHash
noncomputable def code : Code := Tryz.f28.body.getD .skip
abbrev live : Live := []
noncomputable def G (N : Nat) : Ctx E := gam [(64, [66], slices_ContainsFunc_string_string__impl_isHash_1.sp N)]
noncomputable def m0 (N : Nat) (a0 : List ByteArray) : Option R :=
  ob (slices_ContainsFunc_string_string__impl_isHash_1.m N a0) fun y1 =>
  some (!y1)
theorem run (N : Nat) (o0 : Orc E R) (a0 : List ByteArray) : runF T (G N) live [] Tryz.f28 code (sp N) o0 (a0, ()) = m0 N a0 := by kernel_rfl
theorem G_ok (N : Nat) : GamOK Tryz.prog (G N) := gam_ok (l := [(64, [66], slices_ContainsFunc_string_string__impl_isHash_1.sp N)]) (⟨slices_ContainsFunc_string_string__impl_isHash_1.snd N, trivial⟩)
theorem snd (N : Nat) : Sound Tryz.prog E 28 (sp N) :=
  Mir.sound T_OK (G_ok N) mixed Tryz.func28 (c := code) (by kernel_rfl) (by kernel_rfl) (sp N) (Nat.le_of_ble_eq_true (by kernel_rfl)) live [] (by
    rintro ⟨a0, _⟩ r h
    exact ⟨N, 2, ((run N _ a0).trans rfl).trans h⟩)
end impl_isHash
namespace cmp_isNaN_int
noncomputable def code : Code := Tryz.f93.body.getD .skip
abbrev live : Live := []
noncomputable def G (N : Nat) : Ctx E := gam []
noncomputable def m0 (N : Nat) (a0 : Int) : Option R :=
  some (a0 != a0)
theorem run (N : Nat) (o0 : Orc E R) (a0 : Int) : runF T (G N) live [] Tryz.f93 code (sp N) o0 (a0, ()) = m0 N a0 := by kernel_rfl
theorem G_ok (N : Nat) : GamOK Tryz.prog (G N) := gam_ok (l := []) (trivial)
theorem snd (N : Nat) : Sound Tryz.prog E 93 (sp N) :=
  Mir.sound T_OK (G_ok N) mixed Tryz.func93 (c := code) (by kernel_rfl) (by kernel_rfl) (sp N) (Nat.le_of_ble_eq_true (by kernel_rfl)) live [] (by
    rintro ⟨a0, _⟩ r h
    exact ⟨N, 2, ((run N _ a0).trans rfl).trans h⟩)
end cmp_isNaN_int
namespace cmp_Compare_int
noncomputable def code : Code := Tryz.f68.body.getD .skip
abbrev live : Live := []
noncomputable def G (N : Nat) : Ctx E := gam [(93, [], cmp_isNaN_int.sp N)]
noncomputable def m0 (N : Nat) (a0 : Int) (a1 : Int) : Option R :=
  ob (cmp_isNaN_int.m N a0) fun y1 =>
  ob (cmp_isNaN_int.m N a1) fun y2 =>
  bif y1 then
    bif y2 then
      some (0:Int)
    else
    some (-1:Int)
  else
  bif y2 then
    some (1:Int)
  else
  bif (decide (a0 < a1)) then
    some (-1:Int)
  else
  bif (decide (a0 > a1)) then
    some (1:Int)
  else
  some (0:Int)
theorem run (N : Nat) (o0 : Orc E R) (a0 : Int) (a1 : Int) : runF T (G N) live [] Tryz.f68 code (sp N) o0 (a0, a1, ()) = m0 N a0 a1 := by kernel_rfl
theorem G_ok (N : Nat) : GamOK Tryz.prog (G N) := gam_ok (l := [(93, [], cmp_isNaN_int.sp N)]) (⟨cmp_isNaN_int.snd N, trivial⟩)
theorem snd (N : Nat) : Sound Tryz.prog E 68 (sp N) :=
  Mir.sound T_OK (G_ok N) mixed Tryz.func68 (c := code) (by kernel_rfl) (by kernel_rfl) (sp N) (Nat.le_of_ble_eq_true (by kernel_rfl)) live [] (by
    rintro ⟨a0, a1, _⟩ r h
    exact ⟨N, 2, ((run N _ a0 a1).trans rfl).trans h⟩)
end cmp_Compare_int
namespace impl_stepsOK
noncomputable def code : Code := Tryz.f30.body.getD .skip
abbrev live : Live := [(2, [0, 5, 6, 7])]
noncomputable def G (N : Nat) : Ctx E := gam [(67, [], impl_within.sp N), (68, [], cmp_Compare_int.sp N), (28, [], impl_isHash.sp N)]
noncomputable def loop2 : Code := codeAt code [1, 0, 1, 0]
noncomputable def body2 : Code := codeAt loop2 [0]
noncomputable def K2 (N : Nat) (o0 : Orc E R) : KT E R := kAt T (G N) live [] o0 code [1, 0, 1, 0] (kfin T Tryz.f30 (sp N))
noncomputable def St2 (a0 : List MapStep) : (Int × Int) → St E
  | (v2, v3) => { ρ := [(0, .c (.at (.ro 52 (.st 52) a0))), (5, .c (.at (.ro 52 (.st 52) a0))), (6, .c (.at (.int .i64 v2))), (7, .c (.at (.int .i64 v3)))], H := [], nx := 0, n := 43, pin := [] }
noncomputable def m0 (N : Nat) (a0 : List MapStep) (lp2 : Int × Int → Option R) : Option R :=
  lp2 ((a0.length : Int), (0:Int))
theorem run (N : Nat) (o0 : Orc E R) (a0 : List MapStep) : runF T (G N) live [] Tryz.f30 code (sp N) o0 (a0, ()) = m0 N a0 (fun a => o0 loop2 (K2 N o0) (St2 a0 a)) := by kernel_rfl
theorem body2_0 (N : Nat) (o0 : Orc E R) (o1 : Orc E R) (q1 : St E → Option R) (a0 : List MapStep) (v2 : Int) (v3 : Int) : runA T (G N) live [] o1 body2 (St2 a0 (v2, v3)) (kloop [0, 5, 6, 7] q1 (K2 N o0)) = step2 N a0 (fun a => q1 (St2 a0 a)) (v2, v3) := by kernel_rfl
theorem lp2_eq (N : Nat) (a0 : List MapStep) (a : Int × Int) : (orc T (G N) live [] N 2) loop2 (K2 N (orc T (G N) live [] N 2)) (St2 a0 a) = lp2 N a0 a :=
  (orc_loop (b := body2) (live := [0, 5, 6, 7]) (by kernel_rfl)).trans (iter_eq (St2 a0) _ _ (fun q1 a => by
    have hc := congrFun (congrFun (rfl : (step2 N a0) = (step2 N a0)) (fun a => q1 (St2 a0 a))) a
    obtain ⟨u0, u1⟩ := a
    exact (body2_0 N (orc T (G N) live [] N 2) (orc T (G N) live [] N 1) q1 a0 u0 u1).trans hc) N a)
theorem G_ok (N : Nat) : GamOK Tryz.prog (G N) := gam_ok (l := [(67, [], impl_within.sp N), (68, [], cmp_Compare_int.sp N), (28, [], impl_isHash.sp N)]) (⟨impl_within.snd N, cmp_Compare_int.snd N, impl_isHash.snd N, trivial⟩)
theorem snd (N : Nat) : Sound Tryz.prog E 30 (sp N) :=
  Mir.sound T_OK (G_ok N) mixed Tryz.func30 (c := code) (by kernel_rfl) (by kernel_rfl) (sp N) (Nat.le_of_ble_eq_true (by kernel_rfl)) live [] (by
    rintro ⟨a0, _⟩ r h
    exact ⟨N, 2, ((run N _ a0).trans (congrArg (m0 N a0) (funext fun a => lp2_eq N a0 a))).trans h⟩)
end impl_stepsOK
namespace impl_checkKey_1
noncomputable def code : Code := Tryz.f69.body.getD .skip
abbrev live : Live := []
noncomputable def G (N : Nat) : Ctx E := gam [(22, [], impl_bit.sp N)]
noncomputable def m0 (N : Nat) (a0 : MapStep) (a1 : ByteArray) (a2 : ByteArray) : Option R :=
  ob (impl_bit.m N a1 a0.At) fun y1 =>
  ob (impl_bit.m N a2 a0.At) fun y2 =>
  some (y1 != y2)
theorem run (N : Nat) (o0 : Orc E R) (a0 : MapStep) (a1 : ByteArray) (a2 : ByteArray) : runF T (G N) live [] Tryz.f69 code (sp N) o0 (a0, a1, a2, ()) = m0 N a0 a1 a2 := by kernel_rfl
theorem G_ok (N : Nat) : GamOK Tryz.prog (G N) := gam_ok (l := [(22, [], impl_bit.sp N)]) (⟨impl_bit.snd N, trivial⟩)
theorem snd (N : Nat) : Sound Tryz.prog E 69 (sp N) :=
  Mir.sound T_OK (G_ok N) mixed Tryz.func69 (c := code) (by kernel_rfl) (by kernel_rfl) (sp N) (Nat.le_of_ble_eq_true (by kernel_rfl)) live [] (by
    rintro ⟨a0, a1, a2, _⟩ r h
    exact ⟨N, 2, ((run N _ a0 a1 a2).trans rfl).trans h⟩)
end impl_checkKey_1
namespace slices_IndexFunc_impl_MapStep_impl_MapStep__impl_checkKey_1
noncomputable def code : Code := Tryz.f94.body.getD .skip
abbrev live : Live := [(2, [0, 1, 7, 8])]
noncomputable def G (N : Nat) : Ctx E := gam [(69, [], impl_checkKey_1.sp N)]
noncomputable def loop2 : Code := codeAt code [1, 0, 1, 0]
noncomputable def body2 : Code := codeAt loop2 [0]
noncomputable def K2 (N : Nat) (o0 : Orc E R) : KT E R := kAt T (G N) live [] o0 code [1, 0, 1, 0] (kfin T Tryz.f94 (sp N))
noncomputable def St2 (a0 : List MapStep) (a1_0 : ByteArray) (a1_1 : ByteArray) : (Int × Int) → St E
  | (v1, v2) => { ρ := [(0, .c (.at (.ro 52 (.st 52) a0))), (1, .clo 69 [.at (.ptr 0 0), .at (.ptr 1 0)]), (7, .c (.at (.int .i64 v1))), (8, .c (.at (.int .i64 v2)))], H := [(0, .rbx [.str a1_0]), (1, .rbx [.str a1_1])], nx := 2, n := 19, pin := [] }
noncomputable def m0 (N : Nat) (a0 : List MapStep) (a1_0 : ByteArray) (a1_1 : ByteArray) (lp2 : Int × Int → Option R) : Option R :=
  lp2 ((a0.length : Int), (0:Int))
theorem run (N : Nat) (o0 : Orc E R) (a0 : List MapStep) (a1_0 : ByteArray) (a1_1 : ByteArray) : runF T (G N) live [] Tryz.f94 code (sp N) o0 (a0, (a1_0, a1_1, ()), ()) = m0 N a0 a1_0 a1_1 (fun a => o0 loop2 (K2 N o0) (St2 a0 a1_0 a1_1 a)) := by kernel_rfl
theorem body2_0 (N : Nat) (o0 : Orc E R) (o1 : Orc E R) (q1 : St E → Option R) (a0 : List MapStep) (a1_0 : ByteArray) (a1_1 : ByteArray) (v1 : Int) (v2 : Int) : runA T (G N) live [] o1 body2 (St2 a0 a1_0 a1_1 (v1, v2)) (kloop [0, 1, 7, 8] q1 (K2 N o0)) = step2 N a0 a1_0 a1_1 (fun a => q1 (St2 a0 a1_0 a1_1 a)) (v1, v2) := by kernel_rfl
theorem lp2_eq (N : Nat) (a0 : List MapStep) (a1_0 : ByteArray) (a1_1 : ByteArray) (a : Int × Int) : (orc T (G N) live [] N 2) loop2 (K2 N (orc T (G N) live [] N 2)) (St2 a0 a1_0 a1_1 a) = lp2 N a0 a1_0 a1_1 a :=
  (orc_loop (b := body2) (live := [0, 1, 7, 8]) (by kernel_rfl)).trans (iter_eq (St2 a0 a1_0 a1_1) _ _ (fun q1 a => by
    have hc := congrFun (congrFun (rfl : (step2 N a0 a1_0 a1_1) = (step2 N a0 a1_0 a1_1)) (fun a => q1 (St2 a0 a1_0 a1_1 a))) a
    obtain ⟨u0, u1⟩ := a
    exact (body2_0 N (orc T (G N) live [] N 2) (orc T (G N) live [] N 1) q1 a0 a1_0 a1_1 u0 u1).trans hc) N a)
theorem G_ok (N : Nat) : GamOK Tryz.prog (G N) := gam_ok (l := [(69, [], impl_checkKey_1.sp N)]) (⟨impl_checkKey_1.snd N, trivial⟩)
theorem snd (N : Nat) : Sound Tryz.prog E 94 (sp N) :=
  Mir.sound T_OK (G_ok N) mixed Tryz.func94 (c := code) (by kernel_rfl) (by kernel_rfl) (sp N) (Nat.le_of_ble_eq_true (by kernel_rfl)) live [] (by
    rintro ⟨a0, ⟨a1_0, a1_1, _⟩, _⟩ r h
    exact ⟨N, 2, ((run N _ a0 a1_0 a1_1).trans (congrArg (m0 N a0 a1_0 a1_1) (funext fun a => lp2_eq N a0 a1_0 a1_1 a))).trans h⟩)
end slices_IndexFunc_impl_MapStep_impl_MapStep__impl_checkKey_1
namespace slices_ContainsFunc_impl_MapStep_impl_MapStep__impl_checkKey_1
noncomputable def code : Code := Tryz.f70.body.getD .skip
abbrev live : Live := []
noncomputable def G (N : Nat) : Ctx E := gam [(94, [69], slices_IndexFunc_impl_MapStep_impl_MapStep__impl_checkKey_1.sp N)]
noncomputable def m0 (N : Nat) (a0 : List MapStep) (a1_0 : ByteArray) (a1_1 : ByteArray) : Option R :=
  ob (slices_IndexFunc_impl_MapStep_impl_MapStep__impl_checkKey_1.m N a0 a1_0 a1_1) fun y1 =>
  some (decide (y1 ≥ (0:Int)))
theorem run (N : Nat) (o0 : Orc E R) (a0 : List MapStep) (a1_0 : ByteArray) (a1_1 : ByteArray) : runF T (G N) live [] Tryz.f70 code (sp N) o0 (a0, (a1_0, a1_1, ()), ()) = m0 N a0 a1_0 a1_1 := by kernel_rfl
theorem G_ok (N : Nat) : GamOK Tryz.prog (G N) := gam_ok (l := [(94, [69], slices_IndexFunc_impl_MapStep_impl_MapStep__impl_checkKey_1.sp N)]) (⟨slices_IndexFunc_impl_MapStep_impl_MapStep__impl_checkKey_1.snd N, trivial⟩)
theorem snd (N : Nat) : Sound Tryz.prog E 70 (sp N) :=
  Mir.sound T_OK (G_ok N) mixed Tryz.func70 (c := code) (by kernel_rfl) (by kernel_rfl) (sp N) (Nat.le_of_ble_eq_true (by kernel_rfl)) live [] (by
    rintro ⟨a0, ⟨a1_0, a1_1, _⟩, _⟩ r h
    exact ⟨N, 2, ((run N _ a0 a1_0 a1_1).trans rfl).trans h⟩)
end slices_ContainsFunc_impl_MapStep_impl_MapStep__impl_checkKey_1
end Mir.Y
