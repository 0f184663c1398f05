/- The models are what the functions do. -/
import Derived.Test.YtigmgeablmomnaaWM2
namespace Mir.Y
set_option linter.unusedVariables false
set_option maxRecDepth 10000
open Go Go.Proofs Mir
namespace spec_l01In
noncomputable def code : Code := Try.f53.body.getD .skip
abbrev live : Live := []
noncomputable def G (N : Nat) : Ctx E := gam []
noncomputable def m0 (N : Nat) (a0 : Int) (a1 : Int) (a2 : Int) : Option R :=
  bif (decide (a0 ≥ a1)) then
    some (bif true then (decide (a0 ≤ a2)) else false)
  else
  some false
theorem run (N : Nat) (o0 : Orc E R) (a0 : Int) (a1 : Int) (a2 : Int) : runF T (G N) live [] Try.f53 code (sp N) o0 (a0, a1, a2, ()) = m0 N a0 a1 a2 := by kernel_rfl
theorem G_ok (N : Nat) : GamOK Try.prog (G N) := gam_ok (l := []) (trivial)
theorem snd (N : Nat) : Sound Try.prog E 53 (sp N) :=
  Mir.sound T_OK (G_ok N) mixed Try.func53 (c := code) (by kernel_rfl) (by kernel_rfl) (sp N) (Nat.le_of_ble_eq_true (by kernel_rfl)) live [] (by
    rintro ⟨a0, a1, a2, _⟩ r h
    exact ⟨N, 2, ((run N _ a0 a1 a2).trans rfl).trans h⟩)
end spec_l01In
namespace spec_l10New
noncomputable def code : Code := Try.f55.body.getD .skip
abbrev live : Live := [(3, [4, 5, 6])]
noncomputable def G (N : Nat) : Ctx E := gam []
noncomputable def loop3 : Code := codeAt code [1, 1, 0, 1, 0]
noncomputable def body3 : Code := codeAt loop3 [0]
noncomputable def K3 (N : Nat) (o0 : Orc E R) : KT E R := kAt T (G N) live [] o0 code [1, 1, 0, 1, 0] (kfin T Try.f55 (sp N))
noncomputable def St3 (a0 : Int) (a1 : List Int) : A3 → St E
  | .s0 v0 v1 v2 v3 v4 v5 v6 v7 v9 v10 v11 v12 v13 v14 v15 v16 v17 v18 => { ρ := [(4, .c (.at (.ptr 0 0))), (5, .c (.at (.ptr 1 0))), (6, .c (.at (.int .i64 v0)))], H := [(0, .box 25 [.int .i64 v1, .int .i64 v2, .int .i64 v3, .nils, .nils, .int .i64 v4, .nils, .nils, .nils, .int .i64 v5, .int .i64 v6, .int .i64 v7, .bool false]), (1, .box 25 [.int .i64 a0, .int .i64 v9, .int .i64 v10, .own 2, .own 3, .int .i64 v11, .own 4, .nils, .own 5, .int .i64 v12, .int .i64 v13, .int .i64 v14, .bool true]), (2, .row 96 (.st 96) v15 false), (3, .row 3 (.int .i64) v16 false), (4, .row 3 (.int .i64) v17 false), (5, .row 3 (.int .i64) v18 false)], nx := 6, n := 27, pin := [] }
  | .s1 v0 v1 v2 v3 v4 v5 v6 v7 v9 v10 v11 v12 v13 v14 v15 v16 v17 v18 v19 => { ρ := [(4, .c (.at (.ptr 0 0))), (5, .c (.at (.ptr 1 0))), (6, .c (.at (.int .i64 v0)))], H := [(0, .box 25 [.int .i64 v1, .int .i64 v2, .int .i64 v3, .nils, .nils, .int .i64 v4, .nils, .nils, .nils, .int .i64 v5, .int .i64 v6, .int .i64 v7, .bool false]), (1, .box 25 [.int .i64 a0, .int .i64 v9, .int .i64 v10, .own 2, .own 3, .int .i64 v11, .own 4, .own 5, .own 6, .int .i64 v12, .int .i64 v13, .int .i64 v14, .bool true]), (2, .row 96 (.st 96) v15 false), (3, .row 3 (.int .i64) v16 false), (4, .row 3 (.int .i64) v17 false), (5, .row 3 (.int .i64) v18 false), (6, .row 3 (.int .i64) v19 false)], nx := 7, n := 27, pin := [] }
noncomputable def m0 (N : Nat) (a0 : Int) (a1 : List Int) (lp3 : A3 → Option R) : Option R :=
  bif (room (([] : List Int).length + a1.length) 8) then
  bif (decide (0 ≤ (7:Int))) then
  bif (room 7 8) then
  lp3 (.s0 (0:Int) (0:Int) (0:Int) (0:Int) (0:Int) (0:Int) (0:Int) (0:Int) (0:Int) (-1:Int) (0:Int) (0:Int) (0:Int) (w64 ((5:Int) + a0)) ([] : List Entry) (([] : List Int) ++ a1) ([] : List Int) (List.replicate 7 (0:Int)))
  else none
  else none
  else none
theorem run (N : Nat) (o0 : Orc E R) (a0 : Int) (a1 : List Int) : runF T (G N) live [] Try.f55 code (sp N) o0 (a0, a1, ()) = m0 N a0 a1 (fun a => o0 loop3 (K3 N o0) (St3 a0 a1 a)) := by kernel_rfl
theorem body3_0 (N : Nat) (o0 : Orc E R) (o1 : Orc E R) (q1 : St E → Option R) (a0 : Int) (a1 : List Int) (v0 : Int) (v1 : Int) (v2 : Int) (v3 : Int) (v4 : Int) (v5 : Int) (v6 : Int) (v7 : Int) (v9 : Int) (v10 : Int) (v11 : Int) (v12 : Int) (v13 : Int) (v14 : Int) (v15 : List Entry) (v16 : List Int) (v17 : List Int) (v18 : List Int) : runA T (G N) live [] o1 body3 (St3 a0 a1 (.s0 v0 v1 v2 v3 v4 v5 v6 v7 v9 v10 v11 v12 v13 v14 v15 v16 v17 v18)) (kloop [4, 5, 6] q1 (K3 N o0)) = step3 N a0 a1 (fun a => q1 (St3 a0 a1 a)) (.s0 v0 v1 v2 v3 v4 v5 v6 v7 v9 v10 v11 v12 v13 v14 v15 v16 v17 v18) := by kernel_rfl
theorem body3_1 (N : Nat) (o0 : Orc E R) (o1 : Orc E R) (q1 : St E → Option R) (a0 : Int) (a1 : List Int) (v0 : Int) (v1 : Int) (v2 : Int) (v3 : Int) (v4 : Int) (v5 : Int) (v6 : Int) (v7 : Int) (v9 : Int) (v10 : Int) (v11 : Int) (v12 : Int) (v13 : Int) (v14 : Int) (v15 : List Entry) (v16 : List Int) (v17 : List Int) (v18 : List Int) (v19 : List Int) : runA T (G N) live [] o1 body3 (St3 a0 a1 (.s1 v0 v1 v2 v3 v4 v5 v6 v7 v9 v10 v11 v12 v13 v14 v15 v16 v17 v18 v19)) (kloop [4, 5, 6] q1 (K3 N o0)) = step3 N a0 a1 (fun a => q1 (St3 a0 a1 a)) (.s1 v0 v1 v2 v3 v4 v5 v6 v7 v9 v10 v11 v12 v13 v14 v15 v16 v17 v18 v19) := by kernel_rfl
theorem lp3_eq (N : Nat) (a0 : Int) (a1 : List Int) (a : A3) : (orc T (G N) live [] N 2) loop3 (K3 N (orc T (G N) live [] N 2)) (St3 a0 a1 a) = lp3 N a0 a1 a :=
  (orc_loop (b := body3) (live := [4, 5, 6]) (by kernel_rfl)).trans (iter_eq (St3 a0 a1) _ _ (fun q1 a => by
    have hc := congrFun (congrFun (rfl : (step3 N a0 a1) = (step3 N a0 a1)) (fun a => q1 (St3 a0 a1 a))) a
    cases a with
    | s0 u0 u1 u2 u3 u4 u5 u6 u7 u8 u9 u10 u11 u12 u13 u14 u15 u16 u17 => exact (body3_0 N (orc T (G N) live [] N 2) (orc T (G N) live [] N 1) q1 a0 a1 u0 u1 u2 u3 u4 u5 u6 u7 u8 u9 u10 u11 u12 u13 u14 u15 u16 u17).trans hc
    | s1 u0 u1 u2 u3 u4 u5 u6 u7 u8 u9 u10 u11 u12 u13 u14 u15 u16 u17 u18 => exact (body3_1 N (orc T (G N) live [] N 2) (orc T (G N) live [] N 1) q1 a0 a1 u0 u1 u2 u3 u4 u5 u6 u7 u8 u9 u10 u11 u12 u13 u14 u15 u16 u17 u18).trans hc) N a)
theorem G_ok (N : Nat) : GamOK Try.prog (G N) := gam_ok (l := []) (trivial)
theorem snd (N : Nat) : Sound Try.prog E 55 (sp N) :=
  Mir.sound T_OK (G_ok N) mixed Try.func55 (c := code) (by kernel_rfl) (by kernel_rfl) (sp N) (Nat.le_of_ble_eq_true (by kernel_rfl)) live [] (by
    rintro ⟨a0, a1, _⟩ r h
    exact ⟨N, 2, ((run N _ a0 a1).trans (congrArg (m0 N a0 a1) (funext fun a => lp3_eq N a0 a1 a))).trans h⟩)
end spec_l10New
namespace spec_l11New
noncomputable def code : Code := Try.f87.body.getD .skip
abbrev live : Live := [(8, [0, 2, 3, 5, 6]), (3, [0, 2, 3, 4])]
noncomputable def G (N : Nat) : Ctx E := gam [(55, [], spec_l10New.sp N)]
noncomputable def loop3 : Code := codeAt code [1, 1, 0, 1, 0]
noncomputable def body3 : Code := codeAt loop3 [0]
noncomputable def loop8 : Code := codeAt code [1, 1, 1, 1, 0, 1, 0]
noncomputable def body8 : Code := codeAt loop8 [0]
noncomputable def K3 (N : Nat) (o0 : Orc E R) : KT E R := kAt TD (G N) live [] o0 code [1, 1, 0, 1, 0] (kfin TD Try.f87 (sp N))
noncomputable def St3 (a0 : Int) : (Int × (List Int)) → St E
  | (v1, v2) => { ρ := [(0, .c (.at (.int .i64 a0))), (2, .c (.at (.ptr 0 0))), (3, .c (.at (.own 1))), (4, .c (.at (.int .i64 v1)))], H := [(0, .box 59 [.nils, .nils, .nils, .nils]), (1, .row 3 (.int .i64) v2 false)], nx := 2, n := 36, pin := [] }
noncomputable def K8 (N : Nat) (o0 : Orc E R) : KT E R := kAt TD (G N) live [] o0 code [1, 1, 1, 1, 0, 1, 0] (kfin TD Try.f87 (sp N))
noncomputable def St8 (a0 : Int) : A8 → St E
  | .s0 v1 v2 v3 v4 v5 => { ρ := [(0, .c (.at (.int .i64 a0))), (2, .c (.at (.ptr 0 0))), (3, .c (.at (.own 1))), (5, .c (.at (.ptr 2 0))), (6, .c (.at (.int .i64 v1)))], H := [(0, .box 59 [.nils, .nils, .nils, .nils]), (1, .row 3 (.int .i64) v2 false), (2, .box 59 [.nils, .own 3, .own 5, .own 7]), (3, .drow 102 (.st 102) v3 4), (4, .hdr), (5, .drow 128 (.st 128) v4 6), (6, .hdr), (7, .row 131 (.st 131) v5 false)], nx := 8, n := 36, pin := [] }
  | .s1 v1 v2 v3 v4 v5 v6 => { ρ := [(0, .c (.at (.int .i64 a0))), (2, .c (.at (.ptr 0 0))), (3, .c (.at (.own 1))), (5, .c (.at (.ptr 2 0))), (6, .c (.at (.int .i64 v1)))], H := [(0, .box 59 [.nils, .nils, .nils, .nils]), (1, .row 3 (.int .i64) v2 false), (2, .box 59 [.own 3, .own 5, .own 7, .own 9]), (3, .drow 25 (.st 25) v3 4), (4, .hdr), (5, .drow 102 (.st 102) v4 6), (6, .hdr), (7, .drow 128 (.st 128) v5 8), (8, .hdr), (9, .row 131 (.st 131) v6 false)], nx := 10, n := 36, pin := [] }
noncomputable def m0 (N : Nat) (a0 : Int) (lp3 : Int × (List Int) → Option R) : Option R :=
  lp3 ((0:Int), ([] : List Int))
theorem run (N : Nat) (o0 : Orc E R) (a0 : Int) : runF TD (G N) live [] Try.f87 code (sp N) o0 (a0, ()) = m0 N a0 (fun a => o0 loop3 (K3 N o0) (St3 a0 a)) := by kernel_rfl
theorem body3_0 (N : Nat) (o0 : Orc E R) (o1 : Orc E R) (q1 : St E → Option R) (a0 : Int) (v1 : Int) (v2 : List Int) : runA TD (G N) live [] o1 body3 (St3 a0 (v1, v2)) (kloop [0, 2, 3, 4] q1 (K3 N o0)) = step3 N a0 (fun a => o0 loop8 (K8 N o0) (St8 a0 a)) (fun a => q1 (St3 a0 a)) (v1, v2) := by kernel_rfl
theorem body8_0 (N : Nat) (o0 : Orc E R) (o1 : Orc E R) (q1 : St E → Option R) (a0 : Int) (v1 : Int) (v2 : List Int) (v3 : List Message) (v4 : List Lead) (v5 : List Done) : runA TD (G N) live [] o1 body8 (St8 a0 (.s0 v1 v2 v3 v4 v5)) (kloop [0, 2, 3, 5, 6] q1 (K8 N o0)) = step8 N a0 (fun a => q1 (St8 a0 a)) (.s0 v1 v2 v3 v4 v5) := by kernel_rfl
theorem body8_1 (N : Nat) (o0 : Orc E R) (o1 : Orc E R) (q1 : St E → Option R) (a0 : Int) (v1 : Int) (v2 : List Int) (v3 : List Node) (v4 : List Message) (v5 : List Lead) (v6 : List Done) : runA TD (G N) live [] o1 body8 (St8 a0 (.s1 v1 v2 v3 v4 v5 v6)) (kloop [0, 2, 3, 5, 6] q1 (K8 N o0)) = step8 N a0 (fun a => q1 (St8 a0 a)) (.s1 v1 v2 v3 v4 v5 v6) := by kernel_rfl
theorem lp8_eq (N : Nat) (a0 : Int) (a : A8) : (orc TD (G N) live [] N 2) loop8 (K8 N (orc TD (G N) live [] N 2)) (St8 a0 a) = lp8 N a0 a :=
  (orc_loop (b := body8) (live := [0, 2, 3, 5, 6]) (by kernel_rfl)).trans (iter_eq (St8 a0) _ _ (fun q1 a => by
    have hc := congrFun (congrFun (rfl : (step8 N a0) = (step8 N a0)) (fun a => q1 (St8 a0 a))) a
    cases a with
    | s0 u0 u1 u2 u3 u4 => exact (body8_0 N (orc TD (G N) live [] N 2) (orc TD (G N) live [] N 1) q1 a0 u0 u1 u2 u3 u4).trans hc
    | s1 u0 u1 u2 u3 u4 u5 => exact (body8_1 N (orc TD (G N) live [] N 2) (orc TD (G N) live [] N 1) q1 a0 u0 u1 u2 u3 u4 u5).trans hc) N a)
theorem lp3_eq (N : Nat) (a0 : Int) (a : Int × (List Int)) : (orc TD (G N) live [] N 2) loop3 (K3 N (orc TD (G N) live [] N 2)) (St3 a0 a) = lp3 N a0 a :=
  (orc_loop (b := body3) (live := [0, 2, 3, 4]) (by kernel_rfl)).trans (iter_eq (St3 a0) _ _ (fun q1 a => by
    have hc := congrFun (congrFun (congrArg (step3 N a0) (funext fun a => lp8_eq N a0 a)) (fun a => q1 (St3 a0 a))) a
    obtain ⟨u0, u1⟩ := a
    exact (body3_0 N (orc TD (G N) live [] N 2) (orc TD (G N) live [] N 1) q1 a0 u0 u1).trans hc) N a)
theorem G_ok (N : Nat) : GamOK Try.prog (G N) := gam_ok (l := [(55, [], spec_l10New.sp N)]) (⟨spec_l10New.snd N, trivial⟩)
theorem snd (N : Nat) : Sound Try.prog E 87 (sp N) :=
  Mir.sound TD_OK (G_ok N) mixed Try.func87 (c := code) (by kernel_rfl) (by kernel_rfl) (sp N) (Nat.le_of_ble_eq_true (by kernel_rfl)) live [] (by
    rintro ⟨a0, _⟩ r h
    exact ⟨N, 2, ((run N _ a0).trans (congrArg (m0 N a0) (funext fun a => lp3_eq N a0 a))).trans h⟩)
end spec_l11New
namespace spec_NewGroup
noncomputable def code : Code := Try.f40.body.getD .skip
abbrev live : Live := []
noncomputable def G (N : Nat) : Ctx E := gam [(53, [], spec_l01In.sp N), (87, [], spec_l11New.sp N)]
noncomputable def m0 (N : Nat) (a0 : Int) : Option R :=
  ob (spec_l01In.m N a0 (1:Int) (5:Int)) fun y1 =>
  bif (!y1) then
    some ((Group.mk ([] : List Node) ([] : List Message) ([] : List Lead) ([] : List Done)), (4:Int))
  else
  ob (spec_l11New.m N a0) fun y2 =>
  some (y2, (0:Int))
theorem run (N : Nat) (o0 : Orc E R) (a0 : Int) : runF TD (G N) live [] Try.f40 code (sp N) o0 (a0, ()) = m0 N a0 := by kernel_rfl
theorem G_ok (N : Nat) : GamOK Try.prog (G N) := gam_ok (l := [(53, [], spec_l01In.sp N), (87, [], spec_l11New.sp N)]) (⟨spec_l01In.snd N, spec_l11New.snd N, trivial⟩)
theorem snd (N : Nat) : Sound Try.prog E 40 (sp N) :=
  Mir.sound TD_OK (G_ok N) mixed Try.func40 (c := code) (by kernel_rfl) (by kernel_rfl) (sp N) (Nat.le_of_ble_eq_true (by kernel_rfl)) live [] (by
    rintro ⟨a0, _⟩ r h
    exact ⟨N, 2, ((run N _ a0).trans rfl).trans h⟩)
end spec_NewGroup
namespace impl_within
noncomputable def code : Code := Try.f70.body.getD .skip
abbrev live : Live := []
noncomputable def G (N : Nat) : Ctx E := gam []
noncomputable def m0 (N : Nat) (a0 : Int) (a1 : Int) (a2 : Int) : Option R :=
  bif (decide (a0 ≥ a1)) then
    some (bif true then (decide (a0 ≤ a2)) else false)
  else
  some false
theorem run (N : Nat) (o0 : Orc E R) (a0 : Int) (a1 : Int) (a2 : Int) : runF T (G N) live [] Try.f70 code (sp N) o0 (a0, a1, a2, ()) = m0 N a0 a1 a2 := by kernel_rfl
theorem G_ok (N : Nat) : GamOK Try.prog (G N) := gam_ok (l := []) (trivial)
theorem snd (N : Nat) : Sound Try.prog E 70 (sp N) :=
  Mir.sound T_OK (G_ok N) mixed Try.func70 (c := code) (by kernel_rfl) (by kernel_rfl) (sp N) (Nat.le_of_ble_eq_true (by kernel_rfl)) live [] (by
    rintro ⟨a0, a1, a2, _⟩ r h
    exact ⟨N, 2, ((run N _ a0 a1 a2).trans rfl).trans h⟩)
end impl_within
namespace slices_Clone_int_int
noncomputable def code : Code := Try.f116.body.getD .skip
abbrev live : Live := []
noncomputable def G (N : Nat) : Ctx E := gam []
noncomputable def m0 (N : Nat) (a0 : List Int) : Option R :=
  amb (a0.isEmpty) true
    (some ([] : List Int))
    (bif (room (([] : List Int).length + a0.length) 8) then
    some (([] : List Int) ++ a0)
    else none)
theorem run (N : Nat) (o0 : Orc E R) (a0 : List Int) : runF T (G N) live [] Try.f116 code (sp N) o0 (a0, ()) = m0 N a0 := by kernel_rfl
theorem G_ok (N : Nat) : GamOK Try.prog (G N) := gam_ok (l := []) (trivial)
theorem snd (N : Nat) : Sound Try.prog E 116 (sp N) :=
  Mir.sound T_OK (G_ok N) mixed Try.func116 (c := code) (by kernel_rfl) (by kernel_rfl) (sp N) (Nat.le_of_ble_eq_true (by kernel_rfl)) live [] (by
    rintro ⟨a0, _⟩ r h
    exact ⟨N, 2, ((run N _ a0).trans rfl).trans h⟩)
end slices_Clone_int_int
namespace math_bits_Mul64
noncomputable def code : Code := Try.f177.body.getD .skip
abbrev live : Live := []
noncomputable def G (N : Nat) : Ctx E := gam []
noncomputable def m0 (N : Nat) (a0 : Int) (a1 : Int) : Option R :=
  bif (!decide ((32:Int) < 0)) then
  bif (!decide ((32:Int) < 0)) then
  bif (!decide ((32:Int) < 0)) then
  (let w1 : Int := (wu64 ((wu64 ((Int.fdiv a0 (2 ^ (min (Int.toNat (32:Int)) 64))) * (ibit .and .u64 a1 (4294967295:Int)))) + (Int.fdiv (wu64 ((ibit .and .u64 a0 (4294967295:Int)) * (ibit .and .u64 a1 (4294967295:Int)))) (2 ^ (min (Int.toNat (32:Int)) 64)))))
  bif (!decide ((32:Int) < 0)) then
  (let w2 : Int := (wu64 ((ibit .and .u64 w1 (4294967295:Int)) + (wu64 ((ibit .and .u64 a0 (4294967295:Int)) * (Int.fdiv a1 (2 ^ (min (Int.toNat (32:Int)) 64)))))))
  (let w3 : Int := (wu64 ((wu64 ((Int.fdiv a0 (2 ^ (min (Int.toNat (32:Int)) 64))) * (Int.fdiv a1 (2 ^ (min (Int.toNat (32:Int)) 64))))) + (Int.fdiv w1 (2 ^ (min (Int.toNat (32:Int)) 64)))))
  bif (!decide ((32:Int) < 0)) then
  some ((wu64 (w3 + (Int.fdiv w2 (2 ^ (min (Int.toNat (32:Int)) 64))))), (wu64 (a0 * a1)))
  else none))
  else none)
  else none
  else none
  else none
theorem run (N : Nat) (o0 : Orc E R) (a0 : Int) (a1 : Int) : runF T (G N) live [] Try.f177 code (sp N) o0 (a0, a1, ()) = m0 N a0 a1 := by kernel_rfl
theorem G_ok (N : Nat) : GamOK Try.prog (G N) := gam_ok (l := []) (trivial)
theorem snd (N : Nat) : Sound Try.prog E 177 (sp N) :=
  Mir.sound T_OK (G_ok N) mixed Try.func177 (c := code) (by kernel_rfl) (by kernel_rfl) (sp N) (Nat.le_of_ble_eq_true (by kernel_rfl)) live [] (by
    rintro ⟨a0, a1, _⟩ r h
    exact ⟨N, 2, ((run N _ a0 a1).trans rfl).trans h⟩)
end math_bits_Mul64
namespace math_bits_Mul
noncomputable def code : Code := Try.f171.body.getD .skip
abbrev live : Live := []
noncomputable def G (N : Nat) : Ctx E := gam [(177, [], math_bits_Mul64.sp N)]
noncomputable def m0 (N : Nat) (a0 : Int) (a1 : Int) : Option R :=
  ob (math_bits_Mul64.m N a0 a1) fun y1 =>
  some (y1.1, y1.2)
theorem run (N : Nat) (o0 : Orc E R) (a0 : Int) (a1 : Int) : runF T (G N) live [] Try.f171 code (sp N) o0 (a0, a1, ()) = m0 N a0 a1 := by kernel_rfl
theorem G_ok (N : Nat) : GamOK Try.prog (G N) := gam_ok (l := [(177, [], math_bits_Mul64.sp N)]) (⟨math_bits_Mul64.snd N, trivial⟩)
theorem snd (N : Nat) : Sound Try.prog E 171 (sp N) :=
  Mir.sound T_OK (G_ok N) mixed Try.func171 (c := code) (by kernel_rfl) (by kernel_rfl) (sp N) (Nat.le_of_ble_eq_true (by kernel_rfl)) live [] (by
    rintro ⟨a0, a1, _⟩ r h
    exact ⟨N, 2, ((run N _ a0 a1).trans rfl).trans h⟩)
end math_bits_Mul
namespace slices_Repeat_int_int
noncomputable def code : Code := Try.f155.body.getD .skip
abbrev live : Live := [(8, [7, 8])]
noncomputable def G (N : Nat) : Ctx E := gam [(171, [], math_bits_Mul.sp N)]
noncomputable def loop8 : Code := codeAt code [1, 1, 1, 1, 1, 1, 0, 0]
noncomputable def body8 : Code := codeAt loop8 [0]
noncomputable def K8 (N : Nat) (o0 : Orc E R) : KT E R := kAt T (G N) live [] o0 code [1, 1, 1, 1, 1, 1, 0, 0] (kfin T Try.f155 (sp N))
noncomputable def St8 (a0 : List Int) (a1 : Int) : (Int × (List Int)) → St E
  | (v0, v1) => { ρ := [(7, .c (.at (.own 0))), (8, .c (.at (.int .i64 v0)))], H := [(0, .row 3 (.int .i64) v1 false)], nx := 1, n := 48, pin := [] }
noncomputable def m0 (N : Nat) (a0 : List Int) (a1 : Int) (lp8 : Int × (List Int) → Option R) : Option R :=
  bif (decide (a1 < (0:Int))) then
    none
  else
  ob (math_bits_Mul.m N (wu64 (a0.length : Int)) (wu64 a1)) fun y1 =>
  bif (decide (y1.1 > (0:Int))) then
    none
  else
  bif (bif false then true else (decide (y1.2 > (9223372036854775807:Int)))) then
    none
  else
  bif (decide (0 ≤ (w64 y1.2))) then
  bif (room (Int.toNat (w64 y1.2)) 8) then
  (let w2 : List Int := ((List.replicate (Int.toNat (w64 y1.2)) (0:Int)).take 0 ++ (a0.take ((List.replicate (Int.toNat (w64 y1.2)) (0:Int)).length) ++ (List.replicate (Int.toNat (w64 y1.2)) (0:Int)).drop (0 + (min a0.length ((List.replicate (Int.toNat (w64 y1.2)) (0:Int)).length) : Nat))))
  lp8 (((min a0.length ((List.replicate (Int.toNat (w64 y1.2)) (0:Int)).length) : Nat) : Int), w2))
  else none
  else none
theorem run (N : Nat) (o0 : Orc E R) (a0 : List Int) (a1 : Int) : runF T (G N) live [] Try.f155 code (sp N) o0 (a0, a1, ()) = m0 N a0 a1 (fun a => o0 loop8 (K8 N o0) (St8 a0 a1 a)) := by kernel_rfl
theorem body8_0 (N : Nat) (o0 : Orc E R) (o1 : Orc E R) (q1 : St E → Option R) (a0 : List Int) (a1 : Int) (v0 : Int) (v1 : List Int) : runA T (G N) live [] o1 body8 (St8 a0 a1 (v0, v1)) (kloop [7, 8] q1 (K8 N o0)) = step8 N a0 a1 (fun a => q1 (St8 a0 a1 a)) (v0, v1) := by kernel_rfl
theorem lp8_eq (N : Nat) (a0 : List Int) (a1 : Int) (a : Int × (List Int)) : (orc T (G N) live [] N 2) loop8 (K8 N (orc T (G N) live [] N 2)) (St8 a0 a1 a) = lp8 N a0 a1 a :=
  (orc_loop (b := body8) (live := [7, 8]) (by kernel_rfl)).trans (iter_eq (St8 a0 a1) _ _ (fun q1 a => by
    have hc := congrFun (congrFun (rfl : (step8 N a0 a1) = (step8 N a0 a1)) (fun a => q1 (St8 a0 a1 a))) a
    obtain ⟨u0, u1⟩ := a
    exact (body8_0 N (orc T (G N) live [] N 2) (orc T (G N) live [] N 1) q1 a0 a1 u0 u1).trans hc) N a)
theorem G_ok (N : Nat) : GamOK Try.prog (G N) := gam_ok (l := [(171, [], math_bits_Mul.sp N)]) (⟨math_bits_Mul.snd N, trivial⟩)
theorem snd (N : Nat) : Sound Try.prog E 155 (sp N) :=
  Mir.sound T_OK (G_ok N) mixed Try.func155 (c := code) (by kernel_rfl) (by kernel_rfl) (sp N) (Nat.le_of_ble_eq_true (by kernel_rfl)) live [] (by
    rintro ⟨a0, a1, _⟩ r h
    exact ⟨N, 2, ((run N _ a0 a1).trans (congrArg (m0 N a0 a1) (funext fun a => lp8_eq N a0 a1 a))).trans h⟩)
end slices_Repeat_int_int
namespace impl_Node_follow
noncomputable def code : Code := Try.f117.body.getD .skip
abbrev live : Live := []
noncomputable def G (N : Nat) : Ctx E := gam [(155, [], slices_Repeat_int_int.sp N)]
noncomputable def m0 (N : Nat) (a0 : Node) : Option R :=
  ob (slices_Repeat_int_int.m N ([(1:Int)]) (7:Int)) fun y1 =>
  bif (decide (0 ≤ (7:Int))) then
  bif (room 7 8) then
  some (Node.mk a0.Id a0.Term a0.Vote a0.Log a0.Start (0:Int) ([] : List Int) y1 (List.replicate 7 (0:Int)) a0.Commit a0.Elapsed a0.Wait a0.Up)
  else none
  else none
theorem run (N : Nat) (o0 : Orc E R) (a0 : Node) : runF T (G N) live [] Try.f117 code (sp N) o0 (a0, ()) = m0 N a0 := by kernel_rfl
theorem G_ok (N : Nat) : GamOK Try.prog (G N) := gam_ok (l := [(155, [], slices_Repeat_int_int.sp N)]) (⟨slices_Repeat_int_int.snd N, trivial⟩)
theorem snd (N : Nat) : Sound Try.prog E 117 (sp N) :=
  Mir.sound T_OK (G_ok N) mixed Try.func117 (c := code) (by kernel_rfl) (by kernel_rfl) (sp N) (Nat.le_of_ble_eq_true (by kernel_rfl)) live [] (by
    rintro ⟨a0, _⟩ r h
    exact ⟨N, 2, ((run N _ a0).trans rfl).trans h⟩)
end impl_Node_follow
namespace impl_newNode
noncomputable def code : Code := Try.f59.body.getD .skip
abbrev live : Live := []
noncomputable def G (N : Nat) : Ctx E := gam [(116, [], slices_Clone_int_int.sp N), (117, [], impl_Node_follow.sp N)]
noncomputable def m0 (N : Nat) (a0 : Int) (a1 : List Int) : Option R :=
  ob (slices_Clone_int_int.m N a1) fun y1 =>
  ob (impl_Node_follow.m N (Node.mk a0 (0:Int) (-1:Int) ([] : List Entry) y1 (0:Int) ([] : List Int) ([] : List Int) ([] : List Int) (0:Int) (0:Int) (w64 ((5:Int) + a0)) true)) fun y2 =>
  some y2
theorem run (N : Nat) (o0 : Orc E R) (a0 : Int) (a1 : List Int) : runF T (G N) live [] Try.f59 code (sp N) o0 (a0, a1, ()) = m0 N a0 a1 := by kernel_rfl
theorem G_ok (N : Nat) : GamOK Try.prog (G N) := gam_ok (l := [(116, [], slices_Clone_int_int.sp N), (117, [], impl_Node_follow.sp N)]) (⟨slices_Clone_int_int.snd N, impl_Node_follow.snd N, trivial⟩)
theorem snd (N : Nat) : Sound Try.prog E 59 (sp N) :=
  Mir.sound T_OK (G_ok N) mixed Try.func59 (c := code) (by kernel_rfl) (by kernel_rfl) (sp N) (Nat.le_of_ble_eq_true (by kernel_rfl)) live [] (by
    rintro ⟨a0, a1, _⟩ r h
    exact ⟨N, 2, ((run N _ a0 a1).trans rfl).trans h⟩)
end impl_newNode
namespace impl_NewGroup
noncomputable def code : Code := Try.f41.body.getD .skip
abbrev live : Live := [(10, [2, 4, 5, 24, 25]), (5, [0, 2, 4, 5, 15, 16])]
noncomputable def G (N : Nat) : Ctx E := gam [(70, [], impl_within.sp N), (59, [], impl_newNode.sp N)]
noncomputable def loop5 : Code := codeAt code [1, 1, 1, 0, 1, 0]
noncomputable def body5 : Code := codeAt loop5 [0]
noncomputable def loop10 : Code := codeAt code [1, 1, 1, 1, 0, 1, 0]
noncomputable def body10 : Code := codeAt loop10 [0]
noncomputable def K5 (N : Nat) (o0 : Orc E R) : KT E R := kAt TD (G N) live [] o0 code [1, 1, 1, 0, 1, 0] (kfin TD Try.f41 (sp N))
noncomputable def St5 (a0 : Int) : (Int × Int × (List Int)) → St E
  | (v1, v2, v3) => { ρ := [(0, .c (.at (.int .i64 a0))), (2, .c (.at (.ptr 0 0))), (4, .c (.at (.ptr 1 0))), (5, .c (.at (.own 2))), (15, .c (.at (.int .i64 v1))), (16, .c (.at (.int .i64 v2)))], H := [(0, .box 59 [.nils, .nils, .nils, .nils]), (1, .box 59 [.nils, .nils, .nils, .nils]), (2, .row 3 (.int .i64) v3 false)], nx := 3, n := 38, pin := [] }
noncomputable def K10 (N : Nat) (o0 : Orc E R) : KT E R := kAt TD (G N) live [] o0 code [1, 1, 1, 1, 0, 1, 0] (kfin TD Try.f41 (sp N))
noncomputable def St10 (a0 : Int) : A10 → St E
  | .s0 v1 v2 => { ρ := [(2, .c (.at (.ptr 0 0))), (4, .c (.at (.ptr 1 0))), (5, .c (.at (.own 2))), (24, .c (.at (.int .i64 a0))), (25, .c (.at (.int .i64 v1)))], H := [(0, .box 59 [.nils, .nils, .nils, .nils]), (1, .box 59 [.nils, .nils, .nils, .nils]), (2, .row 3 (.int .i64) v2 false)], nx := 3, n := 38, pin := [] }
  | .s1 v1 v2 v3 => { ρ := [(2, .c (.at (.ptr 0 0))), (4, .c (.at (.ptr 1 0))), (5, .c (.at (.own 4))), (24, .c (.at (.int .i64 a0))), (25, .c (.at (.int .i64 v1)))], H := [(0, .box 59 [.nils, .nils, .nils, .nils]), (1, .box 59 [.own 2, .nils, .nils, .nils]), (2, .drow 25 (.st 25) v2 3), (3, .hdr), (4, .row 3 (.int .i64) v3 false)], nx := 5, n := 38, pin := [] }
noncomputable def m0 (N : Nat) (a0 : Int) (lp5 : Int × Int × (List Int) → Option R) : Option R :=
  ob (impl_within.m N a0 (1:Int) (5:Int)) fun y1 =>
  bif (!y1) then
    some ((Group.mk ([] : List Node) ([] : List Message) ([] : List Lead) ([] : List Done)), (4:Int))
  else
  lp5 ((if a0 < (3:Int) then a0 else (3:Int)), (0:Int), ([] : List Int))
theorem run (N : Nat) (o0 : Orc E R) (a0 : Int) : runF TD (G N) live [] Try.f41 code (sp N) o0 (a0, ()) = m0 N a0 (fun a => o0 loop5 (K5 N o0) (St5 a0 a)) := by kernel_rfl
theorem body5_0 (N : Nat) (o0 : Orc E R) (o1 : Orc E R) (q1 : St E → Option R) (a0 : Int) (v1 : Int) (v2 : Int) (v3 : List Int) : runA TD (G N) live [] o1 body5 (St5 a0 (v1, v2, v3)) (kloop [0, 2, 4, 5, 15, 16] q1 (K5 N o0)) = step5 N a0 (fun a => o0 loop10 (K10 N o0) (St10 a0 a)) (fun a => q1 (St5 a0 a)) (v1, v2, v3) := by kernel_rfl
theorem body10_0 (N : Nat) (o0 : Orc E R) (o1 : Orc E R) (q1 : St E → Option R) (a0 : Int) (v1 : Int) (v2 : List Int) : runA TD (G N) live [] o1 body10 (St10 a0 (.s0 v1 v2)) (kloop [2, 4, 5, 24, 25] q1 (K10 N o0)) = step10 N a0 (fun a => q1 (St10 a0 a)) (.s0 v1 v2) := by kernel_rfl
theorem body10_1 (N : Nat) (o0 : Orc E R) (o1 : Orc E R) (q1 : St E → Option R) (a0 : Int) (v1 : Int) (v2 : List Node) (v3 : List Int) : runA TD (G N) live [] o1 body10 (St10 a0 (.s1 v1 v2 v3)) (kloop [2, 4, 5, 24, 25] q1 (K10 N o0)) = step10 N a0 (fun a => q1 (St10 a0 a)) (.s1 v1 v2 v3) := by kernel_rfl
theorem lp10_eq (N : Nat) (a0 : Int) (a : A10) : (orc TD (G N) live [] N 2) loop10 (K10 N (orc TD (G N) live [] N 2)) (St10 a0 a) = lp10 N a0 a :=
  (orc_loop (b := body10) (live := [2, 4, 5, 24, 25]) (by kernel_rfl)).trans (iter_eq (St10 a0) _ _ (fun q1 a => by
    have hc := congrFun (congrFun (rfl : (step10 N a0) = (step10 N a0)) (fun a => q1 (St10 a0 a))) a
    cases a with
    | s0 u0 u1 => exact (body10_0 N (orc TD (G N) live [] N 2) (orc TD (G N) live [] N 1) q1 a0 u0 u1).trans hc
    | s1 u0 u1 u2 => exact (body10_1 N (orc TD (G N) live [] N 2) (orc TD (G N) live [] N 1) q1 a0 u0 u1 u2).trans hc) N a)
theorem lp5_eq (N : Nat) (a0 : Int) (a : Int × Int × (List Int)) : (orc TD (G N) live [] N 2) loop5 (K5 N (orc TD (G N) live [] N 2)) (St5 a0 a) = lp5 N a0 a :=
  (orc_loop (b := body5) (live := [0, 2, 4, 5, 15, 16]) (by kernel_rfl)).trans (iter_eq (St5 a0) _ _ (fun q1 a => by
    have hc := congrFun (congrFun (congrArg (step5 N a0) (funext fun a => lp10_eq N a0 a)) (fun a => q1 (St5 a0 a))) a
    obtain ⟨u0, u1, u2⟩ := a
    exact (body5_0 N (orc TD (G N) live [] N 2) (orc TD (G N) live [] N 1) q1 a0 u0 u1 u2).trans hc) N a)
theorem G_ok (N : Nat) : GamOK Try.prog (G N) := gam_ok (l := [(70, [], impl_within.sp N), (59, [], impl_newNode.sp N)]) (⟨impl_within.snd N, impl_newNode.snd N, trivial⟩)
theorem snd (N : Nat) : Sound Try.prog E 41 (sp N) :=
  Mir.sound TD_OK (G_ok N) mixed Try.func41 (c := code) (by kernel_rfl) (by kernel_rfl) (sp N) (Nat.le_of_ble_eq_true (by kernel_rfl)) live [] (by
    rintro ⟨a0, _⟩ r h
    exact ⟨N, 2, ((run N _ a0).trans (congrArg (m0 N a0) (funext fun a => lp5_eq N a0 a))).trans h⟩)
end impl_NewGroup
namespace laws_eqEntry
noncomputable def code : Code := Try.f118.body.getD .skip
abbrev live : Live := []
noncomputable def G (N : Nat) : Ctx E := gam []
noncomputable def m0 (N : Nat) (a0 : Entry) (a1 : Entry) : Option R :=
  bif (a0.Term != a1.Term) then
    some false
  else
  bif (a0.Kind != a1.Kind) then
    some false
  else
  bif (!seq a0.Data a1.Data) then
    some false
  else
  some true
theorem run (N : Nat) (o0 : Orc E R) (a0 : Entry) (a1 : Entry) : runF T (G N) live [] Try.f118 code (sp N) o0 (a0, a1, ()) = m0 N a0 a1 := by kernel_rfl
theorem G_ok (N : Nat) : GamOK Try.prog (G N) := gam_ok (l := []) (trivial)
theorem snd (N : Nat) : Sound Try.prog E 118 (sp N) :=
  Mir.sound T_OK (G_ok N) mixed Try.func118 (c := code) (by kernel_rfl) (by kernel_rfl) (sp N) (Nat.le_of_ble_eq_true (by kernel_rfl)) live [] (by
    rintro ⟨a0, a1, _⟩ r h
    exact ⟨N, 2, ((run N _ a0 a1).trans rfl).trans h⟩)
end laws_eqEntry
namespace laws_eqEntryS
noncomputable def code : Code := Try.f60.body.getD .skip
abbrev live : Live := [(4, [0, 1, 5])]
noncomputable def G (N : Nat) : Ctx E := gam [(118, [], laws_eqEntry.sp N)]
noncomputable def loop4 : Code := codeAt code [1, 1, 0, 1, 0]
noncomputable def body4 : Code := codeAt loop4 [0]
noncomputable def K4 (N : Nat) (o0 : Orc E R) : KT E R := kAt T (G N) live [] o0 code [1, 1, 0, 1, 0] (kfin T Try.f60 (sp N))
noncomputable def St4 (a0 : List Entry) (a1 : List Entry) : Int → St E
  | v2 => { ρ := [(0, .c (.at (.ro 96 (.st 96) a0))), (1, .c (.at (.ro 96 (.st 96) a1))), (5, .c (.at (.int .i64 v2)))], H := [], nx := 0, n := 27, pin := [] }
noncomputable def m0 (N : Nat) (a0 : List Entry) (a1 : List Entry) (lp4 : Int → Option R) : Option R :=
  bif ((a0.length : Int) != (a1.length : Int)) then
    some false
  else
  lp4 (0:Int)
theorem run (N : Nat) (o0 : Orc E R) (a0 : List Entry) (a1 : List Entry) : runF T (G N) live [] Try.f60 code (sp N) o0 (a0, a1, ()) = m0 N a0 a1 (fun a => o0 loop4 (K4 N o0) (St4 a0 a1 a)) := by kernel_rfl
theorem body4_0 (N : Nat) (o0 : Orc E R) (o1 : Orc E R) (q1 : St E → Option R) (a0 : List Entry) (a1 : List Entry) (v2 : Int) : runA T (G N) live [] o1 body4 (St4 a0 a1 v2) (kloop [0, 1, 5] q1 (K4 N o0)) = step4 N a0 a1 (fun a => q1 (St4 a0 a1 a)) v2 := by kernel_rfl
theorem lp4_eq (N : Nat) (a0 : List Entry) (a1 : List Entry) (a : Int) : (orc T (G N) live [] N 2) loop4 (K4 N (orc T (G N) live [] N 2)) (St4 a0 a1 a) = lp4 N a0 a1 a :=
  (orc_loop (b := body4) (live := [0, 1, 5]) (by kernel_rfl)).trans (iter_eq (St4 a0 a1) _ _ (fun q1 a => by
    have hc := congrFun (congrFun (rfl : (step4 N a0 a1) = (step4 N a0 a1)) (fun a => q1 (St4 a0 a1 a))) a
    exact (body4_0 N (orc T (G N) live [] N 2) (orc T (G N) live [] N 1) q1 a0 a1 a).trans hc) N a)
theorem G_ok (N : Nat) : GamOK Try.prog (G N) := gam_ok (l := [(118, [], laws_eqEntry.sp N)]) (⟨laws_eqEntry.snd N, trivial⟩)
theorem snd (N : Nat) : Sound Try.prog E 60 (sp N) :=
  Mir.sound T_OK (G_ok N) mixed Try.func60 (c := code) (by kernel_rfl) (by kernel_rfl) (sp N) (Nat.le_of_ble_eq_true (by kernel_rfl)) live [] (by
    rintro ⟨a0, a1, _⟩ r h
    exact ⟨N, 2, ((run N _ a0 a1).trans (congrArg (m0 N a0 a1) (funext fun a => lp4_eq N a0 a1 a))).trans h⟩)
end laws_eqEntryS
namespace laws_eqIntS
noncomputable def code : Code := Try.f18.body.getD .skip
abbrev live : Live := [(4, [0, 1, 5])]
noncomputable def G (N : Nat) : Ctx E := gam []
noncomputable def loop4 : Code := codeAt code [1, 1, 0, 1, 0]
noncomputable def body4 : Code := codeAt loop4 [0]
noncomputable def K4 (N : Nat) (o0 : Orc E R) : KT E R := kAt T (G N) live [] o0 code [1, 1, 0, 1, 0] (kfin T Try.f18 (sp N))
noncomputable def St4 (a0 : List Int) (a1 : List Int) : Int → St E
  | v2 => { ρ := [(0, .c (.at (.ro 3 (.int .i64) a0))), (1, .c (.at (.ro 3 (.int .i64) a1))), (5, .c (.at (.int .i64 v2)))], H := [], nx := 0, n := 26, pin := [] }
noncomputable def m0 (N : Nat) (a0 : List Int) (a1 : List Int) (lp4 : Int → Option R) : Option R :=
  bif ((a0.length : Int) != (a1.length : Int)) then
    some false
  else
  lp4 (0:Int)
theorem run (N : Nat) (o0 : Orc E R) (a0 : List Int) (a1 : List Int) : runF T (G N) live [] Try.f18 code (sp N) o0 (a0, a1, ()) = m0 N a0 a1 (fun a => o0 loop4 (K4 N o0) (St4 a0 a1 a)) := by kernel_rfl
theorem body4_0 (N : Nat) (o0 : Orc E R) (o1 : Orc E R) (q1 : St E → Option R) (a0 : List Int) (a1 : List Int) (v2 : Int) : runA T (G N) live [] o1 body4 (St4 a0 a1 v2) (kloop [0, 1, 5] q1 (K4 N o0)) = step4 N a0 a1 (fun a => q1 (St4 a0 a1 a)) v2 := by kernel_rfl
theorem lp4_eq (N : Nat) (a0 : List Int) (a1 : List Int) (a : Int) : (orc T (G N) live [] N 2) loop4 (K4 N (orc T (G N) live [] N 2)) (St4 a0 a1 a) = lp4 N a0 a1 a :=
  (orc_loop (b := body4) (live := [0, 1, 5]) (by kernel_rfl)).trans (iter_eq (St4 a0 a1) _ _ (fun q1 a => by
    have hc := congrFun (congrFun (rfl : (step4 N a0 a1) = (step4 N a0 a1)) (fun a => q1 (St4 a0 a1 a))) a
    exact (body4_0 N (orc T (G N) live [] N 2) (orc T (G N) live [] N 1) q1 a0 a1 a).trans hc) N a)
theorem G_ok (N : Nat) : GamOK Try.prog (G N) := gam_ok (l := []) (trivial)
theorem snd (N : Nat) : Sound Try.prog E 18 (sp N) :=
  Mir.sound T_OK (G_ok N) mixed Try.func18 (c := code) (by kernel_rfl) (by kernel_rfl) (sp N) (Nat.le_of_ble_eq_true (by kernel_rfl)) live [] (by
    rintro ⟨a0, a1, _⟩ r h
    exact ⟨N, 2, ((run N _ a0 a1).trans (congrArg (m0 N a0 a1) (funext fun a => lp4_eq N a0 a1 a))).trans h⟩)
end laws_eqIntS
namespace laws_eqNode
noncomputable def code : Code := Try.f17.body.getD .skip
abbrev live : Live := []
noncomputable def G (N : Nat) : Ctx E := gam [(60, [], laws_eqEntryS.sp N), (18, [], laws_eqIntS.sp N)]
noncomputable def m0 (N : Nat) (a0 : Node) (a1 : Node) : Option R :=
  bif (a0.Id != a1.Id) then
    some false
  else
  bif (a0.Term != a1.Term) then
    some false
  else
  bif (a0.Vote != a1.Vote) then
    some false
  else
  ob (laws_eqEntryS.m N a0.Log a1.Log) fun y1 =>
  bif (!y1) then
    some false
  else
  ob (laws_eqIntS.m N a0.Start a1.Start) fun y2 =>
  bif (!y2) then
    some false
  else
  bif (a0.Role != a1.Role) then
    some false
  else
  ob (laws_eqIntS.m N a0.Votes a1.Votes) fun y3 =>
  bif (!y3) then
    some false
  else
  ob (laws_eqIntS.m N a0.Next a1.Next) fun y4 =>
  bif (!y4) then
    some false
  else
  ob (laws_eqIntS.m N a0.Match a1.Match) fun y5 =>
  bif (!y5) then
    some false
  else
  bif (a0.Commit != a1.Commit) then
    some false
  else
  bif (a0.Elapsed != a1.Elapsed) then
    some false
  else
  bif (a0.Wait != a1.Wait) then
    some false
  else
  bif (!(a0.Up == a1.Up)) then
    some false
  else
  some true
theorem run (N : Nat) (o0 : Orc E R) (a0 : Node) (a1 : Node) : runF T (G N) live [] Try.f17 code (sp N) o0 (a0, a1, ()) = m0 N a0 a1 := by kernel_rfl
theorem G_ok (N : Nat) : GamOK Try.prog (G N) := gam_ok (l := [(60, [], laws_eqEntryS.sp N), (18, [], laws_eqIntS.sp N)]) (⟨laws_eqEntryS.snd N, laws_eqIntS.snd N, trivial⟩)
theorem snd (N : Nat) : Sound Try.prog E 17 (sp N) :=
  Mir.sound T_OK (G_ok N) mixed Try.func17 (c := code) (by kernel_rfl) (by kernel_rfl) (sp N) (Nat.le_of_ble_eq_true (by kernel_rfl)) live [] (by
    rintro ⟨a0, a1, _⟩ r h
    exact ⟨N, 2, ((run N _ a0 a1).trans rfl).trans h⟩)
end laws_eqNode
namespace laws_eqNodeS
noncomputable def code : Code := Try.f88.body.getD .skip
abbrev live : Live := [(4, [0, 1, 5])]
noncomputable def G (N : Nat) : Ctx E := gam [(17, [], laws_eqNode.sp N)]
noncomputable def loop4 : Code := codeAt code [1, 1, 0, 1, 0]
noncomputable def body4 : Code := codeAt loop4 [0]
noncomputable def K4 (N : Nat) (o0 : Orc E R) : KT E R := kAt T (G N) live [] o0 code [1, 1, 0, 1, 0] (kfin T Try.f88 (sp N))
noncomputable def St4 (a0 : List Node) (a1 : List Node) : Int → St E
  | v2 => { ρ := [(0, .c (.at (.ro 25 (.st 25) a0))), (1, .c (.at (.ro 25 (.st 25) a1))), (5, .c (.at (.int .i64 v2)))], H := [], nx := 0, n := 27, pin := [] }
noncomputable def m0 (N : Nat) (a0 : List Node) (a1 : List Node) (lp4 : Int → Option R) : Option R :=
  bif ((a0.length : Int) != (a1.length : Int)) then
    some false
  else
  lp4 (0:Int)
theorem run (N : Nat) (o0 : Orc E R) (a0 : List Node) (a1 : List Node) : runF T (G N) live [] Try.f88 code (sp N) o0 (a0, a1, ()) = m0 N a0 a1 (fun a => o0 loop4 (K4 N o0) (St4 a0 a1 a)) := by kernel_rfl
theorem body4_0 (N : Nat) (o0 : Orc E R) (o1 : Orc E R) (q1 : St E → Option R) (a0 : List Node) (a1 : List Node) (v2 : Int) : runA T (G N) live [] o1 body4 (St4 a0 a1 v2) (kloop [0, 1, 5] q1 (K4 N o0)) = step4 N a0 a1 (fun a => q1 (St4 a0 a1 a)) v2 := by kernel_rfl
theorem lp4_eq (N : Nat) (a0 : List Node) (a1 : List Node) (a : Int) : (orc T (G N) live [] N 2) loop4 (K4 N (orc T (G N) live [] N 2)) (St4 a0 a1 a) = lp4 N a0 a1 a :=
  (orc_loop (b := body4) (live := [0, 1, 5]) (by kernel_rfl)).trans (iter_eq (St4 a0 a1) _ _ (fun q1 a => by
    have hc := congrFun (congrFun (rfl : (step4 N a0 a1) = (step4 N a0 a1)) (fun a => q1 (St4 a0 a1 a))) a
    exact (body4_0 N (orc T (G N) live [] N 2) (orc T (G N) live [] N 1) q1 a0 a1 a).trans hc) N a)
theorem G_ok (N : Nat) : GamOK Try.prog (G N) := gam_ok (l := [(17, [], laws_eqNode.sp N)]) (⟨laws_eqNode.snd N, trivial⟩)
theorem snd (N : Nat) : Sound Try.prog E 88 (sp N) :=
  Mir.sound T_OK (G_ok N) mixed Try.func88 (c := code) (by kernel_rfl) (by kernel_rfl) (sp N) (Nat.le_of_ble_eq_true (by kernel_rfl)) live [] (by
    rintro ⟨a0, a1, _⟩ r h
    exact ⟨N, 2, ((run N _ a0 a1).trans (congrArg (m0 N a0 a1) (funext fun a => lp4_eq N a0 a1 a))).trans h⟩)
end laws_eqNodeS
namespace laws_eqMessage
noncomputable def code : Code := Try.f82.body.getD .skip
abbrev live : Live := []
noncomputable def G (N : Nat) : Ctx E := gam [(60, [], laws_eqEntryS.sp N)]
noncomputable def m0 (N : Nat) (a0 : Message) (a1 : Message) : Option R :=
  bif (a0.Kind != a1.Kind) then
    some false
  else
  bif (a0.From != a1.From) then
    some false
  else
  bif (a0.To != a1.To) then
    some false
  else
  bif (a0.Term != a1.Term) then
    some false
  else
  bif (a0.Index != a1.Index) then
    some false
  else
  bif (a0.LogTerm != a1.LogTerm) then
    some false
  else
  bif (a0.Commit != a1.Commit) then
    some false
  else
  ob (laws_eqEntryS.m N a0.Entries a1.Entries) fun y1 =>
  bif (!y1) then
    some false
  else
  bif (!(a0.Ok == a1.Ok)) then
    some false
  else
  some true
theorem run (N : Nat) (o0 : Orc E R) (a0 : Message) (a1 : Message) : runF T (G N) live [] Try.f82 code (sp N) o0 (a0, a1, ()) = m0 N a0 a1 := by kernel_rfl
theorem G_ok (N : Nat) : GamOK Try.prog (G N) := gam_ok (l := [(60, [], laws_eqEntryS.sp N)]) (⟨laws_eqEntryS.snd N, trivial⟩)
theorem snd (N : Nat) : Sound Try.prog E 82 (sp N) :=
  Mir.sound T_OK (G_ok N) mixed Try.func82 (c := code) (by kernel_rfl) (by kernel_rfl) (sp N) (Nat.le_of_ble_eq_true (by kernel_rfl)) live [] (by
    rintro ⟨a0, a1, _⟩ r h
    exact ⟨N, 2, ((run N _ a0 a1).trans rfl).trans h⟩)
end laws_eqMessage
namespace laws_eqMessageS
noncomputable def code : Code := Try.f35.body.getD .skip
abbrev live : Live := [(4, [0, 1, 5])]
noncomputable def G (N : Nat) : Ctx E := gam [(82, [], laws_eqMessage.sp N)]
noncomputable def loop4 : Code := codeAt code [1, 1, 0, 1, 0]
noncomputable def body4 : Code := codeAt loop4 [0]
noncomputable def K4 (N : Nat) (o0 : Orc E R) : KT E R := kAt T (G N) live [] o0 code [1, 1, 0, 1, 0] (kfin T Try.f35 (sp N))
noncomputable def St4 (a0 : List Message) (a1 : List Message) : Int → St E
  | v2 => { ρ := [(0, .c (.at (.ro 102 (.st 102) a0))), (1, .c (.at (.ro 102 (.st 102) a1))), (5, .c (.at (.int .i64 v2)))], H := [], nx := 0, n := 27, pin := [] }
noncomputable def m0 (N : Nat) (a0 : List Message) (a1 : List Message) (lp4 : Int → Option R) : Option R :=
  bif ((a0.length : Int) != (a1.length : Int)) then
    some false
  else
  lp4 (0:Int)
theorem run (N : Nat) (o0 : Orc E R) (a0 : List Message) (a1 : List Message) : runF T (G N) live [] Try.f35 code (sp N) o0 (a0, a1, ()) = m0 N a0 a1 (fun a => o0 loop4 (K4 N o0) (St4 a0 a1 a)) := by kernel_rfl
theorem body4_0 (N : Nat) (o0 : Orc E R) (o1 : Orc E R) (q1 : St E → Option R) (a0 : List Message) (a1 : List Message) (v2 : Int) : runA T (G N) live [] o1 body4 (St4 a0 a1 v2) (kloop [0, 1, 5] q1 (K4 N o0)) = step4 N a0 a1 (fun a => q1 (St4 a0 a1 a)) v2 := by kernel_rfl
theorem lp4_eq (N : Nat) (a0 : List Message) (a1 : List Message) (a : Int) : (orc T (G N) live [] N 2) loop4 (K4 N (orc T (G N) live [] N 2)) (St4 a0 a1 a) = lp4 N a0 a1 a :=
  (orc_loop (b := body4) (live := [0, 1, 5]) (by kernel_rfl)).trans (iter_eq (St4 a0 a1) _ _ (fun q1 a => by
    have hc := congrFun (congrFun (rfl : (step4 N a0 a1) = (step4 N a0 a1)) (fun a => q1 (St4 a0 a1 a))) a
    exact (body4_0 N (orc T (G N) live [] N 2) (orc T (G N) live [] N 1) q1 a0 a1 a).trans hc) N a)
theorem G_ok (N : Nat) : GamOK Try.prog (G N) := gam_ok (l := [(82, [], laws_eqMessage.sp N)]) (⟨laws_eqMessage.snd N, trivial⟩)
theorem snd (N : Nat) : Sound Try.prog E 35 (sp N) :=
  Mir.sound T_OK (G_ok N) mixed Try.func35 (c := code) (by kernel_rfl) (by kernel_rfl) (sp N) (Nat.le_of_ble_eq_true (by kernel_rfl)) live [] (by
    rintro ⟨a0, a1, _⟩ r h
    exact ⟨N, 2, ((run N _ a0 a1).trans (congrArg (m0 N a0 a1) (funext fun a => lp4_eq N a0 a1 a))).trans h⟩)
end laws_eqMessageS
namespace laws_eqLead
noncomputable def code : Code := Try.f141.body.getD .skip
abbrev live : Live := []
noncomputable def G (N : Nat) : Ctx E := gam [(60, [], laws_eqEntryS.sp N)]
noncomputable def m0 (N : Nat) (a0 : Lead) (a1 : Lead) : Option R :=
  bif (a0.Term != a1.Term) then
    some false
  else
  bif (a0.Id != a1.Id) then
    some false
  else
  ob (laws_eqEntryS.m N a0.Log a1.Log) fun y1 =>
  bif (!y1) then
    some false
  else
  some true
theorem run (N : Nat) (o0 : Orc E R) (a0 : Lead) (a1 : Lead) : runF T (G N) live [] Try.f141 code (sp N) o0 (a0, a1, ()) = m0 N a0 a1 := by kernel_rfl
theorem G_ok (N : Nat) : GamOK Try.prog (G N) := gam_ok (l := [(60, [], laws_eqEntryS.sp N)]) (⟨laws_eqEntryS.snd N, trivial⟩)
theorem snd (N : Nat) : Sound Try.prog E 141 (sp N) :=
  Mir.sound T_OK (G_ok N) mixed Try.func141 (c := code) (by kernel_rfl) (by kernel_rfl) (sp N) (Nat.le_of_ble_eq_true (by kernel_rfl)) live [] (by
    rintro ⟨a0, a1, _⟩ r h
    exact ⟨N, 2, ((run N _ a0 a1).trans rfl).trans h⟩)
end laws_eqLead
namespace laws_eqLeadS
noncomputable def code : Code := Try.f89.body.getD .skip
abbrev live : Live := [(4, [0, 1, 5])]
noncomputable def G (N : Nat) : Ctx E := gam [(141, [], laws_eqLead.sp N)]
noncomputable def loop4 : Code := codeAt code [1, 1, 0, 1, 0]
noncomputable def body4 : Code := codeAt loop4 [0]
noncomputable def K4 (N : Nat) (o0 : Orc E R) : KT E R := kAt T (G N) live [] o0 code [1, 1, 0, 1, 0] (kfin T Try.f89 (sp N))
noncomputable def St4 (a0 : List Lead) (a1 : List Lead) : Int → St E
  | v2 => { ρ := [(0, .c (.at (.ro 128 (.st 128) a0))), (1, .c (.at (.ro 128 (.st 128) a1))), (5, .c (.at (.int .i64 v2)))], H := [], nx := 0, n := 27, pin := [] }
noncomputable def m0 (N : Nat) (a0 : List Lead) (a1 : List Lead) (lp4 : Int → Option R) : Option R :=
  bif ((a0.length : Int) != (a1.length : Int)) then
    some false
  else
  lp4 (0:Int)
theorem run (N : Nat) (o0 : Orc E R) (a0 : List Lead) (a1 : List Lead) : runF T (G N) live [] Try.f89 code (sp N) o0 (a0, a1, ()) = m0 N a0 a1 (fun a => o0 loop4 (K4 N o0) (St4 a0 a1 a)) := by kernel_rfl
theorem body4_0 (N : Nat) (o0 : Orc E R) (o1 : Orc E R) (q1 : St E → Option R) (a0 : List Lead) (a1 : List Lead) (v2 : Int) : runA T (G N) live [] o1 body4 (St4 a0 a1 v2) (kloop [0, 1, 5] q1 (K4 N o0)) = step4 N a0 a1 (fun a => q1 (St4 a0 a1 a)) v2 := by kernel_rfl
theorem lp4_eq (N : Nat) (a0 : List Lead) (a1 : List Lead) (a : Int) : (orc T (G N) live [] N 2) loop4 (K4 N (orc T (G N) live [] N 2)) (St4 a0 a1 a) = lp4 N a0 a1 a :=
  (orc_loop (b := body4) (live := [0, 1, 5]) (by kernel_rfl)).trans (iter_eq (St4 a0 a1) _ _ (fun q1 a => by
    have hc := congrFun (congrFun (rfl : (step4 N a0 a1) = (step4 N a0 a1)) (fun a => q1 (St4 a0 a1 a))) a
    exact (body4_0 N (orc T (G N) live [] N 2) (orc T (G N) live [] N 1) q1 a0 a1 a).trans hc) N a)
theorem G_ok (N : Nat) : GamOK Try.prog (G N) := gam_ok (l := [(141, [], laws_eqLead.sp N)]) (⟨laws_eqLead.snd N, trivial⟩)
theorem snd (N : Nat) : Sound Try.prog E 89 (sp N) :=
  Mir.sound T_OK (G_ok N) mixed Try.func89 (c := code) (by kernel_rfl) (by kernel_rfl) (sp N) (Nat.le_of_ble_eq_true (by kernel_rfl)) live [] (by
    rintro ⟨a0, a1, _⟩ r h
    exact ⟨N, 2, ((run N _ a0 a1).trans (congrArg (m0 N a0 a1) (funext fun a => lp4_eq N a0 a1 a))).trans h⟩)
end laws_eqLeadS
namespace laws_eqDone
noncomputable def code : Code := Try.f142.body.getD .skip
abbrev live : Live := []
noncomputable def G (N : Nat) : Ctx E := gam [(118, [], laws_eqEntry.sp N)]
noncomputable def m0 (N : Nat) (a0 : Done) (a1 : Done) : Option R :=
  bif (a0.Node != a1.Node) then
    some false
  else
  bif (a0.Term != a1.Term) then
    some false
  else
  bif (a0.Index != a1.Index) then
    some false
  else
  ob (laws_eqEntry.m N (Entry.mk a0.Entry.Term a0.Entry.Kind a0.Entry.Data) (Entry.mk a1.Entry.Term a1.Entry.Kind a1.Entry.Data)) fun y1 =>
  bif (!y1) then
    some false
  else
  some true
theorem run (N : Nat) (o0 : Orc E R) (a0 : Done) (a1 : Done) : runF T (G N) live [] Try.f142 code (sp N) o0 (a0, a1, ()) = m0 N a0 a1 := by kernel_rfl
theorem G_ok (N : Nat) : GamOK Try.prog (G N) := gam_ok (l := [(118, [], laws_eqEntry.sp N)]) (⟨laws_eqEntry.snd N, trivial⟩)
theorem snd (N : Nat) : Sound Try.prog E 142 (sp N) :=
  Mir.sound T_OK (G_ok N) mixed Try.func142 (c := code) (by kernel_rfl) (by kernel_rfl) (sp N) (Nat.le_of_ble_eq_true (by kernel_rfl)) live [] (by
    rintro ⟨a0, a1, _⟩ r h
    exact ⟨N, 2, ((run N _ a0 a1).trans rfl).trans h⟩)
end laws_eqDone
namespace laws_eqDoneS
noncomputable def code : Code := Try.f90.body.getD .skip
abbrev live : Live := [(4, [0, 1, 5])]
noncomputable def G (N : Nat) : Ctx E := gam [(142, [], laws_eqDone.sp N)]
noncomputable def loop4 : Code := codeAt code [1, 1, 0, 1, 0]
noncomputable def body4 : Code := codeAt loop4 [0]
noncomputable def K4 (N : Nat) (o0 : Orc E R) : KT E R := kAt T (G N) live [] o0 code [1, 1, 0, 1, 0] (kfin T Try.f90 (sp N))
noncomputable def St4 (a0 : List Done) (a1 : List Done) : Int → St E
  | v2 => { ρ := [(0, .c (.at (.ro 131 (.st 131) a0))), (1, .c (.at (.ro 131 (.st 131) a1))), (5, .c (.at (.int .i64 v2)))], H := [], nx := 0, n := 27, pin := [] }
noncomputable def m0 (N : Nat) (a0 : List Done) (a1 : List Done) (lp4 : Int → Option R) : Option R :=
  bif ((a0.length : Int) != (a1.length : Int)) then
    some false
  else
  lp4 (0:Int)
theorem run (N : Nat) (o0 : Orc E R) (a0 : List Done) (a1 : List Done) : runF T (G N) live [] Try.f90 code (sp N) o0 (a0, a1, ()) = m0 N a0 a1 (fun a => o0 loop4 (K4 N o0) (St4 a0 a1 a)) := by kernel_rfl
theorem body4_0 (N : Nat) (o0 : Orc E R) (o1 : Orc E R) (q1 : St E → Option R) (a0 : List Done) (a1 : List Done) (v2 : Int) : runA T (G N) live [] o1 body4 (St4 a0 a1 v2) (kloop [0, 1, 5] q1 (K4 N o0)) = step4 N a0 a1 (fun a => q1 (St4 a0 a1 a)) v2 := by kernel_rfl
theorem lp4_eq (N : Nat) (a0 : List Done) (a1 : List Done) (a : Int) : (orc T (G N) live [] N 2) loop4 (K4 N (orc T (G N) live [] N 2)) (St4 a0 a1 a) = lp4 N a0 a1 a :=
  (orc_loop (b := body4) (live := [0, 1, 5]) (by kernel_rfl)).trans (iter_eq (St4 a0 a1) _ _ (fun q1 a => by
    have hc := congrFun (congrFun (rfl : (step4 N a0 a1) = (step4 N a0 a1)) (fun a => q1 (St4 a0 a1 a))) a
    exact (body4_0 N (orc T (G N) live [] N 2) (orc T (G N) live [] N 1) q1 a0 a1 a).trans hc) N a)
theorem G_ok (N : Nat) : GamOK Try.prog (G N) := gam_ok (l := [(142, [], laws_eqDone.sp N)]) (⟨laws_eqDone.snd N, trivial⟩)
theorem snd (N : Nat) : Sound Try.prog E 90 (sp N) :=
  Mir.sound T_OK (G_ok N) mixed Try.func90 (c := code) (by kernel_rfl) (by kernel_rfl) (sp N) (Nat.le_of_ble_eq_true (by kernel_rfl)) live [] (by
    rintro ⟨a0, a1, _⟩ r h
    exact ⟨N, 2, ((run N _ a0 a1).trans (congrArg (m0 N a0 a1) (funext fun a => lp4_eq N a0 a1 a))).trans h⟩)
end laws_eqDoneS
namespace laws_eqGroup
noncomputable def code : Code := Try.f42.body.getD .skip
abbrev live : Live := []
noncomputable def G (N : Nat) : Ctx E := gam [(88, [], laws_eqNodeS.sp N), (35, [], laws_eqMessageS.sp N), (89, [], laws_eqLeadS.sp N), (90, [], laws_eqDoneS.sp N)]
noncomputable def m0 (N : Nat) (a0 : Group) (a1 : Group) : Option R :=
  ob (laws_eqNodeS.m N a0.Nodes a1.Nodes) fun y1 =>
  bif (!y1) then
    some false
  else
  ob (laws_eqMessageS.m N a0.Wire a1.Wire) fun y2 =>
  bif (!y2) then
    some false
  else
  ob (laws_eqLeadS.m N a0.Leads a1.Leads) fun y3 =>
  bif (!y3) then
    some false
  else
  ob (laws_eqDoneS.m N a0.Dones a1.Dones) fun y4 =>
  bif (!y4) then
    some false
  else
  some true
theorem run (N : Nat) (o0 : Orc E R) (a0 : Group) (a1 : Group) : runF T (G N) live [] Try.f42 code (sp N) o0 (a0, a1, ()) = m0 N a0 a1 := by kernel_rfl
theorem G_ok (N : Nat) : GamOK Try.prog (G N) := gam_ok (l := [(88, [], laws_eqNodeS.sp N), (35, [], laws_eqMessageS.sp N), (89, [], laws_eqLeadS.sp N), (90, [], laws_eqDoneS.sp N)]) (⟨laws_eqNodeS.snd N, laws_eqMessageS.snd N, laws_eqLeadS.snd N, laws_eqDoneS.snd N, trivial⟩)
theorem snd (N : Nat) : Sound Try.prog E 42 (sp N) :=
  Mir.sound T_OK (G_ok N) mixed Try.func42 (c := code) (by kernel_rfl) (by kernel_rfl) (sp N) (Nat.le_of_ble_eq_true (by kernel_rfl)) live [] (by
    rintro ⟨a0, a1, _⟩ r h
    exact ⟨N, 2, ((run N _ a0 a1).trans rfl).trans h⟩)
end laws_eqGroup
namespace laws_markText
noncomputable def code : Code := Try.f119.body.getD .skip
abbrev live : Live := [(4, [0, 3])]
noncomputable def G (N : Nat) : Ctx E := gam []
noncomputable def loop4 : Code := codeAt code [1, 1, 1, 0, 0]
noncomputable def body4 : Code := codeAt loop4 [0]
noncomputable def K4 (N : Nat) (o0 : Orc E R) : KT E R := kAt T (G N) live [] o0 code [1, 1, 1, 0, 0] (kfin T Try.f119 (sp N))
noncomputable def St4 (a0 : Int) : (Int × ByteArray) → St E
  | (v0, v1) => { ρ := [(0, .c (.at (.int .i64 v0))), (3, .c (.at (.str v1)))], H := [], nx := 0, n := 20, pin := [] }
noncomputable def m0 (N : Nat) (a0 : Int) (lp4 : Int × ByteArray → Option R) : Option R :=
  bif (decide (a0 ≤ (0:Int))) then
    some (⟨#[109, 48]⟩ : ByteArray)
  else
  lp4 (a0, ByteArray.empty)
theorem run (N : Nat) (o0 : Orc E R) (a0 : Int) : runF T (G N) live [] Try.f119 code (sp N) o0 (a0, ()) = m0 N a0 (fun a => o0 loop4 (K4 N o0) (St4 a0 a)) := by kernel_rfl
theorem body4_0 (N : Nat) (o0 : Orc E R) (o1 : Orc E R) (q1 : St E → Option R) (a0 : Int) (v0 : Int) (v1 : ByteArray) : runA T (G N) live [] o1 body4 (St4 a0 (v0, v1)) (kloop [0, 3] q1 (K4 N o0)) = step4 N a0 (fun a => q1 (St4 a0 a)) (v0, v1) := by kernel_rfl
theorem lp4_eq (N : Nat) (a0 : Int) (a : Int × ByteArray) : (orc T (G N) live [] N 2) loop4 (K4 N (orc T (G N) live [] N 2)) (St4 a0 a) = lp4 N a0 a :=
  (orc_loop (b := body4) (live := [0, 3]) (by kernel_rfl)).trans (iter_eq (St4 a0) _ _ (fun q1 a => by
    have hc := congrFun (congrFun (rfl : (step4 N a0) = (step4 N a0)) (fun a => q1 (St4 a0 a))) a
    obtain ⟨u0, u1⟩ := a
    exact (body4_0 N (orc T (G N) live [] N 2) (orc T (G N) live [] N 1) q1 a0 u0 u1).trans hc) N a)
theorem G_ok (N : Nat) : GamOK Try.prog (G N) := gam_ok (l := []) (trivial)
theorem snd (N : Nat) : Sound Try.prog E 119 (sp N) :=
  Mir.sound T_OK (G_ok N) mixed Try.func119 (c := code) (by kernel_rfl) (by kernel_rfl) (sp N) (Nat.le_of_ble_eq_true (by kernel_rfl)) live [] (by
    rintro ⟨a0, _⟩ r h
    exact ⟨N, 2, ((run N _ a0).trans (congrArg (m0 N a0) (funext fun a => lp4_eq N a0 a))).trans h⟩)
end laws_markText
namespace laws_markEntryS
noncomputable def code : Code := Try.f61.body.getD .skip
abbrev live : Live := [(2, [0, 1, 5])]
noncomputable def G (N : Nat) : Ctx E := gam [(119, [], laws_markText.sp N)]
noncomputable def loop2 : Code := codeAt code [1, 0, 1, 0]
noncomputable def body2 : Code := codeAt loop2 [0]
noncomputable def K2 (N : Nat) (o0 : Orc E R) : KT E R := kAt T (G N) live [] o0 code [1, 0, 1, 0] (kfin T Try.f61 (sp N))
noncomputable def St2 (a0 : List Entry) (a1 : Int) : (Int × Int × (List Entry)) → St E
  | (v0, v1, v2) => { ρ := [(0, .c (.at (.own 0))), (1, .c (.at (.int .i64 v0))), (5, .c (.at (.int .i64 v1)))], H := [(0, .row 96 (.st 96) v2 false)], nx := 1, n := 35, pin := [0] }
noncomputable def m0 (N : Nat) (a0 : List Entry) (a1 : Int) (lp2 : Int × Int × (List Entry) → Option R) : Option R :=
  lp2 (a1, (0:Int), a0)
theorem run (N : Nat) (o0 : Orc E R) (a0 : List Entry) (a1 : Int) : runF T (G N) live [] Try.f61 code (sp N) o0 (a0, a1, ()) = m0 N a0 a1 (fun a => o0 loop2 (K2 N o0) (St2 a0 a1 a)) := by kernel_rfl
theorem body2_0 (N : Nat) (o0 : Orc E R) (o1 : Orc E R) (q1 : St E → Option R) (a0 : List Entry) (a1 : Int) (v0 : Int) (v1 : Int) (v2 : List Entry) : runA T (G N) live [] o1 body2 (St2 a0 a1 (v0, v1, v2)) (kloop [0, 1, 5] q1 (K2 N o0)) = step2 N a0 a1 (fun a => q1 (St2 a0 a1 a)) (v0, v1, v2) := by kernel_rfl
theorem lp2_eq (N : Nat) (a0 : List Entry) (a1 : Int) (a : Int × Int × (List Entry)) : (orc T (G N) live [] N 2) loop2 (K2 N (orc T (G N) live [] N 2)) (St2 a0 a1 a) = lp2 N a0 a1 a :=
  (orc_loop (b := body2) (live := [0, 1, 5]) (by kernel_rfl)).trans (iter_eq (St2 a0 a1) _ _ (fun q1 a => by
    have hc := congrFun (congrFun (rfl : (step2 N a0 a1) = (step2 N a0 a1)) (fun a => q1 (St2 a0 a1 a))) a
    obtain ⟨u0, u1, u2⟩ := a
    exact (body2_0 N (orc T (G N) live [] N 2) (orc T (G N) live [] N 1) q1 a0 a1 u0 u1 u2).trans hc) N a)
theorem G_ok (N : Nat) : GamOK Try.prog (G N) := gam_ok (l := [(119, [], laws_markText.sp N)]) (⟨laws_markText.snd N, trivial⟩)
theorem snd (N : Nat) : Sound Try.prog E 61 (sp N) :=
  Mir.sound T_OK (G_ok N) mixed Try.func61 (c := code) (by kernel_rfl) (by kernel_rfl) (sp N) (Nat.le_of_ble_eq_true (by kernel_rfl)) live [] (by
    rintro ⟨a0, a1, _⟩ r h
    exact ⟨N, 2, ((run N _ a0 a1).trans (congrArg (m0 N a0 a1) (funext fun a => lp2_eq N a0 a1 a))).trans h⟩)
end laws_markEntryS
namespace laws_markIntS
noncomputable def code : Code := Try.f19.body.getD .skip
abbrev live : Live := [(2, [0, 1, 5])]
noncomputable def G (N : Nat) : Ctx E := gam []
noncomputable def loop2 : Code := codeAt code [1, 0, 1, 0]
noncomputable def body2 : Code := codeAt loop2 [0]
noncomputable def K2 (N : Nat) (o0 : Orc E R) : KT E R := kAt T (G N) live [] o0 code [1, 0, 1, 0] (kfin T Try.f19 (sp N))
noncomputable def St2 (a0 : List Int) (a1 : Int) : (Int × Int × (List Int)) → St E
  | (v0, v1, v2) => { ρ := [(0, .c (.at (.own 0))), (1, .c (.at (.int .i64 v0))), (5, .c (.at (.int .i64 v1)))], H := [(0, .row 3 (.int .i64) v2 false)], nx := 1, n := 19, pin := [0] }
noncomputable def m0 (N : Nat) (a0 : List Int) (a1 : Int) (lp2 : Int × Int × (List Int) → Option R) : Option R :=
  lp2 (a1, (0:Int), a0)
theorem run (N : Nat) (o0 : Orc E R) (a0 : List Int) (a1 : Int) : runF T (G N) live [] Try.f19 code (sp N) o0 (a0, a1, ()) = m0 N a0 a1 (fun a => o0 loop2 (K2 N o0) (St2 a0 a1 a)) := by kernel_rfl
theorem body2_0 (N : Nat) (o0 : Orc E R) (o1 : Orc E R) (q1 : St E → Option R) (a0 : List Int) (a1 : Int) (v0 : Int) (v1 : Int) (v2 : List Int) : runA T (G N) live [] o1 body2 (St2 a0 a1 (v0, v1, v2)) (kloop [0, 1, 5] q1 (K2 N o0)) = step2 N a0 a1 (fun a => q1 (St2 a0 a1 a)) (v0, v1, v2) := by kernel_rfl
theorem lp2_eq (N : Nat) (a0 : List Int) (a1 : Int) (a : Int × Int × (List Int)) : (orc T (G N) live [] N 2) loop2 (K2 N (orc T (G N) live [] N 2)) (St2 a0 a1 a) = lp2 N a0 a1 a :=
  (orc_loop (b := body2) (live := [0, 1, 5]) (by kernel_rfl)).trans (iter_eq (St2 a0 a1) _ _ (fun q1 a => by
    have hc := congrFun (congrFun (rfl : (step2 N a0 a1) = (step2 N a0 a1)) (fun a => q1 (St2 a0 a1 a))) a
    obtain ⟨u0, u1, u2⟩ := a
    exact (body2_0 N (orc T (G N) live [] N 2) (orc T (G N) live [] N 1) q1 a0 a1 u0 u1 u2).trans hc) N a)
theorem G_ok (N : Nat) : GamOK Try.prog (G N) := gam_ok (l := []) (trivial)
theorem snd (N : Nat) : Sound Try.prog E 19 (sp N) :=
  Mir.sound T_OK (G_ok N) mixed Try.func19 (c := code) (by kernel_rfl) (by kernel_rfl) (sp N) (Nat.le_of_ble_eq_true (by kernel_rfl)) live [] (by
    rintro ⟨a0, a1, _⟩ r h
    exact ⟨N, 2, ((run N _ a0 a1).trans (congrArg (m0 N a0 a1) (funext fun a => lp2_eq N a0 a1 a))).trans h⟩)
end laws_markIntS
namespace laws_markNodeS
noncomputable def code : Code := Try.f91.body.getD .skip
abbrev live : Live := [(2, [0, 1, 5])]
noncomputable def G (N : Nat) : Ctx E := gam [(61, [], laws_markEntryS.sp N), (19, [], laws_markIntS.sp N)]
noncomputable def loop2 : Code := codeAt code [1, 0, 1, 0]
noncomputable def body2 : Code := codeAt loop2 [0]
noncomputable def K2 (N : Nat) (o0 : Orc E R) : KT E R := kAt TD (G N) live [] o0 code [1, 0, 1, 0] (kfin TD Try.f91 (sp N))
noncomputable def St2 (a0 : List Node) (a1 : Int) : (Int × Int × (List Node)) → St E
  | (v0, v1, v2) => { ρ := [(0, .c (.at (.own 0))), (1, .c (.at (.int .i64 v0))), (5, .c (.at (.int .i64 v1)))], H := [(0, .drow 25 (.st 25) v2 1), (1, .hdr)], nx := 2, n := 106, pin := [0] }
noncomputable def m0 (N : Nat) (a0 : List Node) (a1 : Int) (lp2 : Int × Int × (List Node) → Option R) : Option R :=
  lp2 (a1, (0:Int), a0)
theorem run (N : Nat) (o0 : Orc E R) (a0 : List Node) (a1 : Int) : runF TD (G N) live [] Try.f91 code (sp N) o0 (a0, a1, ()) = m0 N a0 a1 (fun a => o0 loop2 (K2 N o0) (St2 a0 a1 a)) := by kernel_rfl
theorem body2_0 (N : Nat) (o0 : Orc E R) (o1 : Orc E R) (q1 : St E → Option R) (a0 : List Node) (a1 : Int) (v0 : Int) (v1 : Int) (v2 : List Node) : runA TD (G N) live [] o1 body2 (St2 a0 a1 (v0, v1, v2)) (kloop [0, 1, 5] q1 (K2 N o0)) = step2 N a0 a1 (fun a => q1 (St2 a0 a1 a)) (v0, v1, v2) := by kernel_rfl
theorem lp2_eq (N : Nat) (a0 : List Node) (a1 : Int) (a : Int × Int × (List Node)) : (orc TD (G N) live [] N 2) loop2 (K2 N (orc TD (G N) live [] N 2)) (St2 a0 a1 a) = lp2 N a0 a1 a :=
  (orc_loop (b := body2) (live := [0, 1, 5]) (by kernel_rfl)).trans (iter_eq (St2 a0 a1) _ _ (fun q1 a => by
    have hc := congrFun (congrFun (rfl : (step2 N a0 a1) = (step2 N a0 a1)) (fun a => q1 (St2 a0 a1 a))) a
    obtain ⟨u0, u1, u2⟩ := a
    exact (body2_0 N (orc TD (G N) live [] N 2) (orc TD (G N) live [] N 1) q1 a0 a1 u0 u1 u2).trans hc) N a)
theorem G_ok (N : Nat) : GamOK Try.prog (G N) := gam_ok (l := [(61, [], laws_markEntryS.sp N), (19, [], laws_markIntS.sp N)]) (⟨laws_markEntryS.snd N, laws_markIntS.snd N, trivial⟩)
theorem snd (N : Nat) : Sound Try.prog E 91 (sp N) :=
  Mir.sound TD_OK (G_ok N) mixed Try.func91 (c := code) (by kernel_rfl) (by kernel_rfl) (sp N) (Nat.le_of_ble_eq_true (by kernel_rfl)) live [] (by
    rintro ⟨a0, a1, _⟩ r h
    exact ⟨N, 2, ((run N _ a0 a1).trans (congrArg (m0 N a0 a1) (funext fun a => lp2_eq N a0 a1 a))).trans h⟩)
end laws_markNodeS
namespace laws_markMessageS
noncomputable def code : Code := Try.f36.body.getD .skip
abbrev live : Live := [(2, [0, 1, 5])]
noncomputable def G (N : Nat) : Ctx E := gam [(61, [], laws_markEntryS.sp N)]
noncomputable def loop2 : Code := codeAt code [1, 0, 1, 0]
noncomputable def body2 : Code := codeAt loop2 [0]
noncomputable def K2 (N : Nat) (o0 : Orc E R) : KT E R := kAt TD (G N) live [] o0 code [1, 0, 1, 0] (kfin TD Try.f36 (sp N))
noncomputable def St2 (a0 : List Message) (a1 : Int) : (Int × Int × (List Message)) → St E
  | (v0, v1, v2) => { ρ := [(0, .c (.at (.own 0))), (1, .c (.at (.int .i64 v0))), (5, .c (.at (.int .i64 v1)))], H := [(0, .drow 102 (.st 102) v2 1), (1, .hdr)], nx := 2, n := 78, pin := [0] }
noncomputable def m0 (N : Nat) (a0 : List Message) (a1 : Int) (lp2 : Int × Int × (List Message) → Option R) : Option R :=
  lp2 (a1, (0:Int), a0)
theorem run (N : Nat) (o0 : Orc E R) (a0 : List Message) (a1 : Int) : runF TD (G N) live [] Try.f36 code (sp N) o0 (a0, a1, ()) = m0 N a0 a1 (fun a => o0 loop2 (K2 N o0) (St2 a0 a1 a)) := by kernel_rfl
theorem body2_0 (N : Nat) (o0 : Orc E R) (o1 : Orc E R) (q1 : St E → Option R) (a0 : List Message) (a1 : Int) (v0 : Int) (v1 : Int) (v2 : List Message) : runA TD (G N) live [] o1 body2 (St2 a0 a1 (v0, v1, v2)) (kloop [0, 1, 5] q1 (K2 N o0)) = step2 N a0 a1 (fun a => q1 (St2 a0 a1 a)) (v0, v1, v2) := by kernel_rfl
theorem lp2_eq (N : Nat) (a0 : List Message) (a1 : Int) (a : Int × Int × (List Message)) : (orc TD (G N) live [] N 2) loop2 (K2 N (orc TD (G N) live [] N 2)) (St2 a0 a1 a) = lp2 N a0 a1 a :=
  (orc_loop (b := body2) (live := [0, 1, 5]) (by kernel_rfl)).trans (iter_eq (St2 a0 a1) _ _ (fun q1 a => by
    have hc := congrFun (congrFun (rfl : (step2 N a0 a1) = (step2 N a0 a1)) (fun a => q1 (St2 a0 a1 a))) a
    obtain ⟨u0, u1, u2⟩ := a
    exact (body2_0 N (orc TD (G N) live [] N 2) (orc TD (G N) live [] N 1) q1 a0 a1 u0 u1 u2).trans hc) N a)
theorem G_ok (N : Nat) : GamOK Try.prog (G N) := gam_ok (l := [(61, [], laws_markEntryS.sp N)]) (⟨laws_markEntryS.snd N, trivial⟩)
theorem snd (N : Nat) : Sound Try.prog E 36 (sp N) :=
  Mir.sound TD_OK (G_ok N) mixed Try.func36 (c := code) (by kernel_rfl) (by kernel_rfl) (sp N) (Nat.le_of_ble_eq_true (by kernel_rfl)) live [] (by
    rintro ⟨a0, a1, _⟩ r h
    exact ⟨N, 2, ((run N _ a0 a1).trans (congrArg (m0 N a0 a1) (funext fun a => lp2_eq N a0 a1 a))).trans h⟩)
end laws_markMessageS
end Mir.Y
