/- The models are what the functions do. -/
import Derived.Test.YtojpcjbdehoibaaBP2
namespace Mir.Y
set_option linter.unusedVariables false
set_option maxRecDepth 10000
open Go Go.Proofs Mir
namespace impl_ProveKey
noncomputable def code : Code := Try.f51.body.getD .skip
abbrev live : Live := [(7, [1, 2, 4, 8, 9])]
noncomputable def G (N : Nat) : Ctx E := gam [(102, [], impl_mapCode.sp N), (114, [], impl_hash.sp N), (115, [], impl_Branch_isEmpty.sp N), (116, [], impl_bit.sp N), (117, [], impl_mapRoot.sp N)]
noncomputable def loop7 : Code := codeAt code [1, 1, 1, 1, 0, 0]
noncomputable def body7 : Code := codeAt loop7 [0]
noncomputable def K7 (N : Nat) (o0 : Orc E R) : KT E R := kAt T (G N) live [] o0 code [1, 1, 1, 1, 0, 0] (kfin T Try.f51 (sp N))
noncomputable def St7 (a0 : Branch) (a1 : ByteArray) : A7 → St E
  | .s0 v1 v6 v7 v8 v9 => { ρ := [(1, .c (.at (.str a1))), (2, .c (.at (.ptr 0 0))), (4, .c (.at (.ptr 1 0))), (8, .c (.at (.str v1))), (9, .c (.at (.ptr 2 0)))], H := [(0, .box 71 [.str a0.Key, .str a0.Value, .int .i64 a0.At, .ro 71 (.st 71) a0.Kids]), (1, .box 82 [.bool false, .str v6, .str v7, .nils]), (2, .box 82 [.bool false, .str v8, .str v9, .nils])], nx := 3, n := 66, pin := [] }
  | .s1 v1 v2 v3 v4 v5 v6 v7 v8 v9 v10 => { ρ := [(1, .c (.at (.str a1))), (2, .c (.at (.ptr 0 0))), (4, .c (.at (.ptr 1 0))), (8, .c (.at (.str v1))), (9, .c (.at (.ptr 2 0)))], H := [(0, .box 71 [.str v2, .str v3, .int .i64 v4, .ro 71 (.st 71) v5]), (1, .box 82 [.bool false, .str v6, .str v7, .nils]), (2, .box 82 [.bool false, .str v8, .str v9, .own 3]), (3, .row 156 (.st 156) v10 false)], nx := 4, n := 66, pin := [] }
noncomputable def m0 (N : Nat) (a0 : Branch) (a1 : ByteArray) (lp7 : A7 → Option R) : Option R :=
  ob (impl_mapCode.m N (Branch.mk a0.Key a0.Value a0.At a0.Kids) a1) fun y1 =>
  bif (y1.2 != (0:Int)) then
    some ((MapProof.mk false ByteArray.empty ByteArray.empty ([] : List MapStep)), y1.2)
  else
  ob (impl_hash.m N a1) fun y2 =>
  ob (impl_Branch_isEmpty.m N (Branch.mk a0.Key a0.Value a0.At a0.Kids)) fun y3 =>
  bif y3 then
    some ((MapProof.mk false ByteArray.empty ByteArray.empty ([] : List MapStep)), (0:Int))
  else
  lp7 (.s0 y2 ByteArray.empty ByteArray.empty ByteArray.empty ByteArray.empty)
theorem run (N : Nat) (o0 : Orc E R) (a0 : Branch) (a1 : ByteArray) : runF T (G N) live [] Try.f51 code (sp N) o0 (a0, a1, ()) = m0 N a0 a1 (fun a => o0 loop7 (K7 N o0) (St7 a0 a1 a)) := by kernel_rfl
theorem body7_0 (N : Nat) (o0 : Orc E R) (o1 : Orc E R) (q1 : St E → Option R) (a0 : Branch) (a1 : ByteArray) (v1 : ByteArray) (v6 : ByteArray) (v7 : ByteArray) (v8 : ByteArray) (v9 : ByteArray) : runA T (G N) live [] o1 body7 (St7 a0 a1 (.s0 v1 v6 v7 v8 v9)) (kloop [1, 2, 4, 8, 9] q1 (K7 N o0)) = step7 N a0 a1 (fun a => q1 (St7 a0 a1 a)) (.s0 v1 v6 v7 v8 v9) := by kernel_rfl
theorem body7_1 (N : Nat) (o0 : Orc E R) (o1 : Orc E R) (q1 : St E → Option R) (a0 : Branch) (a1 : ByteArray) (v1 : ByteArray) (v2 : ByteArray) (v3 : ByteArray) (v4 : Int) (v5 : List Branch) (v6 : ByteArray) (v7 : ByteArray) (v8 : ByteArray) (v9 : ByteArray) (v10 : List MapStep) : runA T (G N) live [] o1 body7 (St7 a0 a1 (.s1 v1 v2 v3 v4 v5 v6 v7 v8 v9 v10)) (kloop [1, 2, 4, 8, 9] q1 (K7 N o0)) = step7 N a0 a1 (fun a => q1 (St7 a0 a1 a)) (.s1 v1 v2 v3 v4 v5 v6 v7 v8 v9 v10) := by kernel_rfl
theorem lp7_eq (N : Nat) (a0 : Branch) (a1 : ByteArray) (a : A7) : (orc T (G N) live [] N 2) loop7 (K7 N (orc T (G N) live [] N 2)) (St7 a0 a1 a) = lp7 N a0 a1 a :=
  (orc_loop (b := body7) (live := [1, 2, 4, 8, 9]) (by kernel_rfl)).trans (iter_eq (St7 a0 a1) _ _ (fun q1 a => by
    have hc := congrFun (congrFun (rfl : (step7 N a0 a1) = (step7 N a0 a1)) (fun a => q1 (St7 a0 a1 a))) a
    cases a with
    | s0 u0 u1 u2 u3 u4 => exact (body7_0 N (orc T (G N) live [] N 2) (orc T (G N) live [] N 1) q1 a0 a1 u0 u1 u2 u3 u4).trans hc
    | s1 u0 u1 u2 u3 u4 u5 u6 u7 u8 u9 => exact (body7_1 N (orc T (G N) live [] N 2) (orc T (G N) live [] N 1) q1 a0 a1 u0 u1 u2 u3 u4 u5 u6 u7 u8 u9).trans hc) N a)
theorem G_ok (N : Nat) : GamOK Try.prog (G N) := gam_ok (l := [(102, [], impl_mapCode.sp N), (114, [], impl_hash.sp N), (115, [], impl_Branch_isEmpty.sp N), (116, [], impl_bit.sp N), (117, [], impl_mapRoot.sp N)]) (⟨impl_mapCode.snd N, impl_hash.snd N, impl_Branch_isEmpty.snd N, impl_bit.snd N, impl_mapRoot.snd N, trivial⟩)
theorem snd (N : Nat) : Sound Try.prog E 51 (sp N) :=
  Mir.sound T_OK (G_ok N) mixed Try.func51 (c := code) (by kernel_rfl) (by kernel_rfl) (sp N) (Nat.le_of_ble_eq_true (by kernel_rfl)) live [] (by
    rintro ⟨a0, a1, _⟩ r h
    exact ⟨N, 2, ((run N _ a0 a1).trans (congrArg (m0 N a0 a1) (funext fun a => lp7_eq N a0 a1 a))).trans h⟩)
end impl_ProveKey
namespace laws_eqMapStep
noncomputable def code : Code := Try.f184.body.getD .skip
abbrev live : Live := []
noncomputable def G (N : Nat) : Ctx E := gam []
noncomputable def m0 (N : Nat) (a0 : MapStep) (a1 : MapStep) : Option R :=
  bif (a0.At != a1.At) then
    some false
  else
  bif (!seq a0.Hash a1.Hash) then
    some false
  else
  some true
theorem run (N : Nat) (o0 : Orc E R) (a0 : MapStep) (a1 : MapStep) : runF T (G N) live [] Try.f184 code (sp N) o0 (a0, a1, ()) = m0 N a0 a1 := by kernel_rfl
theorem G_ok (N : Nat) : GamOK Try.prog (G N) := gam_ok (l := []) (trivial)
theorem snd (N : Nat) : Sound Try.prog E 184 (sp N) :=
  Mir.sound T_OK (G_ok N) mixed Try.func184 (c := code) (by kernel_rfl) (by kernel_rfl) (sp N) (Nat.le_of_ble_eq_true (by kernel_rfl)) live [] (by
    rintro ⟨a0, a1, _⟩ r h
    exact ⟨N, 2, ((run N _ a0 a1).trans rfl).trans h⟩)
end laws_eqMapStep
namespace laws_eqMapStepS
noncomputable def code : Code := Try.f118.body.getD .skip
abbrev live : Live := [(4, [0, 1, 5])]
noncomputable def G (N : Nat) : Ctx E := gam [(184, [], laws_eqMapStep.sp N)]
noncomputable def loop4 : Code := codeAt code [1, 1, 0, 1, 0]
noncomputable def body4 : Code := codeAt loop4 [0]
noncomputable def K4 (N : Nat) (o0 : Orc E R) : KT E R := kAt T (G N) live [] o0 code [1, 1, 0, 1, 0] (kfin T Try.f118 (sp N))
noncomputable def St4 (a0 : List MapStep) (a1 : List MapStep) : Int → St E
  | v2 => { ρ := [(0, .c (.at (.ro 156 (.st 156) a0))), (1, .c (.at (.ro 156 (.st 156) a1))), (5, .c (.at (.int .i64 v2)))], H := [], nx := 0, n := 27, pin := [] }
noncomputable def m0 (N : Nat) (a0 : List MapStep) (a1 : List MapStep) (lp4 : Int → Option R) : Option R :=
  bif ((a0.length : Int) != (a1.length : Int)) then
    some false
  else
  lp4 (0:Int)
theorem run (N : Nat) (o0 : Orc E R) (a0 : List MapStep) (a1 : List MapStep) : runF T (G N) live [] Try.f118 code (sp N) o0 (a0, a1, ()) = m0 N a0 a1 (fun a => o0 loop4 (K4 N o0) (St4 a0 a1 a)) := by kernel_rfl
theorem body4_0 (N : Nat) (o0 : Orc E R) (o1 : Orc E R) (q1 : St E → Option R) (a0 : List MapStep) (a1 : List MapStep) (v2 : Int) : runA T (G N) live [] o1 body4 (St4 a0 a1 v2) (kloop [0, 1, 5] q1 (K4 N o0)) = step4 N a0 a1 (fun a => q1 (St4 a0 a1 a)) v2 := by kernel_rfl
theorem lp4_eq (N : Nat) (a0 : List MapStep) (a1 : List MapStep) (a : Int) : (orc T (G N) live [] N 2) loop4 (K4 N (orc T (G N) live [] N 2)) (St4 a0 a1 a) = lp4 N a0 a1 a :=
  (orc_loop (b := body4) (live := [0, 1, 5]) (by kernel_rfl)).trans (iter_eq (St4 a0 a1) _ _ (fun q1 a => by
    have hc := congrFun (congrFun (rfl : (step4 N a0 a1) = (step4 N a0 a1)) (fun a => q1 (St4 a0 a1 a))) a
    exact (body4_0 N (orc T (G N) live [] N 2) (orc T (G N) live [] N 1) q1 a0 a1 a).trans hc) N a)
theorem G_ok (N : Nat) : GamOK Try.prog (G N) := gam_ok (l := [(184, [], laws_eqMapStep.sp N)]) (⟨laws_eqMapStep.snd N, trivial⟩)
theorem snd (N : Nat) : Sound Try.prog E 118 (sp N) :=
  Mir.sound T_OK (G_ok N) mixed Try.func118 (c := code) (by kernel_rfl) (by kernel_rfl) (sp N) (Nat.le_of_ble_eq_true (by kernel_rfl)) live [] (by
    rintro ⟨a0, a1, _⟩ r h
    exact ⟨N, 2, ((run N _ a0 a1).trans (congrArg (m0 N a0 a1) (funext fun a => lp4_eq N a0 a1 a))).trans h⟩)
end laws_eqMapStepS
namespace laws_eqMapProof
noncomputable def code : Code := Try.f52.body.getD .skip
abbrev live : Live := []
noncomputable def G (N : Nat) : Ctx E := gam [(118, [], laws_eqMapStepS.sp N)]
noncomputable def m0 (N : Nat) (a0 : MapProof) (a1 : MapProof) : Option R :=
  bif (!(a0.Found == a1.Found)) then
    some false
  else
  bif (!seq a0.Key a1.Key) then
    some false
  else
  bif (!seq a0.Value a1.Value) then
    some false
  else
  ob (laws_eqMapStepS.m N a0.Steps a1.Steps) fun y1 =>
  bif (!y1) then
    some false
  else
  some true
theorem run (N : Nat) (o0 : Orc E R) (a0 : MapProof) (a1 : MapProof) : runF T (G N) live [] Try.f52 code (sp N) o0 (a0, a1, ()) = m0 N a0 a1 := by kernel_rfl
theorem G_ok (N : Nat) : GamOK Try.prog (G N) := gam_ok (l := [(118, [], laws_eqMapStepS.sp N)]) (⟨laws_eqMapStepS.snd N, trivial⟩)
theorem snd (N : Nat) : Sound Try.prog E 52 (sp N) :=
  Mir.sound T_OK (G_ok N) mixed Try.func52 (c := code) (by kernel_rfl) (by kernel_rfl) (sp N) (Nat.le_of_ble_eq_true (by kernel_rfl)) live [] (by
    rintro ⟨a0, a1, _⟩ r h
    exact ⟨N, 2, ((run N _ a0 a1).trans rfl).trans h⟩)
end laws_eqMapProof
namespace laws_eqBranchS
noncomputable def code : Code := Try.f106.body.getD .skip
abbrev live : Live := [(4, [0, 1, 5])]
noncomputable def G (N : Nat) (x_laws_eqBranch : Branch → Branch → Option laws_eqBranch.R) : Ctx E := gam [(45, [], laws_eqBranch.spf x_laws_eqBranch)]
noncomputable def loop4 : Code := codeAt code [1, 1, 0, 1, 0]
noncomputable def body4 : Code := codeAt loop4 [0]
noncomputable def K4 (N : Nat) (x_laws_eqBranch : Branch → Branch → Option laws_eqBranch.R) (o0 : Orc E R) : KT E R := kAt T (G N x_laws_eqBranch) live [] o0 code [1, 1, 0, 1, 0] (kfin T Try.f106 (sp N x_laws_eqBranch))
noncomputable def St4 (x_laws_eqBranch : Branch → Branch → Option laws_eqBranch.R) (a0 : List Branch) (a1 : List Branch) : Int → St E
  | v2 => { ρ := [(0, .c (.at (.ro 71 (.st 71) a0))), (1, .c (.at (.ro 71 (.st 71) a1))), (5, .c (.at (.int .i64 v2)))], H := [], nx := 0, n := 27, pin := [] }
noncomputable def m0 (N : Nat) (x_laws_eqBranch : Branch → Branch → Option laws_eqBranch.R) (a0 : List Branch) (a1 : List Branch) (lp4 : Int → Option R) : Option R :=
  bif ((a0.length : Int) != (a1.length : Int)) then
    some false
  else
  lp4 (0:Int)
theorem run (N : Nat) (o0 : Orc E R) (x_laws_eqBranch : Branch → Branch → Option laws_eqBranch.R) (a0 : List Branch) (a1 : List Branch) : runF T (G N x_laws_eqBranch) live [] Try.f106 code (sp N x_laws_eqBranch) o0 (a0, a1, ()) = m0 N x_laws_eqBranch a0 a1 (fun a => o0 loop4 (K4 N x_laws_eqBranch o0) (St4 x_laws_eqBranch a0 a1 a)) := by kernel_rfl
theorem body4_0 (N : Nat) (o0 : Orc E R) (o1 : Orc E R) (q1 : St E → Option R) (x_laws_eqBranch : Branch → Branch → Option laws_eqBranch.R) (a0 : List Branch) (a1 : List Branch) (v2 : Int) : runA T (G N x_laws_eqBranch) live [] o1 body4 (St4 x_laws_eqBranch a0 a1 v2) (kloop [0, 1, 5] q1 (K4 N x_laws_eqBranch o0)) = step4 N x_laws_eqBranch a0 a1 (fun a => q1 (St4 x_laws_eqBranch a0 a1 a)) v2 := by kernel_rfl
theorem lp4_eq (N : Nat) (x_laws_eqBranch : Branch → Branch → Option laws_eqBranch.R) (a0 : List Branch) (a1 : List Branch) (a : Int) : (orc T (G N x_laws_eqBranch) live [] N 2) loop4 (K4 N x_laws_eqBranch (orc T (G N x_laws_eqBranch) live [] N 2)) (St4 x_laws_eqBranch a0 a1 a) = lp4 N x_laws_eqBranch a0 a1 a :=
  (orc_loop (b := body4) (live := [0, 1, 5]) (by kernel_rfl)).trans (iter_eq (St4 x_laws_eqBranch a0 a1) _ _ (fun q1 a => by
    have hc := congrFun (congrFun (rfl : (step4 N x_laws_eqBranch a0 a1) = (step4 N x_laws_eqBranch a0 a1)) (fun a => q1 (St4 x_laws_eqBranch a0 a1 a))) a
    exact (body4_0 N (orc T (G N x_laws_eqBranch) live [] N 2) (orc T (G N x_laws_eqBranch) live [] N 1) q1 x_laws_eqBranch a0 a1 a).trans hc) N a)
theorem G_ok (N : Nat) (x_laws_eqBranch : Branch → Branch → Option laws_eqBranch.R) (hx_laws_eqBranch : Sound Try.prog E 45 (laws_eqBranch.spf x_laws_eqBranch)) : GamOK Try.prog (G N x_laws_eqBranch) := gam_ok (l := [(45, [], laws_eqBranch.spf x_laws_eqBranch)]) (⟨hx_laws_eqBranch, trivial⟩)
theorem snd (N : Nat) (x_laws_eqBranch : Branch → Branch → Option laws_eqBranch.R) (hx_laws_eqBranch : Sound Try.prog E 45 (laws_eqBranch.spf x_laws_eqBranch)) : Sound Try.prog E 106 (sp N x_laws_eqBranch) :=
  Mir.sound T_OK (G_ok N x_laws_eqBranch hx_laws_eqBranch) mixed Try.func106 (c := code) (by kernel_rfl) (by kernel_rfl) (sp N x_laws_eqBranch) (Nat.le_of_ble_eq_true (by kernel_rfl)) live [] (by
    rintro ⟨a0, a1, _⟩ r h
    exact ⟨N, 2, ((run N _ x_laws_eqBranch a0 a1).trans (congrArg (m0 N x_laws_eqBranch a0 a1) (funext fun a => lp4_eq N x_laws_eqBranch a0 a1 a))).trans h⟩)
end laws_eqBranchS
namespace laws_eqBranch
noncomputable def code : Code := Try.f45.body.getD .skip
abbrev live : Live := []
noncomputable def G (N : Nat) (slf : Branch → Branch → Option R) : Ctx E := gam [(106, [], laws_eqBranchS.sp N slf)]
noncomputable def m0 (N : Nat) (slf : Branch → Branch → Option R) (a0 : Branch) (a1 : Branch) : Option R :=
  bif (!seq a0.Key a1.Key) then
    some false
  else
  bif (!seq a0.Value a1.Value) then
    some false
  else
  bif (a0.At != a1.At) then
    some false
  else
  ob (laws_eqBranchS.m N slf a0.Kids a1.Kids) fun y1 =>
  bif (!y1) then
    some false
  else
  some true
theorem run (N : Nat) (o0 : Orc E R) (slf : Branch → Branch → Option R) (a0 : Branch) (a1 : Branch) : runF T (G N slf) live [] Try.f45 code (spf (mb N slf)) o0 (a0, a1, ()) = m0 N slf a0 a1 := by kernel_rfl
theorem G_ok (N : Nat) (slf : Branch → Branch → Option R) (hs : Sound Try.prog E 45 (spf slf)) : GamOK Try.prog (G N slf) := gam_ok (l := [(106, [], laws_eqBranchS.sp N slf)]) (⟨laws_eqBranchS.snd N slf hs, trivial⟩)
theorem sndF (N : Nat) : ∀ n, Sound Try.prog E 45 (spf (mF N n))
  | 0 => sound_none Try.func45 (c := code) (by kernel_rfl) (by kernel_rfl) (spf (mF N 0)) (fun _ => rfl)
  | n + 1 => by
    have hr := fun (a0 : Branch) (a1 : Branch) => (run N (orc T (G N (mF N n)) live [] N 2) (mF N n) a0 a1).trans rfl
    exact Mir.sound T_OK (G_ok N (mF N n) (sndF N n)) mixed Try.func45 (c := code) (by kernel_rfl) (by kernel_rfl) (spf (mF N (n + 1))) (Nat.le_of_ble_eq_true (by kernel_rfl)) live [] (by
      rintro ⟨a0, a1, _⟩ r h
      exact ⟨N, 2, (hr a0 a1).trans h⟩)
theorem snd (N : Nat) : Sound Try.prog E 45 (sp N) := sndF N N
end laws_eqBranch
namespace laws_markText
noncomputable def code : Code := Try.f93.body.getD .skip
abbrev live : Live := [(4, [0, 3])]
noncomputable def G (N : Nat) : Ctx E := gam []
noncomputable def loop4 : Code := codeAt code [1, 1, 1, 0, 0]
noncomputable def body4 : Code := codeAt loop4 [0]
noncomputable def K4 (N : Nat) (o0 : Orc E R) : KT E R := kAt T (G N) live [] o0 code [1, 1, 1, 0, 0] (kfin T Try.f93 (sp N))
noncomputable def St4 (a0 : Int) : (Int × ByteArray) → St E
  | (v0, v1) => { ρ := [(0, .c (.at (.int .i64 v0))), (3, .c (.at (.str v1)))], H := [], nx := 0, n := 20, pin := [] }
noncomputable def m0 (N : Nat) (a0 : Int) (lp4 : Int × ByteArray → Option R) : Option R :=
  bif (decide (a0 ≤ (0:Int))) then
    some (⟨#[109, 48]⟩ : ByteArray)
  else
  lp4 (a0, ByteArray.empty)
theorem run (N : Nat) (o0 : Orc E R) (a0 : Int) : runF T (G N) live [] Try.f93 code (sp N) o0 (a0, ()) = m0 N a0 (fun a => o0 loop4 (K4 N o0) (St4 a0 a)) := by kernel_rfl
theorem body4_0 (N : Nat) (o0 : Orc E R) (o1 : Orc E R) (q1 : St E → Option R) (a0 : Int) (v0 : Int) (v1 : ByteArray) : runA T (G N) live [] o1 body4 (St4 a0 (v0, v1)) (kloop [0, 3] q1 (K4 N o0)) = step4 N a0 (fun a => q1 (St4 a0 a)) (v0, v1) := by kernel_rfl
theorem lp4_eq (N : Nat) (a0 : Int) (a : Int × ByteArray) : (orc T (G N) live [] N 2) loop4 (K4 N (orc T (G N) live [] N 2)) (St4 a0 a) = lp4 N a0 a :=
  (orc_loop (b := body4) (live := [0, 3]) (by kernel_rfl)).trans (iter_eq (St4 a0) _ _ (fun q1 a => by
    have hc := congrFun (congrFun (rfl : (step4 N a0) = (step4 N a0)) (fun a => q1 (St4 a0 a))) a
    obtain ⟨u0, u1⟩ := a
    exact (body4_0 N (orc T (G N) live [] N 2) (orc T (G N) live [] N 1) q1 a0 u0 u1).trans hc) N a)
theorem G_ok (N : Nat) : GamOK Try.prog (G N) := gam_ok (l := []) (trivial)
theorem snd (N : Nat) : Sound Try.prog E 93 (sp N) :=
  Mir.sound T_OK (G_ok N) mixed Try.func93 (c := code) (by kernel_rfl) (by kernel_rfl) (sp N) (Nat.le_of_ble_eq_true (by kernel_rfl)) live [] (by
    rintro ⟨a0, _⟩ r h
    exact ⟨N, 2, ((run N _ a0).trans (congrArg (m0 N a0) (funext fun a => lp4_eq N a0 a))).trans h⟩)
end laws_markText
namespace laws_markBranchS
noncomputable def code : Code := Try.f107.body.getD .skip
abbrev live : Live := [(2, [0, 1, 5])]
noncomputable def G (N : Nat) (slf : (List Branch) → Int → Option R) : Ctx E := gam [(93, [], laws_markText.sp N), (107, [], spf slf)]
noncomputable def loop2 : Code := codeAt code [1, 0, 1, 0]
noncomputable def body2 : Code := codeAt loop2 [0]
noncomputable def K2 (N : Nat) (slf : (List Branch) → Int → Option R) (o0 : Orc E R) : KT E R := kAt TD (G N slf) live [] o0 code [1, 0, 1, 0] (kfin TD Try.f107 (spf (mb N slf)))
noncomputable def St2 (slf : (List Branch) → Int → Option R) (a0 : List Branch) (a1 : Int) : (Int × Int × (List Branch)) → St E
  | (v0, v1, v2) => { ρ := [(0, .c (.at (.own 0))), (1, .c (.at (.int .i64 v0))), (5, .c (.at (.int .i64 v1)))], H := [(0, .drow 71 (.st 71) v2 1), (1, .hdr)], nx := 2, n := 43, pin := [0] }
noncomputable def m0 (N : Nat) (slf : (List Branch) → Int → Option R) (a0 : List Branch) (a1 : Int) (lp2 : Int × Int × (List Branch) → Option R) : Option R :=
  lp2 (a1, (0:Int), a0)
theorem run (N : Nat) (o0 : Orc E R) (slf : (List Branch) → Int → Option R) (a0 : List Branch) (a1 : Int) : runF TD (G N slf) live [] Try.f107 code (spf (mb N slf)) o0 (a0, a1, ()) = m0 N slf a0 a1 (fun a => o0 loop2 (K2 N slf o0) (St2 slf a0 a1 a)) := by kernel_rfl
theorem body2_0 (N : Nat) (o0 : Orc E R) (o1 : Orc E R) (q1 : St E → Option R) (slf : (List Branch) → Int → Option R) (a0 : List Branch) (a1 : Int) (v0 : Int) (v1 : Int) (v2 : List Branch) : runA TD (G N slf) live [] o1 body2 (St2 slf a0 a1 (v0, v1, v2)) (kloop [0, 1, 5] q1 (K2 N slf o0)) = step2 N slf a0 a1 (fun a => q1 (St2 slf a0 a1 a)) (v0, v1, v2) := by kernel_rfl
theorem lp2_eq (N : Nat) (slf : (List Branch) → Int → Option R) (a0 : List Branch) (a1 : Int) (a : Int × Int × (List Branch)) : (orc TD (G N slf) live [] N 2) loop2 (K2 N slf (orc TD (G N slf) live [] N 2)) (St2 slf a0 a1 a) = lp2 N slf a0 a1 a :=
  (orc_loop (b := body2) (live := [0, 1, 5]) (by kernel_rfl)).trans (iter_eq (St2 slf a0 a1) _ _ (fun q1 a => by
    have hc := congrFun (congrFun (rfl : (step2 N slf a0 a1) = (step2 N slf a0 a1)) (fun a => q1 (St2 slf a0 a1 a))) a
    obtain ⟨u0, u1, u2⟩ := a
    exact (body2_0 N (orc TD (G N slf) live [] N 2) (orc TD (G N slf) live [] N 1) q1 slf a0 a1 u0 u1 u2).trans hc) N a)
theorem G_ok (N : Nat) (slf : (List Branch) → Int → Option R) (hs : Sound Try.prog E 107 (spf slf)) : GamOK Try.prog (G N slf) := gam_ok (l := [(93, [], laws_markText.sp N), (107, [], spf slf)]) (⟨laws_markText.snd N, hs, trivial⟩)
theorem sndF (N : Nat) : ∀ n, Sound Try.prog E 107 (spf (mF N n))
  | 0 => sound_none Try.func107 (c := code) (by kernel_rfl) (by kernel_rfl) (spf (mF N 0)) (fun _ => rfl)
  | n + 1 => by
    have hr := fun (a0 : List Branch) (a1 : Int) => (run N (orc TD (G N (mF N n)) live [] N 2) (mF N n) a0 a1).trans (congrArg (m0 N (mF N n) a0 a1) (funext fun a => lp2_eq N (mF N n) a0 a1 a))
    exact Mir.sound TD_OK (G_ok N (mF N n) (sndF N n)) mixed Try.func107 (c := code) (by kernel_rfl) (by kernel_rfl) (spf (mF N (n + 1))) (Nat.le_of_ble_eq_true (by kernel_rfl)) live [] (by
      rintro ⟨a0, a1, _⟩ r h
      exact ⟨N, 2, (hr a0 a1).trans h⟩)
theorem snd (N : Nat) : Sound Try.prog E 107 (sp N) := sndF N N
end laws_markBranchS
namespace laws_markBranch
noncomputable def code : Code := Try.f46.body.getD .skip
abbrev live : Live := []
noncomputable def G (N : Nat) : Ctx E := gam [(107, [], laws_markBranchS.sp N)]
noncomputable def m0 (N : Nat) (a0 : Branch) (a1 : Int) : Option R :=
  ob (laws_markBranchS.m N a0.Kids a1) fun y1 =>
  some (y1.1, (Branch.mk a0.Key a0.Value a0.At y1.2))
theorem run (N : Nat) (o0 : Orc E R) (a0 : Branch) (a1 : Int) : runF TD (G N) live [] Try.f46 code (sp N) o0 (a0, a1, ()) = m0 N a0 a1 := by kernel_rfl
theorem G_ok (N : Nat) : GamOK Try.prog (G N) := gam_ok (l := [(107, [], laws_markBranchS.sp N)]) (⟨laws_markBranchS.snd N, trivial⟩)
theorem snd (N : Nat) : Sound Try.prog E 46 (sp N) :=
  Mir.sound TD_OK (G_ok N) mixed Try.func46 (c := code) (by kernel_rfl) (by kernel_rfl) (sp N) (Nat.le_of_ble_eq_true (by kernel_rfl)) live [] (by
    rintro ⟨a0, a1, _⟩ r h
    exact ⟨N, 2, ((run N _ a0 a1).trans rfl).trans h⟩)
end laws_markBranch
namespace laws_markMapStepS
noncomputable def code : Code := Try.f119.body.getD .skip
abbrev live : Live := [(2, [0, 1, 5])]
noncomputable def G (N : Nat) : Ctx E := gam [(93, [], laws_markText.sp N)]
noncomputable def loop2 : Code := codeAt code [1, 0, 1, 0]
noncomputable def body2 : Code := codeAt loop2 [0]
noncomputable def K2 (N : Nat) (o0 : Orc E R) : KT E R := kAt T (G N) live [] o0 code [1, 0, 1, 0] (kfin T Try.f119 (sp N))
noncomputable def St2 (a0 : List MapStep) (a1 : Int) : (Int × Int × (List MapStep)) → St E
  | (v0, v1, v2) => { ρ := [(0, .c (.at (.own 0))), (1, .c (.at (.int .i64 v0))), (5, .c (.at (.int .i64 v1)))], H := [(0, .row 156 (.st 156) v2 false)], nx := 1, n := 28, pin := [0] }
noncomputable def m0 (N : Nat) (a0 : List MapStep) (a1 : Int) (lp2 : Int × Int × (List MapStep) → Option R) : Option R :=
  lp2 (a1, (0:Int), a0)
theorem run (N : Nat) (o0 : Orc E R) (a0 : List MapStep) (a1 : Int) : runF T (G N) live [] Try.f119 code (sp N) o0 (a0, a1, ()) = m0 N a0 a1 (fun a => o0 loop2 (K2 N o0) (St2 a0 a1 a)) := by kernel_rfl
theorem body2_0 (N : Nat) (o0 : Orc E R) (o1 : Orc E R) (q1 : St E → Option R) (a0 : List MapStep) (a1 : Int) (v0 : Int) (v1 : Int) (v2 : List MapStep) : runA T (G N) live [] o1 body2 (St2 a0 a1 (v0, v1, v2)) (kloop [0, 1, 5] q1 (K2 N o0)) = step2 N a0 a1 (fun a => q1 (St2 a0 a1 a)) (v0, v1, v2) := by kernel_rfl
theorem lp2_eq (N : Nat) (a0 : List MapStep) (a1 : Int) (a : Int × Int × (List MapStep)) : (orc T (G N) live [] N 2) loop2 (K2 N (orc T (G N) live [] N 2)) (St2 a0 a1 a) = lp2 N a0 a1 a :=
  (orc_loop (b := body2) (live := [0, 1, 5]) (by kernel_rfl)).trans (iter_eq (St2 a0 a1) _ _ (fun q1 a => by
    have hc := congrFun (congrFun (rfl : (step2 N a0 a1) = (step2 N a0 a1)) (fun a => q1 (St2 a0 a1 a))) a
    obtain ⟨u0, u1, u2⟩ := a
    exact (body2_0 N (orc T (G N) live [] N 2) (orc T (G N) live [] N 1) q1 a0 a1 u0 u1 u2).trans hc) N a)
theorem G_ok (N : Nat) : GamOK Try.prog (G N) := gam_ok (l := [(93, [], laws_markText.sp N)]) (⟨laws_markText.snd N, trivial⟩)
theorem snd (N : Nat) : Sound Try.prog E 119 (sp N) :=
  Mir.sound T_OK (G_ok N) mixed Try.func119 (c := code) (by kernel_rfl) (by kernel_rfl) (sp N) (Nat.le_of_ble_eq_true (by kernel_rfl)) live [] (by
    rintro ⟨a0, a1, _⟩ r h
    exact ⟨N, 2, ((run N _ a0 a1).trans (congrArg (m0 N a0 a1) (funext fun a => lp2_eq N a0 a1 a))).trans h⟩)
end laws_markMapStepS
namespace laws_markMapProof
noncomputable def code : Code := Try.f53.body.getD .skip
abbrev live : Live := []
noncomputable def G (N : Nat) : Ctx E := gam [(119, [], laws_markMapStepS.sp N)]
noncomputable def m0 (N : Nat) (a0 : MapProof) (a1 : Int) : Option R :=
  ob (laws_markMapStepS.m N a0.Steps a1) fun y1 =>
  some (y1.1, (MapProof.mk a0.Found a0.Key a0.Value y1.2))
theorem run (N : Nat) (o0 : Orc E R) (a0 : MapProof) (a1 : Int) : runF T (G N) live [] Try.f53 code (sp N) o0 (a0, a1, ()) = m0 N a0 a1 := by kernel_rfl
theorem G_ok (N : Nat) : GamOK Try.prog (G N) := gam_ok (l := [(119, [], laws_markMapStepS.sp N)]) (⟨laws_markMapStepS.snd N, trivial⟩)
theorem snd (N : Nat) : Sound Try.prog E 53 (sp N) :=
  Mir.sound T_OK (G_ok N) mixed Try.func53 (c := code) (by kernel_rfl) (by kernel_rfl) (sp N) (Nat.le_of_ble_eq_true (by kernel_rfl)) live [] (by
    rintro ⟨a0, a1, _⟩ r h
    exact ⟨N, 2, ((run N _ a0 a1).trans rfl).trans h⟩)
end laws_markMapProof
namespace laws_heldMapStepS
noncomputable def code : Code := Try.f120.body.getD .skip
abbrev live : Live := [(2, [0, 1, 5])]
noncomputable def G (N : Nat) : Ctx E := gam [(93, [], laws_markText.sp N)]
noncomputable def loop2 : Code := codeAt code [1, 0, 1, 0]
noncomputable def body2 : Code := codeAt loop2 [0]
noncomputable def K2 (N : Nat) (o0 : Orc E R) : KT E R := kAt T (G N) live [] o0 code [1, 0, 1, 0] (kfin T Try.f120 (sp N))
noncomputable def St2 (a0 : List MapStep) (a1 : Int) : (Int × Int) → St E
  | (v1, v2) => { ρ := [(0, .c (.at (.ro 156 (.st 156) a0))), (1, .c (.at (.int .i64 v1))), (5, .c (.at (.int .i64 v2)))], H := [], nx := 0, n := 32, pin := [] }
noncomputable def m0 (N : Nat) (a0 : List MapStep) (a1 : Int) (lp2 : Int × Int → Option R) : Option R :=
  lp2 (a1, (0:Int))
theorem run (N : Nat) (o0 : Orc E R) (a0 : List MapStep) (a1 : Int) : runF T (G N) live [] Try.f120 code (sp N) o0 (a0, a1, ()) = m0 N a0 a1 (fun a => o0 loop2 (K2 N o0) (St2 a0 a1 a)) := by kernel_rfl
theorem body2_0 (N : Nat) (o0 : Orc E R) (o1 : Orc E R) (q1 : St E → Option R) (a0 : List MapStep) (a1 : Int) (v1 : Int) (v2 : Int) : runA T (G N) live [] o1 body2 (St2 a0 a1 (v1, v2)) (kloop [0, 1, 5] q1 (K2 N o0)) = step2 N a0 a1 (fun a => q1 (St2 a0 a1 a)) (v1, v2) := by kernel_rfl
theorem lp2_eq (N : Nat) (a0 : List MapStep) (a1 : Int) (a : Int × Int) : (orc T (G N) live [] N 2) loop2 (K2 N (orc T (G N) live [] N 2)) (St2 a0 a1 a) = lp2 N a0 a1 a :=
  (orc_loop (b := body2) (live := [0, 1, 5]) (by kernel_rfl)).trans (iter_eq (St2 a0 a1) _ _ (fun q1 a => by
    have hc := congrFun (congrFun (rfl : (step2 N a0 a1) = (step2 N a0 a1)) (fun a => q1 (St2 a0 a1 a))) a
    obtain ⟨u0, u1⟩ := a
    exact (body2_0 N (orc T (G N) live [] N 2) (orc T (G N) live [] N 1) q1 a0 a1 u0 u1).trans hc) N a)
theorem G_ok (N : Nat) : GamOK Try.prog (G N) := gam_ok (l := [(93, [], laws_markText.sp N)]) (⟨laws_markText.snd N, trivial⟩)
theorem snd (N : Nat) : Sound Try.prog E 120 (sp N) :=
  Mir.sound T_OK (G_ok N) mixed Try.func120 (c := code) (by kernel_rfl) (by kernel_rfl) (sp N) (Nat.le_of_ble_eq_true (by kernel_rfl)) live [] (by
    rintro ⟨a0, a1, _⟩ r h
    exact ⟨N, 2, ((run N _ a0 a1).trans (congrArg (m0 N a0 a1) (funext fun a => lp2_eq N a0 a1 a))).trans h⟩)
end laws_heldMapStepS
namespace laws_heldMapProof
noncomputable def code : Code := Try.f54.body.getD .skip
abbrev live : Live := []
noncomputable def G (N : Nat) : Ctx E := gam [(120, [], laws_heldMapStepS.sp N)]
noncomputable def m0 (N : Nat) (a0 : MapProof) (a1 : Int) : Option R :=
  ob (laws_heldMapStepS.m N a0.Steps a1) fun y1 =>
  bif (decide (y1 < (0:Int))) then
    some (-1:Int)
  else
  some y1
theorem run (N : Nat) (o0 : Orc E R) (a0 : MapProof) (a1 : Int) : runF T (G N) live [] Try.f54 code (sp N) o0 (a0, a1, ()) = m0 N a0 a1 := by kernel_rfl
theorem G_ok (N : Nat) : GamOK Try.prog (G N) := gam_ok (l := [(120, [], laws_heldMapStepS.sp N)]) (⟨laws_heldMapStepS.snd N, trivial⟩)
theorem snd (N : Nat) : Sound Try.prog E 54 (sp N) :=
  Mir.sound T_OK (G_ok N) mixed Try.func54 (c := code) (by kernel_rfl) (by kernel_rfl) (sp N) (Nat.le_of_ble_eq_true (by kernel_rfl)) live [] (by
    rintro ⟨a0, a1, _⟩ r h
    exact ⟨N, 2, ((run N _ a0 a1).trans rfl).trans h⟩)
end laws_heldMapProof
namespace laws_FnExactProveKey
noncomputable def code : Code := Try.f8.body.getD .skip
abbrev live : Live := []
noncomputable def G (N : Nat) : Ctx E := gam [(41, [], laws_szBranch.sp N), (43, [], laws_toBranch.sp N), (50, [], spec_ProveKey.sp N), (51, [], impl_ProveKey.sp N), (52, [], laws_eqMapProof.sp N), (45, [], laws_eqBranch.sp N), (46, [], laws_markBranch.sp N), (53, [], laws_markMapProof.sp N), (54, [], laws_heldMapProof.sp N)]
noncomputable def m0 (N : Nat) (a0 : Branch) (a1 : ByteArray) : Option R :=
  bif (decide ((a1.size : Int) > (1048576:Int))) then
    some true
  else
  ob (laws_szBranch.m N (Branch.mk a0.Key a0.Value a0.At a0.Kids) (1048576:Int)) fun y1 =>
  bif (decide (y1 < (0:Int))) then
    some true
  else
  ob (laws_toBranch.m N (Branch.mk a0.Key a0.Value a0.At a0.Kids)) fun y2 =>
  ob (spec_ProveKey.m N (Branch.mk y2.Key y2.Value y2.At y2.Kids) a1) fun y3 =>
  ob (laws_toBranch.m N (Branch.mk a0.Key a0.Value a0.At a0.Kids)) fun y4 =>
  ob (impl_ProveKey.m N (Branch.mk y4.Key y4.Value y4.At y4.Kids) a1) fun y5 =>
  ob (laws_eqMapProof.m N y5.1 y3.1) fun y6 =>
  bif (!y6) then
    some false
  else
  bif (bif false then true else (y5.2 != y3.2)) then
    some false
  else
  ob (laws_toBranch.m N (Branch.mk a0.Key a0.Value a0.At a0.Kids)) fun y7 =>
  ob (laws_eqBranch.m N (Branch.mk y4.Key y4.Value y4.At y4.Kids) (Branch.mk y7.Key y7.Value y7.At y7.Kids)) fun y8 =>
  bif (!y8) then
    some false
  else
  ob (laws_markBranch.m N (Branch.mk y4.Key y4.Value y4.At y4.Kids) (1:Int)) fun y9 =>
  bif (decide (y9.1 < (0:Int))) then
    some false
  else
  ob (laws_eqMapProof.m N y5.1 y3.1) fun y10 =>
  bif (bif false then true else (!y10)) then
    some false
  else
  bif (bif false then true else (y5.2 != y3.2)) then
    some false
  else
  ob (laws_markMapProof.m N y5.1 (1:Int)) fun y11 =>
  ob (laws_heldMapProof.m N (MapProof.mk y5.1.Found y5.1.Key y5.1.Value y11.2.Steps) (1:Int)) fun y12 =>
  bif (decide (y12 < (0:Int))) then
    some false
  else
  bif (y12 != y11.1) then
    some false
  else
  ob (laws_toBranch.m N (Branch.mk a0.Key a0.Value a0.At a0.Kids)) fun y13 =>
  ob (impl_ProveKey.m N (Branch.mk y13.Key y13.Value y13.At y13.Kids) a1) fun y14 =>
  ob (laws_eqMapProof.m N y14.1 y3.1) fun y15 =>
  bif (!y15) then
    some false
  else
  bif (bif false then true else (y14.2 != y3.2)) then
    some false
  else
  ob (laws_heldMapProof.m N (MapProof.mk y5.1.Found y5.1.Key y5.1.Value y11.2.Steps) (1:Int)) fun y16 =>
  bif (decide (y16 < (0:Int))) then
    some false
  else
  bif (y16 != y11.1) then
    some false
  else
  some true
theorem run (N : Nat) (o0 : Orc E R) (a0 : Branch) (a1 : ByteArray) : runF T (G N) live [] Try.f8 code (sp N) o0 (a0, a1, ()) = m0 N a0 a1 := by kernel_rfl
theorem G_ok (N : Nat) : GamOK Try.prog (G N) := gam_ok (l := [(41, [], laws_szBranch.sp N), (43, [], laws_toBranch.sp N), (50, [], spec_ProveKey.sp N), (51, [], impl_ProveKey.sp N), (52, [], laws_eqMapProof.sp N), (45, [], laws_eqBranch.sp N), (46, [], laws_markBranch.sp N), (53, [], laws_markMapProof.sp N), (54, [], laws_heldMapProof.sp N)]) (⟨laws_szBranch.snd N, laws_toBranch.snd N, spec_ProveKey.snd N, impl_ProveKey.snd N, laws_eqMapProof.snd N, laws_eqBranch.snd N, laws_markBranch.snd N, laws_markMapProof.snd N, laws_heldMapProof.snd N, trivial⟩)
theorem snd (N : Nat) : Sound Try.prog E 8 (sp N) :=
  Mir.sound T_OK (G_ok N) mixed Try.func8 (c := code) (by kernel_rfl) (by kernel_rfl) (sp N) (Nat.le_of_ble_eq_true (by kernel_rfl)) live [] (by
    rintro ⟨a0, a1, _⟩ r h
    exact ⟨N, 2, ((run N _ a0 a1).trans rfl).trans h⟩)
end laws_FnExactProveKey
namespace laws_szStringS
noncomputable def code : Code := Try.f126.body.getD .skip
abbrev live : Live := [(5, [0, 1, 5])]
noncomputable def G (N : Nat) : Ctx E := gam []
noncomputable def loop5 : Code := codeAt code [1, 1, 1, 0, 1, 0]
noncomputable def body5 : Code := codeAt loop5 [0]
noncomputable def K5 (N : Nat) (o0 : Orc E R) : KT E R := kAt T (G N) live [] o0 code [1, 1, 1, 0, 1, 0] (kfin T Try.f126 (sp N))
noncomputable def St5 (a0 : List ByteArray) (a1 : Int) : (Int × Int) → St E
  | (v1, v2) => { ρ := [(0, .c (.at (.ro 9 .str a0))), (1, .c (.at (.int .i64 v1))), (5, .c (.at (.int .i64 v2)))], H := [], nx := 0, n := 28, pin := [] }
noncomputable def m0 (N : Nat) (a0 : List ByteArray) (a1 : Int) (lp5 : Int × Int → Option R) : Option R :=
  bif (decide ((w64 (a1 - (a0.length : Int))) < (0:Int))) then
    some (-1:Int)
  else
  lp5 ((w64 (a1 - (a0.length : Int))), (0:Int))
theorem run (N : Nat) (o0 : Orc E R) (a0 : List ByteArray) (a1 : Int) : runF T (G N) live [] Try.f126 code (sp N) o0 (a0, a1, ()) = m0 N a0 a1 (fun a => o0 loop5 (K5 N o0) (St5 a0 a1 a)) := by kernel_rfl
theorem body5_0 (N : Nat) (o0 : Orc E R) (o1 : Orc E R) (q1 : St E → Option R) (a0 : List ByteArray) (a1 : Int) (v1 : Int) (v2 : Int) : runA T (G N) live [] o1 body5 (St5 a0 a1 (v1, v2)) (kloop [0, 1, 5] q1 (K5 N o0)) = step5 N a0 a1 (fun a => q1 (St5 a0 a1 a)) (v1, v2) := by kernel_rfl
theorem lp5_eq (N : Nat) (a0 : List ByteArray) (a1 : Int) (a : Int × Int) : (orc T (G N) live [] N 2) loop5 (K5 N (orc T (G N) live [] N 2)) (St5 a0 a1 a) = lp5 N a0 a1 a :=
  (orc_loop (b := body5) (live := [0, 1, 5]) (by kernel_rfl)).trans (iter_eq (St5 a0 a1) _ _ (fun q1 a => by
    have hc := congrFun (congrFun (rfl : (step5 N a0 a1) = (step5 N a0 a1)) (fun a => q1 (St5 a0 a1 a))) a
    obtain ⟨u0, u1⟩ := a
    exact (body5_0 N (orc T (G N) live [] N 2) (orc T (G N) live [] N 1) q1 a0 a1 u0 u1).trans hc) N a)
theorem G_ok (N : Nat) : GamOK Try.prog (G N) := gam_ok (l := []) (trivial)
theorem snd (N : Nat) : Sound Try.prog E 126 (sp N) :=
  Mir.sound T_OK (G_ok N) mixed Try.func126 (c := code) (by kernel_rfl) (by kernel_rfl) (sp N) (Nat.le_of_ble_eq_true (by kernel_rfl)) live [] (by
    rintro ⟨a0, a1, _⟩ r h
    exact ⟨N, 2, ((run N _ a0 a1).trans (congrArg (m0 N a0 a1) (funext fun a => lp5_eq N a0 a1 a))).trans h⟩)
end laws_szStringS
namespace laws_szReply
noncomputable def code : Code := Try.f229.body.getD .skip
abbrev live : Live := []
noncomputable def G (N : Nat) : Ctx E := gam []
noncomputable def m0 (N : Nat) (a0 : Reply) (a1 : Int) : Option R :=
  bif (decide ((w64 (a1 - (a0.Value.size : Int))) < (0:Int))) then
    some (-1:Int)
  else
  some (w64 (a1 - (a0.Value.size : Int)))
theorem run (N : Nat) (o0 : Orc E R) (a0 : Reply) (a1 : Int) : runF T (G N) live [] Try.f229 code (sp N) o0 (a0, a1, ()) = m0 N a0 a1 := by kernel_rfl
theorem G_ok (N : Nat) : GamOK Try.prog (G N) := gam_ok (l := []) (trivial)
theorem snd (N : Nat) : Sound Try.prog E 229 (sp N) :=
  Mir.sound T_OK (G_ok N) mixed Try.func229 (c := code) (by kernel_rfl) (by kernel_rfl) (sp N) (Nat.le_of_ble_eq_true (by kernel_rfl)) live [] (by
    rintro ⟨a0, a1, _⟩ r h
    exact ⟨N, 2, ((run N _ a0 a1).trans rfl).trans h⟩)
end laws_szReply
namespace laws_szSession
noncomputable def code : Code := Try.f191.body.getD .skip
abbrev live : Live := []
noncomputable def G (N : Nat) : Ctx E := gam [(229, [], laws_szReply.sp N)]
noncomputable def m0 (N : Nat) (a0 : Session) (a1 : Int) : Option R :=
  ob (laws_szReply.m N (Reply.mk a0.Last.Kind a0.Last.Place a0.Last.Value) a1) fun y1 =>
  bif (decide (y1 < (0:Int))) then
    some (-1:Int)
  else
  some y1
theorem run (N : Nat) (o0 : Orc E R) (a0 : Session) (a1 : Int) : runF T (G N) live [] Try.f191 code (sp N) o0 (a0, a1, ()) = m0 N a0 a1 := by kernel_rfl
theorem G_ok (N : Nat) : GamOK Try.prog (G N) := gam_ok (l := [(229, [], laws_szReply.sp N)]) (⟨laws_szReply.snd N, trivial⟩)
theorem snd (N : Nat) : Sound Try.prog E 191 (sp N) :=
  Mir.sound T_OK (G_ok N) mixed Try.func191 (c := code) (by kernel_rfl) (by kernel_rfl) (sp N) (Nat.le_of_ble_eq_true (by kernel_rfl)) live [] (by
    rintro ⟨a0, a1, _⟩ r h
    exact ⟨N, 2, ((run N _ a0 a1).trans rfl).trans h⟩)
end laws_szSession
namespace laws_szSessionS
noncomputable def code : Code := Try.f127.body.getD .skip
abbrev live : Live := [(5, [0, 1, 5])]
noncomputable def G (N : Nat) : Ctx E := gam [(191, [], laws_szSession.sp N)]
noncomputable def loop5 : Code := codeAt code [1, 1, 1, 0, 1, 0]
noncomputable def body5 : Code := codeAt loop5 [0]
noncomputable def K5 (N : Nat) (o0 : Orc E R) : KT E R := kAt T (G N) live [] o0 code [1, 1, 1, 0, 1, 0] (kfin T Try.f127 (sp N))
noncomputable def St5 (a0 : List Session) (a1 : Int) : (Int × Int) → St E
  | (v1, v2) => { ρ := [(0, .c (.at (.ro 222 (.st 222) a0))), (1, .c (.at (.int .i64 v1))), (5, .c (.at (.int .i64 v2)))], H := [], nx := 0, n := 27, pin := [] }
noncomputable def m0 (N : Nat) (a0 : List Session) (a1 : Int) (lp5 : Int × Int → Option R) : Option R :=
  bif (decide ((w64 (a1 - (a0.length : Int))) < (0:Int))) then
    some (-1:Int)
  else
  lp5 ((w64 (a1 - (a0.length : Int))), (0:Int))
theorem run (N : Nat) (o0 : Orc E R) (a0 : List Session) (a1 : Int) : runF T (G N) live [] Try.f127 code (sp N) o0 (a0, a1, ()) = m0 N a0 a1 (fun a => o0 loop5 (K5 N o0) (St5 a0 a1 a)) := by kernel_rfl
theorem body5_0 (N : Nat) (o0 : Orc E R) (o1 : Orc E R) (q1 : St E → Option R) (a0 : List Session) (a1 : Int) (v1 : Int) (v2 : Int) : runA T (G N) live [] o1 body5 (St5 a0 a1 (v1, v2)) (kloop [0, 1, 5] q1 (K5 N o0)) = step5 N a0 a1 (fun a => q1 (St5 a0 a1 a)) (v1, v2) := by kernel_rfl
theorem lp5_eq (N : Nat) (a0 : List Session) (a1 : Int) (a : Int × Int) : (orc T (G N) live [] N 2) loop5 (K5 N (orc T (G N) live [] N 2)) (St5 a0 a1 a) = lp5 N a0 a1 a :=
  (orc_loop (b := body5) (live := [0, 1, 5]) (by kernel_rfl)).trans (iter_eq (St5 a0 a1) _ _ (fun q1 a => by
    have hc := congrFun (congrFun (rfl : (step5 N a0 a1) = (step5 N a0 a1)) (fun a => q1 (St5 a0 a1 a))) a
    obtain ⟨u0, u1⟩ := a
    exact (body5_0 N (orc T (G N) live [] N 2) (orc T (G N) live [] N 1) q1 a0 a1 u0 u1).trans hc) N a)
theorem G_ok (N : Nat) : GamOK Try.prog (G N) := gam_ok (l := [(191, [], laws_szSession.sp N)]) (⟨laws_szSession.snd N, trivial⟩)
theorem snd (N : Nat) : Sound Try.prog E 127 (sp N) :=
  Mir.sound T_OK (G_ok N) mixed Try.func127 (c := code) (by kernel_rfl) (by kernel_rfl) (sp N) (Nat.le_of_ble_eq_true (by kernel_rfl)) live [] (by
    rintro ⟨a0, a1, _⟩ r h
    exact ⟨N, 2, ((run N _ a0 a1).trans (congrArg (m0 N a0 a1) (funext fun a => lp5_eq N a0 a1 a))).trans h⟩)
end laws_szSessionS
namespace laws_szLedger
noncomputable def code : Code := Try.f63.body.getD .skip
abbrev live : Live := []
noncomputable def G (N : Nat) : Ctx E := gam [(126, [], laws_szStringS.sp N), (41, [], laws_szBranch.sp N), (127, [], laws_szSessionS.sp N)]
noncomputable def m0 (N : Nat) (a0 : Ledger) (a1 : Int) : Option R :=
  ob (laws_szStringS.m N a0.Leaves a1) fun y1 =>
  bif (decide (y1 < (0:Int))) then
    some (-1:Int)
  else
  ob (laws_szBranch.m N (Branch.mk a0.Map.Key a0.Map.Value a0.Map.At a0.Map.Kids) y1) fun y2 =>
  bif (decide (y2 < (0:Int))) then
    some (-1:Int)
  else
  ob (laws_szSessionS.m N a0.Sessions y2) fun y3 =>
  bif (decide (y3 < (0:Int))) then
    some (-1:Int)
  else
  some y3
theorem run (N : Nat) (o0 : Orc E R) (a0 : Ledger) (a1 : Int) : runF T (G N) live [] Try.f63 code (sp N) o0 (a0, a1, ()) = m0 N a0 a1 := by kernel_rfl
theorem G_ok (N : Nat) : GamOK Try.prog (G N) := gam_ok (l := [(126, [], laws_szStringS.sp N), (41, [], laws_szBranch.sp N), (127, [], laws_szSessionS.sp N)]) (⟨laws_szStringS.snd N, laws_szBranch.snd N, laws_szSessionS.snd N, trivial⟩)
theorem snd (N : Nat) : Sound Try.prog E 63 (sp N) :=
  Mir.sound T_OK (G_ok N) mixed Try.func63 (c := code) (by kernel_rfl) (by kernel_rfl) (sp N) (Nat.le_of_ble_eq_true (by kernel_rfl)) live [] (by
    rintro ⟨a0, a1, _⟩ r h
    exact ⟨N, 2, ((run N _ a0 a1).trans rfl).trans h⟩)
end laws_szLedger
namespace laws_toStringS
noncomputable def code : Code := Try.f129.body.getD .skip
abbrev live : Live := [(3, [0, 3, 4])]
noncomputable def G (N : Nat) : Ctx E := gam []
noncomputable def loop3 : Code := codeAt code [1, 1, 0, 1, 0]
noncomputable def body3 : Code := codeAt loop3 [0]
noncomputable def K3 (N : Nat) (o0 : Orc E R) : KT E R := kAt T (G N) live [] o0 code [1, 1, 0, 1, 0] (kfin T Try.f129 (sp N))
noncomputable def St3 (a0 : List ByteArray) : (Int × (List ByteArray)) → St E
  | (v1, v2) => { ρ := [(0, .c (.at (.ro 9 .str a0))), (3, .c (.at (.own 0))), (4, .c (.at (.int .i64 v1)))], H := [(0, .row 9 .str v2 false)], nx := 1, n := 22, pin := [] }
noncomputable def m0 (N : Nat) (a0 : List ByteArray) (lp3 : Int × (List ByteArray) → Option R) : Option R :=
  bif (decide (0 ≤ (a0.length : Int))) then
  bif (room (Int.toNat (a0.length : Int)) 16) then
  lp3 ((0:Int), (List.replicate (Int.toNat (a0.length : Int)) ByteArray.empty))
  else none
  else none
theorem run (N : Nat) (o0 : Orc E R) (a0 : List ByteArray) : runF T (G N) live [] Try.f129 code (sp N) o0 (a0, ()) = m0 N a0 (fun a => o0 loop3 (K3 N o0) (St3 a0 a)) := by kernel_rfl
theorem body3_0 (N : Nat) (o0 : Orc E R) (o1 : Orc E R) (q1 : St E → Option R) (a0 : List ByteArray) (v1 : Int) (v2 : List ByteArray) : runA T (G N) live [] o1 body3 (St3 a0 (v1, v2)) (kloop [0, 3, 4] q1 (K3 N o0)) = step3 N a0 (fun a => q1 (St3 a0 a)) (v1, v2) := by kernel_rfl
theorem lp3_eq (N : Nat) (a0 : List ByteArray) (a : Int × (List ByteArray)) : (orc T (G N) live [] N 2) loop3 (K3 N (orc T (G N) live [] N 2)) (St3 a0 a) = lp3 N a0 a :=
  (orc_loop (b := body3) (live := [0, 3, 4]) (by kernel_rfl)).trans (iter_eq (St3 a0) _ _ (fun q1 a => by
    have hc := congrFun (congrFun (rfl : (step3 N a0) = (step3 N a0)) (fun a => q1 (St3 a0 a))) a
    obtain ⟨u0, u1⟩ := a
    exact (body3_0 N (orc T (G N) live [] N 2) (orc T (G N) live [] N 1) q1 a0 u0 u1).trans hc) N a)
theorem G_ok (N : Nat) : GamOK Try.prog (G N) := gam_ok (l := []) (trivial)
theorem snd (N : Nat) : Sound Try.prog E 129 (sp N) :=
  Mir.sound T_OK (G_ok N) mixed Try.func129 (c := code) (by kernel_rfl) (by kernel_rfl) (sp N) (Nat.le_of_ble_eq_true (by kernel_rfl)) live [] (by
    rintro ⟨a0, _⟩ r h
    exact ⟨N, 2, ((run N _ a0).trans (congrArg (m0 N a0) (funext fun a => lp3_eq N a0 a))).trans h⟩)
end laws_toStringS
namespace laws_toReply
noncomputable def code : Code := Try.f232.body.getD .skip
abbrev live : Live := []
noncomputable def G (N : Nat) : Ctx E := gam []
noncomputable def m0 (N : Nat) (a0 : Reply) : Option R :=
  some a0
theorem run (N : Nat) (o0 : Orc E R) (a0 : Reply) : runF T (G N) live [] Try.f232 code (sp N) o0 (a0, ()) = m0 N a0 := by kernel_rfl
theorem G_ok (N : Nat) : GamOK Try.prog (G N) := gam_ok (l := []) (trivial)
theorem snd (N : Nat) : Sound Try.prog E 232 (sp N) :=
  Mir.sound T_OK (G_ok N) mixed Try.func232 (c := code) (by kernel_rfl) (by kernel_rfl) (sp N) (Nat.le_of_ble_eq_true (by kernel_rfl)) live [] (by
    rintro ⟨a0, _⟩ r h
    exact ⟨N, 2, ((run N _ a0).trans rfl).trans h⟩)
end laws_toReply
namespace laws_toSession
noncomputable def code : Code := Try.f193.body.getD .skip
abbrev live : Live := []
noncomputable def G (N : Nat) : Ctx E := gam [(232, [], laws_toReply.sp N)]
noncomputable def m0 (N : Nat) (a0 : Session) : Option R :=
  ob (laws_toReply.m N (Reply.mk a0.Last.Kind a0.Last.Place a0.Last.Value)) fun y1 =>
  some (Session.mk a0.Id a0.Seq y1)
theorem run (N : Nat) (o0 : Orc E R) (a0 : Session) : runF T (G N) live [] Try.f193 code (sp N) o0 (a0, ()) = m0 N a0 := by kernel_rfl
theorem G_ok (N : Nat) : GamOK Try.prog (G N) := gam_ok (l := [(232, [], laws_toReply.sp N)]) (⟨laws_toReply.snd N, trivial⟩)
theorem snd (N : Nat) : Sound Try.prog E 193 (sp N) :=
  Mir.sound T_OK (G_ok N) mixed Try.func193 (c := code) (by kernel_rfl) (by kernel_rfl) (sp N) (Nat.le_of_ble_eq_true (by kernel_rfl)) live [] (by
    rintro ⟨a0, _⟩ r h
    exact ⟨N, 2, ((run N _ a0).trans rfl).trans h⟩)
end laws_toSession
namespace laws_toSessionS
noncomputable def code : Code := Try.f130.body.getD .skip
abbrev live : Live := [(3, [0, 3, 4])]
noncomputable def G (N : Nat) : Ctx E := gam [(193, [], laws_toSession.sp N)]
noncomputable def loop3 : Code := codeAt code [1, 1, 0, 1, 0]
noncomputable def body3 : Code := codeAt loop3 [0]
noncomputable def K3 (N : Nat) (o0 : Orc E R) : KT E R := kAt T (G N) live [] o0 code [1, 1, 0, 1, 0] (kfin T Try.f130 (sp N))
noncomputable def St3 (a0 : List Session) : (Int × (List Session)) → St E
  | (v1, v2) => { ρ := [(0, .c (.at (.ro 222 (.st 222) a0))), (3, .c (.at (.own 0))), (4, .c (.at (.int .i64 v1)))], H := [(0, .row 174 (.st 174) v2 false)], nx := 1, n := 23, pin := [] }
noncomputable def m0 (N : Nat) (a0 : List Session) (lp3 : Int × (List Session) → Option R) : Option R :=
  bif (decide (0 ≤ (a0.length : Int))) then
  bif (room (Int.toNat (a0.length : Int)) 48) then
  lp3 ((0:Int), (List.replicate (Int.toNat (a0.length : Int)) (Session.mk (0:Int) (0:Int) (Reply.mk (0:Int) (0:Int) ByteArray.empty))))
  else none
  else none
theorem run (N : Nat) (o0 : Orc E R) (a0 : List Session) : runF T (G N) live [] Try.f130 code (sp N) o0 (a0, ()) = m0 N a0 (fun a => o0 loop3 (K3 N o0) (St3 a0 a)) := by kernel_rfl
theorem body3_0 (N : Nat) (o0 : Orc E R) (o1 : Orc E R) (q1 : St E → Option R) (a0 : List Session) (v1 : Int) (v2 : List Session) : runA T (G N) live [] o1 body3 (St3 a0 (v1, v2)) (kloop [0, 3, 4] q1 (K3 N o0)) = step3 N a0 (fun a => q1 (St3 a0 a)) (v1, v2) := by kernel_rfl
theorem lp3_eq (N : Nat) (a0 : List Session) (a : Int × (List Session)) : (orc T (G N) live [] N 2) loop3 (K3 N (orc T (G N) live [] N 2)) (St3 a0 a) = lp3 N a0 a :=
  (orc_loop (b := body3) (live := [0, 3, 4]) (by kernel_rfl)).trans (iter_eq (St3 a0) _ _ (fun q1 a => by
    have hc := congrFun (congrFun (rfl : (step3 N a0) = (step3 N a0)) (fun a => q1 (St3 a0 a))) a
    obtain ⟨u0, u1⟩ := a
    exact (body3_0 N (orc T (G N) live [] N 2) (orc T (G N) live [] N 1) q1 a0 u0 u1).trans hc) N a)
theorem G_ok (N : Nat) : GamOK Try.prog (G N) := gam_ok (l := [(193, [], laws_toSession.sp N)]) (⟨laws_toSession.snd N, trivial⟩)
theorem snd (N : Nat) : Sound Try.prog E 130 (sp N) :=
  Mir.sound T_OK (G_ok N) mixed Try.func130 (c := code) (by kernel_rfl) (by kernel_rfl) (sp N) (Nat.le_of_ble_eq_true (by kernel_rfl)) live [] (by
    rintro ⟨a0, _⟩ r h
    exact ⟨N, 2, ((run N _ a0).trans (congrArg (m0 N a0) (funext fun a => lp3_eq N a0 a))).trans h⟩)
end laws_toSessionS
namespace laws_toLedger
noncomputable def code : Code := Try.f65.body.getD .skip
abbrev live : Live := []
noncomputable def G (N : Nat) : Ctx E := gam [(129, [], laws_toStringS.sp N), (43, [], laws_toBranch.sp N), (130, [], laws_toSessionS.sp N)]
noncomputable def m0 (N : Nat) (a0 : Ledger) : Option R :=
  ob (laws_toStringS.m N a0.Leaves) fun y1 =>
  ob (laws_toBranch.m N (Branch.mk a0.Map.Key a0.Map.Value a0.Map.At a0.Map.Kids)) fun y2 =>
  ob (laws_toSessionS.m N a0.Sessions) fun y3 =>
  some (Ledger.mk y1 (Branch.mk y2.Key y2.Value y2.At y2.Kids) y3)
theorem run (N : Nat) (o0 : Orc E R) (a0 : Ledger) : runF TD (G N) live [] Try.f65 code (sp N) o0 (a0, ()) = m0 N a0 := by kernel_rfl
theorem G_ok (N : Nat) : GamOK Try.prog (G N) := gam_ok (l := [(129, [], laws_toStringS.sp N), (43, [], laws_toBranch.sp N), (130, [], laws_toSessionS.sp N)]) (⟨laws_toStringS.snd N, laws_toBranch.snd N, laws_toSessionS.snd N, trivial⟩)
theorem snd (N : Nat) : Sound Try.prog E 65 (sp N) :=
  Mir.sound TD_OK (G_ok N) mixed Try.func65 (c := code) (by kernel_rfl) (by kernel_rfl) (sp N) (Nat.le_of_ble_eq_true (by kernel_rfl)) live [] (by
    rintro ⟨a0, _⟩ r h
    exact ⟨N, 2, ((run N _ a0).trans rfl).trans h⟩)
end laws_toLedger
namespace spec_l06Hashes
noncomputable def code : Code := Try.f134.body.getD .skip
abbrev live : Live := [(4, [0, 3])]
noncomputable def G (N : Nat) : Ctx E := gam []
noncomputable def loop4 : Code := codeAt code [1, 1, 0, 1, 0]
noncomputable def body4 : Code := codeAt loop4 [0]
noncomputable def K4 (N : Nat) (o0 : Orc E R) : KT E R := kAt T (G N) live [] o0 code [1, 1, 0, 1, 0] (kfin T Try.f134 (sp N))
noncomputable def St4 (a0 : List ByteArray) : Int → St E
  | v1 => { ρ := [(0, .c (.at (.ro 9 .str a0))), (3, .c (.at (.int .i64 v1)))], H := [], nx := 0, n := 19, pin := [] }
noncomputable def m0 (N : Nat) (a0 : List ByteArray) (lp4 : Int → Option R) : Option R :=
  bif (decide ((a0.length : Int) > (64:Int))) then
    some false
  else
  lp4 (0:Int)
theorem run (N : Nat) (o0 : Orc E R) (a0 : List ByteArray) : runF T (G N) live [] Try.f134 code (sp N) o0 (a0, ()) = m0 N a0 (fun a => o0 loop4 (K4 N o0) (St4 a0 a)) := by kernel_rfl
theorem body4_0 (N : Nat) (o0 : Orc E R) (o1 : Orc E R) (q1 : St E → Option R) (a0 : List ByteArray) (v1 : Int) : runA T (G N) live [] o1 body4 (St4 a0 v1) (kloop [0, 3] q1 (K4 N o0)) = step4 N a0 (fun a => q1 (St4 a0 a)) v1 := by kernel_rfl
theorem lp4_eq (N : Nat) (a0 : List ByteArray) (a : Int) : (orc T (G N) live [] N 2) loop4 (K4 N (orc T (G N) live [] N 2)) (St4 a0 a) = lp4 N a0 a :=
  (orc_loop (b := body4) (live := [0, 3]) (by kernel_rfl)).trans (iter_eq (St4 a0) _ _ (fun q1 a => by
    have hc := congrFun (congrFun (rfl : (step4 N a0) = (step4 N a0)) (fun a => q1 (St4 a0 a))) a
    exact (body4_0 N (orc T (G N) live [] N 2) (orc T (G N) live [] N 1) q1 a0 a).trans hc) N a)
theorem G_ok (N : Nat) : GamOK Try.prog (G N) := gam_ok (l := []) (trivial)
theorem snd (N : Nat) : Sound Try.prog E 134 (sp N) :=
  Mir.sound T_OK (G_ok N) mixed Try.func134 (c := code) (by kernel_rfl) (by kernel_rfl) (sp N) (Nat.le_of_ble_eq_true (by kernel_rfl)) live [] (by
    rintro ⟨a0, _⟩ r h
    exact ⟨N, 2, ((run N _ a0).trans (congrArg (m0 N a0) (funext fun a => lp4_eq N a0 a))).trans h⟩)
end spec_l06Hashes
namespace spec_LedgerOK
noncomputable def code : Code := Try.f68.body.getD .skip
abbrev live : Live := [(4, [1, 3])]
noncomputable def G (N : Nat) : Ctx E := gam [(134, [], spec_l06Hashes.sp N), (95, [], spec_MapOK.sp N), (135, [], spec_l01In.sp N)]
noncomputable def loop4 : Code := codeAt code [1, 1, 0, 1, 0]
noncomputable def body4 : Code := codeAt loop4 [0]
noncomputable def K4 (N : Nat) (o0 : Orc E R) : KT E R := kAt T (G N) live [] o0 code [1, 1, 0, 1, 0] (kfin T Try.f68 (sp N))
noncomputable def St4 (a0 : Ledger) : Int → St E
  | v0 => { ρ := [(1, .c (.at (.ptr 0 0))), (3, .c (.at (.int .i64 v0)))], H := [(0, .box 106 [.ro 9 .str a0.Leaves, .str a0.Map.Key, .str a0.Map.Value, .int .i64 a0.Map.At, .ro 71 (.st 71) a0.Map.Kids, .ro 174 (.st 174) a0.Sessions])], nx := 1, n := 86, pin := [] }
noncomputable def m0 (N : Nat) (a0 : Ledger) (lp4 : Int → Option R) : Option R :=
  bif (decide ((a0.Leaves.length : Int) > (50:Int))) then
    some false
  else
  ob (spec_l06Hashes.m N a0.Leaves) fun y1 =>
  bif (bif false then true else (!y1)) then
    some false
  else
  ob (spec_MapOK.m N (Branch.mk a0.Map.Key a0.Map.Value a0.Map.At a0.Map.Kids)) fun y2 =>
  bif (bif false then true else (!y2)) then
    some false
  else
  bif (bif false then true else (decide ((a0.Sessions.length : Int) > (8:Int)))) then
    some false
  else
  lp4 (0:Int)
theorem run (N : Nat) (o0 : Orc E R) (a0 : Ledger) : runF T (G N) live [] Try.f68 code (sp N) o0 (a0, ()) = m0 N a0 (fun a => o0 loop4 (K4 N o0) (St4 a0 a)) := by kernel_rfl
theorem body4_0 (N : Nat) (o0 : Orc E R) (o1 : Orc E R) (q1 : St E → Option R) (a0 : Ledger) (v0 : Int) : runA T (G N) live [] o1 body4 (St4 a0 v0) (kloop [1, 3] q1 (K4 N o0)) = step4 N a0 (fun a => q1 (St4 a0 a)) v0 := by kernel_rfl
theorem lp4_eq (N : Nat) (a0 : Ledger) (a : Int) : (orc T (G N) live [] N 2) loop4 (K4 N (orc T (G N) live [] N 2)) (St4 a0 a) = lp4 N a0 a :=
  (orc_loop (b := body4) (live := [1, 3]) (by kernel_rfl)).trans (iter_eq (St4 a0) _ _ (fun q1 a => by
    have hc := congrFun (congrFun (rfl : (step4 N a0) = (step4 N a0)) (fun a => q1 (St4 a0 a))) a
    exact (body4_0 N (orc T (G N) live [] N 2) (orc T (G N) live [] N 1) q1 a0 a).trans hc) N a)
theorem G_ok (N : Nat) : GamOK Try.prog (G N) := gam_ok (l := [(134, [], spec_l06Hashes.sp N), (95, [], spec_MapOK.sp N), (135, [], spec_l01In.sp N)]) (⟨spec_l06Hashes.snd N, spec_MapOK.snd N, spec_l01In.snd N, trivial⟩)
theorem snd (N : Nat) : Sound Try.prog E 68 (sp N) :=
  Mir.sound T_OK (G_ok N) mixed Try.func68 (c := code) (by kernel_rfl) (by kernel_rfl) (sp N) (Nat.le_of_ble_eq_true (by kernel_rfl)) live [] (by
    rintro ⟨a0, _⟩ r h
    exact ⟨N, 2, ((run N _ a0).trans (congrArg (m0 N a0) (funext fun a => lp4_eq N a0 a))).trans h⟩)
end spec_LedgerOK
namespace spec_l06Half
noncomputable def code : Code := Try.f230.body.getD .skip
abbrev live : Live := [(2, [0, 3])]
noncomputable def G (N : Nat) : Ctx E := gam []
noncomputable def loop2 : Code := codeAt code [1, 1, 0, 0]
noncomputable def body2 : Code := codeAt loop2 [0]
noncomputable def K2 (N : Nat) (o0 : Orc E R) : KT E R := kAt T (G N) live [] o0 code [1, 1, 0, 0] (kfin T Try.f230 (sp N))
noncomputable def St2 (a0 : Int) : Int → St E
  | v1 => { ρ := [(0, .c (.at (.int .i64 a0))), (3, .c (.at (.int .i64 v1)))], H := [], nx := 0, n := 11, pin := [] }
noncomputable def m0 (N : Nat) (a0 : Int) (lp2 : Int → Option R) : Option R :=
  lp2 (1:Int)
theorem run (N : Nat) (o0 : Orc E R) (a0 : Int) : runF T (G N) live [] Try.f230 code (sp N) o0 (a0, ()) = m0 N a0 (fun a => o0 loop2 (K2 N o0) (St2 a0 a)) := by kernel_rfl
theorem body2_0 (N : Nat) (o0 : Orc E R) (o1 : Orc E R) (q1 : St E → Option R) (a0 : Int) (v1 : Int) : runA T (G N) live [] o1 body2 (St2 a0 v1) (kloop [0, 3] q1 (K2 N o0)) = step2 N a0 (fun a => q1 (St2 a0 a)) v1 := by kernel_rfl
theorem lp2_eq (N : Nat) (a0 : Int) (a : Int) : (orc T (G N) live [] N 2) loop2 (K2 N (orc T (G N) live [] N 2)) (St2 a0 a) = lp2 N a0 a :=
  (orc_loop (b := body2) (live := [0, 3]) (by kernel_rfl)).trans (iter_eq (St2 a0) _ _ (fun q1 a => by
    have hc := congrFun (congrFun (rfl : (step2 N a0) = (step2 N a0)) (fun a => q1 (St2 a0 a))) a
    exact (body2_0 N (orc T (G N) live [] N 2) (orc T (G N) live [] N 1) q1 a0 a).trans hc) N a)
theorem G_ok (N : Nat) : GamOK Try.prog (G N) := gam_ok (l := []) (trivial)
theorem snd (N : Nat) : Sound Try.prog E 230 (sp N) :=
  Mir.sound T_OK (G_ok N) mixed Try.func230 (c := code) (by kernel_rfl) (by kernel_rfl) (sp N) (Nat.le_of_ble_eq_true (by kernel_rfl)) live [] (by
    rintro ⟨a0, _⟩ r h
    exact ⟨N, 2, ((run N _ a0).trans (congrArg (m0 N a0) (funext fun a => lp2_eq N a0 a))).trans h⟩)
end spec_l06Half
namespace spec_l06Node
noncomputable def code : Code := Try.f231.body.getD .skip
abbrev live : Live := []
noncomputable def G (N : Nat) : Ctx E := gam [(166, [], spec_l01Hash.sp N)]
noncomputable def m0 (N : Nat) (a0 : ByteArray) (a1 : ByteArray) : Option R :=
  bif (room (([(1:Int)]).length + (bytesOf a0).length) 1) then
  bif (room (([(1:Int)] ++ (bytesOf a0)).length + (bytesOf a1).length) 1) then
  ob (spec_l01Hash.m N (([(1:Int)] ++ (bytesOf a0)) ++ (bytesOf a1))) fun y1 =>
  some y1
  else none
  else none
theorem run (N : Nat) (o0 : Orc E R) (a0 : ByteArray) (a1 : ByteArray) : runF T (G N) live [] Try.f231 code (sp N) o0 (a0, a1, ()) = m0 N a0 a1 := by kernel_rfl
theorem G_ok (N : Nat) : GamOK Try.prog (G N) := gam_ok (l := [(166, [], spec_l01Hash.sp N)]) (⟨spec_l01Hash.snd N, trivial⟩)
theorem snd (N : Nat) : Sound Try.prog E 231 (sp N) :=
  Mir.sound T_OK (G_ok N) mixed Try.func231 (c := code) (by kernel_rfl) (by kernel_rfl) (sp N) (Nat.le_of_ble_eq_true (by kernel_rfl)) live [] (by
    rintro ⟨a0, a1, _⟩ r h
    exact ⟨N, 2, ((run N _ a0 a1).trans rfl).trans h⟩)
end spec_l06Node
namespace spec_l06Tree
noncomputable def code : Code := Try.f192.body.getD .skip
abbrev live : Live := []
noncomputable def G (N : Nat) (slf : (List ByteArray) → Option R) : Ctx E := gam [(166, [], spec_l01Hash.sp N), (230, [], spec_l06Half.sp N), (192, [], spf slf), (231, [], spec_l06Node.sp N)]
noncomputable def m0 (N : Nat) (slf : (List ByteArray) → Option R) (a0 : List ByteArray) : Option R :=
  bif ((a0.length : Int) == (0:Int)) then
    ob (spec_l01Hash.m N ([] : List Int)) fun y1 =>
    some y1
  else
  bif ((a0.length : Int) == (1:Int)) then
    bif (decide (0 ≤ (0:Int))) then
    bif (decide ((0:Int) < (a0.length : Int))) then
    some (a0.getD 0 ByteArray.empty)
    else none
    else none
  else
  ob (spec_l06Half.m N (a0.length : Int)) fun y2 =>
  bif (decide (0 ≤ y2)) then
  bif (decide (y2 ≤ ((a0.length : Nat) : Int))) then
  ob (slf (a0.take (Int.toNat y2))) fun y3 =>
  bif (decide (0 ≤ y2)) then
  bif (decide (y2 ≤ ((a0.length : Nat) : Int))) then
  ob (slf (a0.drop (Int.toNat y2))) fun y4 =>
  ob (spec_l06Node.m N y3 y4) fun y5 =>
  some y5
  else none
  else none
  else none
  else none
theorem run (N : Nat) (o0 : Orc E R) (slf : (List ByteArray) → Option R) (a0 : List ByteArray) : runF T (G N slf) live [] Try.f192 code (spf (mb N slf)) o0 (a0, ()) = m0 N slf a0 := by kernel_rfl
theorem G_ok (N : Nat) (slf : (List ByteArray) → Option R) (hs : Sound Try.prog E 192 (spf slf)) : GamOK Try.prog (G N slf) := gam_ok (l := [(166, [], spec_l01Hash.sp N), (230, [], spec_l06Half.sp N), (192, [], spf slf), (231, [], spec_l06Node.sp N)]) (⟨spec_l01Hash.snd N, spec_l06Half.snd N, hs, spec_l06Node.snd N, trivial⟩)
theorem sndF (N : Nat) : ∀ n, Sound Try.prog E 192 (spf (mF N n))
  | 0 => sound_none Try.func192 (c := code) (by kernel_rfl) (by kernel_rfl) (spf (mF N 0)) (fun _ => rfl)
  | n + 1 => by
    have hr := fun (a0 : List ByteArray) => (run N (orc T (G N (mF N n)) live [] N 2) (mF N n) a0).trans rfl
    exact Mir.sound T_OK (G_ok N (mF N n) (sndF N n)) mixed Try.func192 (c := code) (by kernel_rfl) (by kernel_rfl) (spf (mF N (n + 1))) (Nat.le_of_ble_eq_true (by kernel_rfl)) live [] (by
      rintro ⟨a0, _⟩ r h
      exact ⟨N, 2, (hr a0).trans h⟩)
theorem snd (N : Nat) : Sound Try.prog E 192 (sp N) := sndF N N
end spec_l06Tree
namespace spec_l09Root
noncomputable def code : Code := Try.f128.body.getD .skip
abbrev live : Live := []
noncomputable def G (N : Nat) : Ctx E := gam [(192, [], spec_l06Tree.sp N), (123, [], spec_l07Root.sp N), (166, [], spec_l01Hash.sp N)]
noncomputable def m0 (N : Nat) (a0 : Ledger) : Option R :=
  ob (spec_l06Tree.m N a0.Leaves) fun y1 =>
  bif (decide ((⟨#[114, 111, 111, 116]⟩ : ByteArray).size + y1.size ≤ 9223372036854775807)) then
  ob (spec_l07Root.m N (Branch.mk a0.Map.Key a0.Map.Value a0.Map.At a0.Map.Kids)) fun y2 =>
  bif (decide (((⟨#[114, 111, 111, 116]⟩ : ByteArray) ++ y1).size + y2.size ≤ 9223372036854775807)) then
  ob (spec_l01Hash.m N (bytesOf (((⟨#[114, 111, 111, 116]⟩ : ByteArray) ++ y1) ++ y2))) fun y3 =>
  some y3
  else none
  else none
theorem run (N : Nat) (o0 : Orc E R) (a0 : Ledger) : runF T (G N) live [] Try.f128 code (sp N) o0 (a0, ()) = m0 N a0 := by kernel_rfl
theorem G_ok (N : Nat) : GamOK Try.prog (G N) := gam_ok (l := [(192, [], spec_l06Tree.sp N), (123, [], spec_l07Root.sp N), (166, [], spec_l01Hash.sp N)]) (⟨spec_l06Tree.snd N, spec_l07Root.snd N, spec_l01Hash.snd N, trivial⟩)
theorem snd (N : Nat) : Sound Try.prog E 128 (sp N) :=
  Mir.sound T_OK (G_ok N) mixed Try.func128 (c := code) (by kernel_rfl) (by kernel_rfl) (sp N) (Nat.le_of_ble_eq_true (by kernel_rfl)) live [] (by
    rintro ⟨a0, _⟩ r h
    exact ⟨N, 2, ((run N _ a0).trans rfl).trans h⟩)
end spec_l09Root
namespace spec_LedgerRoot
noncomputable def code : Code := Try.f64.body.getD .skip
abbrev live : Live := []
noncomputable def G (N : Nat) : Ctx E := gam [(68, [], spec_LedgerOK.sp N), (128, [], spec_l09Root.sp N)]
noncomputable def m0 (N : Nat) (a0 : Ledger) : Option R :=
  ob (spec_LedgerOK.m N (Ledger.mk a0.Leaves (Branch.mk a0.Map.Key a0.Map.Value a0.Map.At a0.Map.Kids) a0.Sessions)) fun y1 =>
  bif (!y1) then
    some (ByteArray.empty, (1:Int))
  else
  ob (spec_l09Root.m N (Ledger.mk a0.Leaves (Branch.mk a0.Map.Key a0.Map.Value a0.Map.At a0.Map.Kids) a0.Sessions)) fun y2 =>
  some (y2, (0:Int))
theorem run (N : Nat) (o0 : Orc E R) (a0 : Ledger) : runF T (G N) live [] Try.f64 code (sp N) o0 (a0, ()) = m0 N a0 := by kernel_rfl
theorem G_ok (N : Nat) : GamOK Try.prog (G N) := gam_ok (l := [(68, [], spec_LedgerOK.sp N), (128, [], spec_l09Root.sp N)]) (⟨spec_LedgerOK.snd N, spec_l09Root.snd N, trivial⟩)
theorem snd (N : Nat) : Sound Try.prog E 64 (sp N) :=
  Mir.sound T_OK (G_ok N) mixed Try.func64 (c := code) (by kernel_rfl) (by kernel_rfl) (sp N) (Nat.le_of_ble_eq_true (by kernel_rfl)) live [] (by
    rintro ⟨a0, _⟩ r h
    exact ⟨N, 2, ((run N _ a0).trans rfl).trans h⟩)
end spec_LedgerRoot
namespace impl_isHash_1
noncomputable def code : Code := Try.f196.body.getD .skip
abbrev live : Live := []
noncomputable def G (N : Nat) : Ctx E := gam []
noncomputable def m0 (N : Nat) (a0 : ByteArray) : Option R :=
  some ((a0.size : Int) != (32:Int))
theorem run (N : Nat) (o0 : Orc E R) (a0 : ByteArray) : runF T (G N) live [] Try.f196 code (sp N) o0 (a0, ()) = m0 N a0 := by kernel_rfl
theorem G_ok (N : Nat) : GamOK Try.prog (G N) := gam_ok (l := []) (trivial)
theorem snd (N : Nat) : Sound Try.prog E 196 (sp N) :=
  Mir.sound T_OK (G_ok N) mixed Try.func196 (c := code) (by kernel_rfl) (by kernel_rfl) (sp N) (Nat.le_of_ble_eq_true (by kernel_rfl)) live [] (by
    rintro ⟨a0, _⟩ r h
    exact ⟨N, 2, ((run N _ a0).trans rfl).trans h⟩)
end impl_isHash_1
end Mir.Y
