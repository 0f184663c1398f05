/- The models are what the functions do. -/
import Derived.Test.YtohcahijaoemjaaCP1
namespace Mir.Y
set_option linter.unusedVariables false
set_option maxRecDepth 10000
open Go Go.Proofs Mir
namespace laws_FnExactChain
noncomputable def code : Code := Try.f3.body.getD .skip
abbrev live : Live := []
noncomputable def G (N : Nat) : Ctx E := gam [(14, [], spec_Chain.sp N), (15, [], impl_Chain.sp N)]
noncomputable def m0 (N : Nat) (a0 : ByteArray) (a1 : Int) (a2 : Int) : Option R :=
  bif (decide ((a0.size : Int) > (1048576:Int))) then
    some true
  else
  ob (spec_Chain.m N a0 a1 a2) fun y1 =>
  ob (impl_Chain.m N a0 a1 a2) fun y2 =>
  bif (!seq y2.1 y1.1) then
    some false
  else
  bif (bif false then true else (y2.2 != y1.2)) then
    some false
  else
  some true
theorem run (N : Nat) (o0 : Orc E R) (a0 : ByteArray) (a1 : Int) (a2 : Int) : runF T (G N) live [] Try.f3 code (sp N) o0 (a0, a1, a2, ()) = m0 N a0 a1 a2 := by kernel_rfl
theorem G_ok (N : Nat) : GamOK Try.prog (G N) := gam_ok (l := [(14, [], spec_Chain.sp N), (15, [], impl_Chain.sp N)]) (⟨spec_Chain.snd N, impl_Chain.snd N, trivial⟩)
theorem snd (N : Nat) : Sound Try.prog E 3 (sp N) :=
  Mir.sound T_OK (G_ok N) mixed Try.func3 (c := code) (by kernel_rfl) (by kernel_rfl) (sp N) (Nat.le_of_ble_eq_true (by kernel_rfl)) live [] (by
    rintro ⟨a0, a1, a2, _⟩ r h
    exact ⟨N, 2, ((run N _ a0 a1 a2).trans rfl).trans h⟩)
end laws_FnExactChain
namespace spec_l08Index
noncomputable def code : Code := Try.f56.body.getD .skip
abbrev live : Live := []
noncomputable def G (N : Nat) : Ctx E := gam [(50, [], spec_l01In.sp N)]
noncomputable def m0 (N : Nat) (a0 : Int) : Option R :=
  ob (spec_l01In.m N a0 (0:Int) (3:Int)) fun y1 =>
  some y1
theorem run (N : Nat) (o0 : Orc E R) (a0 : Int) : runF T (G N) live [] Try.f56 code (sp N) o0 (a0, ()) = m0 N a0 := by kernel_rfl
theorem G_ok (N : Nat) : GamOK Try.prog (G N) := gam_ok (l := [(50, [], spec_l01In.sp N)]) (⟨spec_l01In.snd N, trivial⟩)
theorem snd (N : Nat) : Sound Try.prog E 56 (sp N) :=
  Mir.sound T_OK (G_ok N) mixed Try.func56 (c := code) (by kernel_rfl) (by kernel_rfl) (sp N) (Nat.le_of_ble_eq_true (by kernel_rfl)) live [] (by
    rintro ⟨a0, _⟩ r h
    exact ⟨N, 2, ((run N _ a0).trans rfl).trans h⟩)
end spec_l08Index
namespace spec_l08Secret
noncomputable def code : Code := Try.f57.body.getD .skip
abbrev live : Live := []
noncomputable def G (N : Nat) : Ctx E := gam [(91, [], spec_l01Hash.sp N)]
noncomputable def m0 (N : Nat) (a0 : ByteArray) (a1 : Int) (a2 : Int) : Option R :=
  bif (room (([(4:Int), (wu8 a1), (wu8 a2)]).length + (bytesOf a0).length) 1) then
  ob (spec_l01Hash.m N ([(4:Int), (wu8 a1), (wu8 a2)] ++ (bytesOf a0))) fun y1 =>
  some y1
  else none
theorem run (N : Nat) (o0 : Orc E R) (a0 : ByteArray) (a1 : Int) (a2 : Int) : runF T (G N) live [] Try.f57 code (sp N) o0 (a0, a1, a2, ()) = m0 N a0 a1 a2 := by kernel_rfl
theorem G_ok (N : Nat) : GamOK Try.prog (G N) := gam_ok (l := [(91, [], spec_l01Hash.sp N)]) (⟨spec_l01Hash.snd N, trivial⟩)
theorem snd (N : Nat) : Sound Try.prog E 57 (sp N) :=
  Mir.sound T_OK (G_ok N) mixed Try.func57 (c := code) (by kernel_rfl) (by kernel_rfl) (sp N) (Nat.le_of_ble_eq_true (by kernel_rfl)) live [] (by
    rintro ⟨a0, a1, a2, _⟩ r h
    exact ⟨N, 2, ((run N _ a0 a1 a2).trans rfl).trans h⟩)
end spec_l08Secret
namespace spec_SecretPart
noncomputable def code : Code := Try.f16.body.getD .skip
abbrev live : Live := []
noncomputable def G (N : Nat) : Ctx E := gam [(56, [], spec_l08Index.sp N), (50, [], spec_l01In.sp N), (57, [], spec_l08Secret.sp N)]
noncomputable def m0 (N : Nat) (a0 : ByteArray) (a1 : Int) (a2 : Int) : Option R :=
  bif (decide ((a0.size : Int) > (65536:Int))) then
    some (ByteArray.empty, (2:Int))
  else
  bif ((a0.size : Int) != (32:Int)) then
    some (ByteArray.empty, (1:Int))
  else
  ob (spec_l08Index.m N a1) fun y1 =>
  bif (!y1) then
    some (ByteArray.empty, (4:Int))
  else
  ob (spec_l01In.m N a2 (0:Int) (17:Int)) fun y2 =>
  bif (bif false then true else (!y2)) then
    some (ByteArray.empty, (4:Int))
  else
  ob (spec_l08Secret.m N a0 a1 a2) fun y3 =>
  some (y3, (0:Int))
theorem run (N : Nat) (o0 : Orc E R) (a0 : ByteArray) (a1 : Int) (a2 : Int) : runF T (G N) live [] Try.f16 code (sp N) o0 (a0, a1, a2, ()) = m0 N a0 a1 a2 := by kernel_rfl
theorem G_ok (N : Nat) : GamOK Try.prog (G N) := gam_ok (l := [(56, [], spec_l08Index.sp N), (50, [], spec_l01In.sp N), (57, [], spec_l08Secret.sp N)]) (⟨spec_l08Index.snd N, spec_l01In.snd N, spec_l08Secret.snd N, trivial⟩)
theorem snd (N : Nat) : Sound Try.prog E 16 (sp N) :=
  Mir.sound T_OK (G_ok N) mixed Try.func16 (c := code) (by kernel_rfl) (by kernel_rfl) (sp N) (Nat.le_of_ble_eq_true (by kernel_rfl)) live [] (by
    rintro ⟨a0, a1, a2, _⟩ r h
    exact ⟨N, 2, ((run N _ a0 a1 a2).trans rfl).trans h⟩)
end spec_SecretPart
namespace impl_seedCode
noncomputable def code : Code := Try.f58.body.getD .skip
abbrev live : Live := []
noncomputable def G (N : Nat) : Ctx E := gam [(52, [], impl_isText.sp N), (53, [], impl_isHash.sp N), (54, [], impl_within.sp N)]
noncomputable def m0 (N : Nat) (a0 : ByteArray) (a1 : Int) : Option R :=
  ob (impl_isText.m N ([a0])) fun y1 =>
  bif (!y1) then
    some (2:Int)
  else
  ob (impl_isHash.m N ([a0])) fun y2 =>
  bif (!y2) then
    some (1:Int)
  else
  ob (impl_within.m N a1 (0:Int) (3:Int)) fun y3 =>
  bif (!y3) then
    some (4:Int)
  else
  some (0:Int)
theorem run (N : Nat) (o0 : Orc E R) (a0 : ByteArray) (a1 : Int) : runF T (G N) live [] Try.f58 code (sp N) o0 (a0, a1, ()) = m0 N a0 a1 := by kernel_rfl
theorem G_ok (N : Nat) : GamOK Try.prog (G N) := gam_ok (l := [(52, [], impl_isText.sp N), (53, [], impl_isHash.sp N), (54, [], impl_within.sp N)]) (⟨impl_isText.snd N, impl_isHash.snd N, impl_within.snd N, trivial⟩)
theorem snd (N : Nat) : Sound Try.prog E 58 (sp N) :=
  Mir.sound T_OK (G_ok N) mixed Try.func58 (c := code) (by kernel_rfl) (by kernel_rfl) (sp N) (Nat.le_of_ble_eq_true (by kernel_rfl)) live [] (by
    rintro ⟨a0, a1, _⟩ r h
    exact ⟨N, 2, ((run N _ a0 a1).trans rfl).trans h⟩)
end impl_seedCode
namespace impl_secretPart
noncomputable def code : Code := Try.f59.body.getD .skip
abbrev live : Live := []
noncomputable def G (N : Nat) : Ctx E := gam [(96, [], impl_number.sp N), (95, [], impl_hash.sp N)]
noncomputable def m0 (N : Nat) (a0 : ByteArray) (a1 : Int) (a2 : Int) : Option R :=
  ob (impl_number.m N a1 (1:Int)) fun y1 =>
  bif (decide ((⟨#[4]⟩ : ByteArray).size + y1.size ≤ 9223372036854775807)) then
  ob (impl_number.m N a2 (1:Int)) fun y2 =>
  bif (decide (((⟨#[4]⟩ : ByteArray) ++ y1).size + y2.size ≤ 9223372036854775807)) then
  bif (decide ((((⟨#[4]⟩ : ByteArray) ++ y1) ++ y2).size + a0.size ≤ 9223372036854775807)) then
  ob (impl_hash.m N ((((⟨#[4]⟩ : ByteArray) ++ y1) ++ y2) ++ a0)) fun y3 =>
  some y3
  else none
  else none
  else none
theorem run (N : Nat) (o0 : Orc E R) (a0 : ByteArray) (a1 : Int) (a2 : Int) : runF T (G N) live [] Try.f59 code (sp N) o0 (a0, a1, a2, ()) = m0 N a0 a1 a2 := by kernel_rfl
theorem G_ok (N : Nat) : GamOK Try.prog (G N) := gam_ok (l := [(96, [], impl_number.sp N), (95, [], impl_hash.sp N)]) (⟨impl_number.snd N, impl_hash.snd N, trivial⟩)
theorem snd (N : Nat) : Sound Try.prog E 59 (sp N) :=
  Mir.sound T_OK (G_ok N) mixed Try.func59 (c := code) (by kernel_rfl) (by kernel_rfl) (sp N) (Nat.le_of_ble_eq_true (by kernel_rfl)) live [] (by
    rintro ⟨a0, a1, a2, _⟩ r h
    exact ⟨N, 2, ((run N _ a0 a1 a2).trans rfl).trans h⟩)
end impl_secretPart
namespace impl_SecretPart
noncomputable def code : Code := Try.f17.body.getD .skip
abbrev live : Live := []
noncomputable def G (N : Nat) : Ctx E := gam [(58, [], impl_seedCode.sp N), (54, [], impl_within.sp N), (59, [], impl_secretPart.sp N)]
noncomputable def m0 (N : Nat) (a0 : ByteArray) (a1 : Int) (a2 : Int) : Option R :=
  ob (impl_seedCode.m N a0 a1) fun y1 =>
  bif (y1 != (0:Int)) then
    some (ByteArray.empty, y1)
  else
  ob (impl_within.m N a2 (0:Int) (17:Int)) fun y2 =>
  bif (!y2) then
    some (ByteArray.empty, (4:Int))
  else
  ob (impl_secretPart.m N a0 a1 a2) fun y3 =>
  some (y3, (0:Int))
theorem run (N : Nat) (o0 : Orc E R) (a0 : ByteArray) (a1 : Int) (a2 : Int) : runF T (G N) live [] Try.f17 code (sp N) o0 (a0, a1, a2, ()) = m0 N a0 a1 a2 := by kernel_rfl
theorem G_ok (N : Nat) : GamOK Try.prog (G N) := gam_ok (l := [(58, [], impl_seedCode.sp N), (54, [], impl_within.sp N), (59, [], impl_secretPart.sp N)]) (⟨impl_seedCode.snd N, impl_within.snd N, impl_secretPart.snd N, trivial⟩)
theorem snd (N : Nat) : Sound Try.prog E 17 (sp N) :=
  Mir.sound T_OK (G_ok N) mixed Try.func17 (c := code) (by kernel_rfl) (by kernel_rfl) (sp N) (Nat.le_of_ble_eq_true (by kernel_rfl)) live [] (by
    rintro ⟨a0, a1, a2, _⟩ r h
    exact ⟨N, 2, ((run N _ a0 a1 a2).trans rfl).trans h⟩)
end impl_SecretPart
namespace laws_FnExactSecretPart
noncomputable def code : Code := Try.f4.body.getD .skip
abbrev live : Live := []
noncomputable def G (N : Nat) : Ctx E := gam [(16, [], spec_SecretPart.sp N), (17, [], impl_SecretPart.sp N)]
noncomputable def m0 (N : Nat) (a0 : ByteArray) (a1 : Int) (a2 : Int) : Option R :=
  bif (decide ((a0.size : Int) > (1048576:Int))) then
    some true
  else
  ob (spec_SecretPart.m N a0 a1 a2) fun y1 =>
  ob (impl_SecretPart.m N a0 a1 a2) fun y2 =>
  bif (!seq y2.1 y1.1) then
    some false
  else
  bif (bif false then true else (y2.2 != y1.2)) then
    some false
  else
  some true
theorem run (N : Nat) (o0 : Orc E R) (a0 : ByteArray) (a1 : Int) (a2 : Int) : runF T (G N) live [] Try.f4 code (sp N) o0 (a0, a1, a2, ()) = m0 N a0 a1 a2 := by kernel_rfl
theorem G_ok (N : Nat) : GamOK Try.prog (G N) := gam_ok (l := [(16, [], spec_SecretPart.sp N), (17, [], impl_SecretPart.sp N)]) (⟨spec_SecretPart.snd N, impl_SecretPart.snd N, trivial⟩)
theorem snd (N : Nat) : Sound Try.prog E 4 (sp N) :=
  Mir.sound T_OK (G_ok N) mixed Try.func4 (c := code) (by kernel_rfl) (by kernel_rfl) (sp N) (Nat.le_of_ble_eq_true (by kernel_rfl)) live [] (by
    rintro ⟨a0, a1, a2, _⟩ r h
    exact ⟨N, 2, ((run N _ a0 a1 a2).trans rfl).trans h⟩)
end laws_FnExactSecretPart
namespace spec_l08Digits
noncomputable def code : Code := Try.f60.body.getD .skip
abbrev live : Live := [(9, [4, 5, 7]), (5, [3, 4, 5, 6])]
noncomputable def G (N : Nat) : Ctx E := gam [(91, [], spec_l01Hash.sp N)]
noncomputable def loop5 : Code := codeAt code [1, 1, 1, 1, 0, 1, 0]
noncomputable def body5 : Code := codeAt loop5 [0]
noncomputable def loop9 : Code := codeAt code [1, 1, 1, 1, 1, 0, 1, 0]
noncomputable def body9 : Code := codeAt loop9 [0]
noncomputable def K5 (N : Nat) (o0 : Orc E R) : KT E R := kAt T (G N) live [] o0 code [1, 1, 1, 1, 0, 1, 0] (kfin T Try.f60 (sp N))
noncomputable def St5 (a0 : ByteArray) : (ByteArray × Int × Int × (List Int)) → St E
  | (v0, v1, v2, v3) => { ρ := [(3, .c (.at (.str v0))), (4, .c (.at (.own 0))), (5, .c (.at (.int .i64 v1))), (6, .c (.at (.int .i64 v2)))], H := [(0, .row 3 (.int .i64) v3 false)], nx := 1, n := 47, pin := [] }
noncomputable def K9 (N : Nat) (o0 : Orc E R) : KT E R := kAt T (G N) live [] o0 code [1, 1, 1, 1, 1, 0, 1, 0] (kfin T Try.f60 (sp N))
noncomputable def St9 (a0 : ByteArray) : (Int × Int × (List Int)) → St E
  | (v0, v1, v2) => { ρ := [(4, .c (.at (.own 0))), (5, .c (.at (.int .i64 v0))), (7, .c (.at (.int .i64 v1)))], H := [(0, .row 3 (.int .i64) v2 false)], nx := 1, n := 47, pin := [] }
noncomputable def m0 (N : Nat) (a0 : ByteArray) (lp5 : ByteArray × Int × Int × (List Int) → Option R) : Option R :=
  ob (spec_l01Hash.m N (bytesOf a0)) fun y1 =>
  lp5 (y1, (0:Int), (0:Int), ([] : List Int))
theorem run (N : Nat) (o0 : Orc E R) (a0 : ByteArray) : runF T (G N) live [] Try.f60 code (sp N) o0 (a0, ()) = m0 N a0 (fun a => o0 loop5 (K5 N o0) (St5 a0 a)) := by kernel_rfl
theorem body5_0 (N : Nat) (o0 : Orc E R) (o1 : Orc E R) (q1 : St E → Option R) (a0 : ByteArray) (v0 : ByteArray) (v1 : Int) (v2 : Int) (v3 : List Int) : runA T (G N) live [] o1 body5 (St5 a0 (v0, v1, v2, v3)) (kloop [3, 4, 5, 6] q1 (K5 N o0)) = step5 N a0 (fun a => o0 loop9 (K9 N o0) (St9 a0 a)) (fun a => q1 (St5 a0 a)) (v0, v1, v2, v3) := by kernel_rfl
theorem body9_0 (N : Nat) (o0 : Orc E R) (o1 : Orc E R) (q1 : St E → Option R) (a0 : ByteArray) (v0 : Int) (v1 : Int) (v2 : List Int) : runA T (G N) live [] o1 body9 (St9 a0 (v0, v1, v2)) (kloop [4, 5, 7] q1 (K9 N o0)) = step9 N a0 (fun a => q1 (St9 a0 a)) (v0, v1, v2) := by kernel_rfl
theorem lp9_eq (N : Nat) (a0 : ByteArray) (a : Int × Int × (List Int)) : (orc T (G N) live [] N 2) loop9 (K9 N (orc T (G N) live [] N 2)) (St9 a0 a) = lp9 N a0 a :=
  (orc_loop (b := body9) (live := [4, 5, 7]) (by kernel_rfl)).trans (iter_eq (St9 a0) _ _ (fun q1 a => by
    have hc := congrFun (congrFun (rfl : (step9 N a0) = (step9 N a0)) (fun a => q1 (St9 a0 a))) a
    obtain ⟨u0, u1, u2⟩ := a
    exact (body9_0 N (orc T (G N) live [] N 2) (orc T (G N) live [] N 1) q1 a0 u0 u1 u2).trans hc) N a)
theorem lp5_eq (N : Nat) (a0 : ByteArray) (a : ByteArray × Int × Int × (List Int)) : (orc T (G N) live [] N 2) loop5 (K5 N (orc T (G N) live [] N 2)) (St5 a0 a) = lp5 N a0 a :=
  (orc_loop (b := body5) (live := [3, 4, 5, 6]) (by kernel_rfl)).trans (iter_eq (St5 a0) _ _ (fun q1 a => by
    have hc := congrFun (congrFun (congrArg (step5 N a0) (funext fun a => lp9_eq N a0 a)) (fun a => q1 (St5 a0 a))) a
    obtain ⟨u0, u1, u2, u3⟩ := a
    exact (body5_0 N (orc T (G N) live [] N 2) (orc T (G N) live [] N 1) q1 a0 u0 u1 u2 u3).trans hc) N a)
theorem G_ok (N : Nat) : GamOK Try.prog (G N) := gam_ok (l := [(91, [], spec_l01Hash.sp N)]) (⟨spec_l01Hash.snd N, trivial⟩)
theorem snd (N : Nat) : Sound Try.prog E 60 (sp N) :=
  Mir.sound T_OK (G_ok N) mixed Try.func60 (c := code) (by kernel_rfl) (by kernel_rfl) (sp N) (Nat.le_of_ble_eq_true (by kernel_rfl)) live [] (by
    rintro ⟨a0, _⟩ r h
    exact ⟨N, 2, ((run N _ a0).trans (congrArg (m0 N a0) (funext fun a => lp5_eq N a0 a))).trans h⟩)
end spec_l08Digits
namespace spec_Digits
noncomputable def code : Code := Try.f18.body.getD .skip
abbrev live : Live := []
noncomputable def G (N : Nat) : Ctx E := gam [(60, [], spec_l08Digits.sp N)]
noncomputable def m0 (N : Nat) (a0 : ByteArray) : Option R :=
  bif (decide ((a0.size : Int) > (65536:Int))) then
    some (([] : List Int), (2:Int))
  else
  ob (spec_l08Digits.m N a0) fun y1 =>
  some (y1, (0:Int))
theorem run (N : Nat) (o0 : Orc E R) (a0 : ByteArray) : runF T (G N) live [] Try.f18 code (sp N) o0 (a0, ()) = m0 N a0 := by kernel_rfl
theorem G_ok (N : Nat) : GamOK Try.prog (G N) := gam_ok (l := [(60, [], spec_l08Digits.sp N)]) (⟨spec_l08Digits.snd N, trivial⟩)
theorem snd (N : Nat) : Sound Try.prog E 18 (sp N) :=
  Mir.sound T_OK (G_ok N) mixed Try.func18 (c := code) (by kernel_rfl) (by kernel_rfl) (sp N) (Nat.le_of_ble_eq_true (by kernel_rfl)) live [] (by
    rintro ⟨a0, _⟩ r h
    exact ⟨N, 2, ((run N _ a0).trans rfl).trans h⟩)
end spec_Digits
namespace impl_digits
noncomputable def code : Code := Try.f61.body.getD .skip
abbrev live : Live := [(4, [3, 4, 5, 12])]
noncomputable def G (N : Nat) : Ctx E := gam [(95, [], impl_hash.sp N)]
noncomputable def loop4 : Code := codeAt code [1, 1, 1, 0, 1, 0]
noncomputable def body4 : Code := codeAt loop4 [0]
noncomputable def K4 (N : Nat) (o0 : Orc E R) : KT E R := kAt T (G N) live [] o0 code [1, 1, 1, 0, 1, 0] (kfin T Try.f61 (sp N))
noncomputable def St4 (a0 : ByteArray) : (Int × ByteArray × Int × (List Int)) → St E
  | (v0, v1, v2, v3) => { ρ := [(3, .c (.at (.own 0))), (4, .c (.at (.int .i64 v0))), (5, .c (.at (.str v1))), (12, .c (.at (.int .i64 v2)))], H := [(0, .row 3 (.int .i64) v3 false)], nx := 1, n := 44, pin := [] }
noncomputable def m0 (N : Nat) (a0 : ByteArray) (lp4 : Int × ByteArray × Int × (List Int) → Option R) : Option R :=
  ob (impl_hash.m N a0) fun y1 =>
  lp4 ((0:Int), y1, (0:Int), ([] : List Int))
theorem run (N : Nat) (o0 : Orc E R) (a0 : ByteArray) : runF T (G N) live [] Try.f61 code (sp N) o0 (a0, ()) = m0 N a0 (fun a => o0 loop4 (K4 N o0) (St4 a0 a)) := by kernel_rfl
theorem body4_0 (N : Nat) (o0 : Orc E R) (o1 : Orc E R) (q1 : St E → Option R) (a0 : ByteArray) (v0 : Int) (v1 : ByteArray) (v2 : Int) (v3 : List Int) : runA T (G N) live [] o1 body4 (St4 a0 (v0, v1, v2, v3)) (kloop [3, 4, 5, 12] q1 (K4 N o0)) = step4 N a0 (fun a => q1 (St4 a0 a)) (v0, v1, v2, v3) := by kernel_rfl
theorem lp4_eq (N : Nat) (a0 : ByteArray) (a : Int × ByteArray × Int × (List Int)) : (orc T (G N) live [] N 2) loop4 (K4 N (orc T (G N) live [] N 2)) (St4 a0 a) = lp4 N a0 a :=
  (orc_loop (b := body4) (live := [3, 4, 5, 12]) (by kernel_rfl)).trans (iter_eq (St4 a0) _ _ (fun q1 a => by
    have hc := congrFun (congrFun (rfl : (step4 N a0) = (step4 N a0)) (fun a => q1 (St4 a0 a))) a
    obtain ⟨u0, u1, u2, u3⟩ := a
    exact (body4_0 N (orc T (G N) live [] N 2) (orc T (G N) live [] N 1) q1 a0 u0 u1 u2 u3).trans hc) N a)
theorem G_ok (N : Nat) : GamOK Try.prog (G N) := gam_ok (l := [(95, [], impl_hash.sp N)]) (⟨impl_hash.snd N, trivial⟩)
theorem snd (N : Nat) : Sound Try.prog E 61 (sp N) :=
  Mir.sound T_OK (G_ok N) mixed Try.func61 (c := code) (by kernel_rfl) (by kernel_rfl) (sp N) (Nat.le_of_ble_eq_true (by kernel_rfl)) live [] (by
    rintro ⟨a0, _⟩ r h
    exact ⟨N, 2, ((run N _ a0).trans (congrArg (m0 N a0) (funext fun a => lp4_eq N a0 a))).trans h⟩)
end impl_digits
namespace impl_Digits
noncomputable def code : Code := Try.f19.body.getD .skip
abbrev live : Live := []
noncomputable def G (N : Nat) : Ctx E := gam [(52, [], impl_isText.sp N), (61, [], impl_digits.sp N)]
noncomputable def m0 (N : Nat) (a0 : ByteArray) : Option R :=
  ob (impl_isText.m N ([a0])) fun y1 =>
  bif (!y1) then
    some (([] : List Int), (2:Int))
  else
  ob (impl_digits.m N a0) fun y2 =>
  some (y2, (0:Int))
theorem run (N : Nat) (o0 : Orc E R) (a0 : ByteArray) : runF T (G N) live [] Try.f19 code (sp N) o0 (a0, ()) = m0 N a0 := by kernel_rfl
theorem G_ok (N : Nat) : GamOK Try.prog (G N) := gam_ok (l := [(52, [], impl_isText.sp N), (61, [], impl_digits.sp N)]) (⟨impl_isText.snd N, impl_digits.snd N, trivial⟩)
theorem snd (N : Nat) : Sound Try.prog E 19 (sp N) :=
  Mir.sound T_OK (G_ok N) mixed Try.func19 (c := code) (by kernel_rfl) (by kernel_rfl) (sp N) (Nat.le_of_ble_eq_true (by kernel_rfl)) live [] (by
    rintro ⟨a0, _⟩ r h
    exact ⟨N, 2, ((run N _ a0).trans rfl).trans h⟩)
end impl_Digits
namespace laws_eqIntS
noncomputable def code : Code := Try.f20.body.getD .skip
abbrev live : Live := [(4, [0, 1, 5])]
noncomputable def G (N : Nat) : Ctx E := gam []
noncomputable def loop4 : Code := codeAt code [1, 1, 0, 1, 0]
noncomputable def body4 : Code := codeAt loop4 [0]
noncomputable def K4 (N : Nat) (o0 : Orc E R) : KT E R := kAt T (G N) live [] o0 code [1, 1, 0, 1, 0] (kfin T Try.f20 (sp N))
noncomputable def St4 (a0 : List Int) (a1 : List Int) : Int → St E
  | v2 => { ρ := [(0, .c (.at (.ro 3 (.int .i64) a0))), (1, .c (.at (.ro 3 (.int .i64) a1))), (5, .c (.at (.int .i64 v2)))], H := [], nx := 0, n := 26, pin := [] }
noncomputable def m0 (N : Nat) (a0 : List Int) (a1 : List Int) (lp4 : Int → Option R) : Option R :=
  bif ((a0.length : Int) != (a1.length : Int)) then
    some false
  else
  lp4 (0:Int)
theorem run (N : Nat) (o0 : Orc E R) (a0 : List Int) (a1 : List Int) : runF T (G N) live [] Try.f20 code (sp N) o0 (a0, a1, ()) = m0 N a0 a1 (fun a => o0 loop4 (K4 N o0) (St4 a0 a1 a)) := by kernel_rfl
theorem body4_0 (N : Nat) (o0 : Orc E R) (o1 : Orc E R) (q1 : St E → Option R) (a0 : List Int) (a1 : List Int) (v2 : Int) : runA T (G N) live [] o1 body4 (St4 a0 a1 v2) (kloop [0, 1, 5] q1 (K4 N o0)) = step4 N a0 a1 (fun a => q1 (St4 a0 a1 a)) v2 := by kernel_rfl
theorem lp4_eq (N : Nat) (a0 : List Int) (a1 : List Int) (a : Int) : (orc T (G N) live [] N 2) loop4 (K4 N (orc T (G N) live [] N 2)) (St4 a0 a1 a) = lp4 N a0 a1 a :=
  (orc_loop (b := body4) (live := [0, 1, 5]) (by kernel_rfl)).trans (iter_eq (St4 a0 a1) _ _ (fun q1 a => by
    have hc := congrFun (congrFun (rfl : (step4 N a0 a1) = (step4 N a0 a1)) (fun a => q1 (St4 a0 a1 a))) a
    exact (body4_0 N (orc T (G N) live [] N 2) (orc T (G N) live [] N 1) q1 a0 a1 a).trans hc) N a)
theorem G_ok (N : Nat) : GamOK Try.prog (G N) := gam_ok (l := []) (trivial)
theorem snd (N : Nat) : Sound Try.prog E 20 (sp N) :=
  Mir.sound T_OK (G_ok N) mixed Try.func20 (c := code) (by kernel_rfl) (by kernel_rfl) (sp N) (Nat.le_of_ble_eq_true (by kernel_rfl)) live [] (by
    rintro ⟨a0, a1, _⟩ r h
    exact ⟨N, 2, ((run N _ a0 a1).trans (congrArg (m0 N a0 a1) (funext fun a => lp4_eq N a0 a1 a))).trans h⟩)
end laws_eqIntS
namespace laws_markIntS
noncomputable def code : Code := Try.f21.body.getD .skip
abbrev live : Live := [(2, [0, 1, 5])]
noncomputable def G (N : Nat) : Ctx E := gam []
noncomputable def loop2 : Code := codeAt code [1, 0, 1, 0]
noncomputable def body2 : Code := codeAt loop2 [0]
noncomputable def K2 (N : Nat) (o0 : Orc E R) : KT E R := kAt T (G N) live [] o0 code [1, 0, 1, 0] (kfin T Try.f21 (sp N))
noncomputable def St2 (a0 : List Int) (a1 : Int) : (Int × Int × (List Int)) → St E
  | (v0, v1, v2) => { ρ := [(0, .c (.at (.own 0))), (1, .c (.at (.int .i64 v0))), (5, .c (.at (.int .i64 v1)))], H := [(0, .row 3 (.int .i64) v2 false)], nx := 1, n := 19, pin := [0] }
noncomputable def m0 (N : Nat) (a0 : List Int) (a1 : Int) (lp2 : Int × Int × (List Int) → Option R) : Option R :=
  lp2 (a1, (0:Int), a0)
theorem run (N : Nat) (o0 : Orc E R) (a0 : List Int) (a1 : Int) : runF T (G N) live [] Try.f21 code (sp N) o0 (a0, a1, ()) = m0 N a0 a1 (fun a => o0 loop2 (K2 N o0) (St2 a0 a1 a)) := by kernel_rfl
theorem body2_0 (N : Nat) (o0 : Orc E R) (o1 : Orc E R) (q1 : St E → Option R) (a0 : List Int) (a1 : Int) (v0 : Int) (v1 : Int) (v2 : List Int) : runA T (G N) live [] o1 body2 (St2 a0 a1 (v0, v1, v2)) (kloop [0, 1, 5] q1 (K2 N o0)) = step2 N a0 a1 (fun a => q1 (St2 a0 a1 a)) (v0, v1, v2) := by kernel_rfl
theorem lp2_eq (N : Nat) (a0 : List Int) (a1 : Int) (a : Int × Int × (List Int)) : (orc T (G N) live [] N 2) loop2 (K2 N (orc T (G N) live [] N 2)) (St2 a0 a1 a) = lp2 N a0 a1 a :=
  (orc_loop (b := body2) (live := [0, 1, 5]) (by kernel_rfl)).trans (iter_eq (St2 a0 a1) _ _ (fun q1 a => by
    have hc := congrFun (congrFun (rfl : (step2 N a0 a1) = (step2 N a0 a1)) (fun a => q1 (St2 a0 a1 a))) a
    obtain ⟨u0, u1, u2⟩ := a
    exact (body2_0 N (orc T (G N) live [] N 2) (orc T (G N) live [] N 1) q1 a0 a1 u0 u1 u2).trans hc) N a)
theorem G_ok (N : Nat) : GamOK Try.prog (G N) := gam_ok (l := []) (trivial)
theorem snd (N : Nat) : Sound Try.prog E 21 (sp N) :=
  Mir.sound T_OK (G_ok N) mixed Try.func21 (c := code) (by kernel_rfl) (by kernel_rfl) (sp N) (Nat.le_of_ble_eq_true (by kernel_rfl)) live [] (by
    rintro ⟨a0, a1, _⟩ r h
    exact ⟨N, 2, ((run N _ a0 a1).trans (congrArg (m0 N a0 a1) (funext fun a => lp2_eq N a0 a1 a))).trans h⟩)
end laws_markIntS
namespace laws_heldIntS
noncomputable def code : Code := Try.f22.body.getD .skip
abbrev live : Live := [(2, [0, 1, 5])]
noncomputable def G (N : Nat) : Ctx E := gam []
noncomputable def loop2 : Code := codeAt code [1, 0, 1, 0]
noncomputable def body2 : Code := codeAt loop2 [0]
noncomputable def K2 (N : Nat) (o0 : Orc E R) : KT E R := kAt T (G N) live [] o0 code [1, 0, 1, 0] (kfin T Try.f22 (sp N))
noncomputable def St2 (a0 : List Int) (a1 : Int) : (Int × Int) → St E
  | (v1, v2) => { ρ := [(0, .c (.at (.ro 3 (.int .i64) a0))), (1, .c (.at (.int .i64 v1))), (5, .c (.at (.int .i64 v2)))], H := [], nx := 0, n := 21, pin := [] }
noncomputable def m0 (N : Nat) (a0 : List Int) (a1 : Int) (lp2 : Int × Int → Option R) : Option R :=
  lp2 (a1, (0:Int))
theorem run (N : Nat) (o0 : Orc E R) (a0 : List Int) (a1 : Int) : runF T (G N) live [] Try.f22 code (sp N) o0 (a0, a1, ()) = m0 N a0 a1 (fun a => o0 loop2 (K2 N o0) (St2 a0 a1 a)) := by kernel_rfl
theorem body2_0 (N : Nat) (o0 : Orc E R) (o1 : Orc E R) (q1 : St E → Option R) (a0 : List Int) (a1 : Int) (v1 : Int) (v2 : Int) : runA T (G N) live [] o1 body2 (St2 a0 a1 (v1, v2)) (kloop [0, 1, 5] q1 (K2 N o0)) = step2 N a0 a1 (fun a => q1 (St2 a0 a1 a)) (v1, v2) := by kernel_rfl
theorem lp2_eq (N : Nat) (a0 : List Int) (a1 : Int) (a : Int × Int) : (orc T (G N) live [] N 2) loop2 (K2 N (orc T (G N) live [] N 2)) (St2 a0 a1 a) = lp2 N a0 a1 a :=
  (orc_loop (b := body2) (live := [0, 1, 5]) (by kernel_rfl)).trans (iter_eq (St2 a0 a1) _ _ (fun q1 a => by
    have hc := congrFun (congrFun (rfl : (step2 N a0 a1) = (step2 N a0 a1)) (fun a => q1 (St2 a0 a1 a))) a
    obtain ⟨u0, u1⟩ := a
    exact (body2_0 N (orc T (G N) live [] N 2) (orc T (G N) live [] N 1) q1 a0 a1 u0 u1).trans hc) N a)
theorem G_ok (N : Nat) : GamOK Try.prog (G N) := gam_ok (l := []) (trivial)
theorem snd (N : Nat) : Sound Try.prog E 22 (sp N) :=
  Mir.sound T_OK (G_ok N) mixed Try.func22 (c := code) (by kernel_rfl) (by kernel_rfl) (sp N) (Nat.le_of_ble_eq_true (by kernel_rfl)) live [] (by
    rintro ⟨a0, a1, _⟩ r h
    exact ⟨N, 2, ((run N _ a0 a1).trans (congrArg (m0 N a0 a1) (funext fun a => lp2_eq N a0 a1 a))).trans h⟩)
end laws_heldIntS
namespace laws_FnExactDigits
noncomputable def code : Code := Try.f5.body.getD .skip
abbrev live : Live := []
noncomputable def G (N : Nat) : Ctx E := gam [(18, [], spec_Digits.sp N), (19, [], impl_Digits.sp N), (20, [], laws_eqIntS.sp N), (21, [], laws_markIntS.sp N), (22, [], laws_heldIntS.sp N)]
noncomputable def m0 (N : Nat) (a0 : ByteArray) : Option R :=
  bif (decide ((a0.size : Int) > (1048576:Int))) then
    some true
  else
  ob (spec_Digits.m N a0) fun y1 =>
  ob (impl_Digits.m N a0) fun y2 =>
  ob (laws_eqIntS.m N y2.1 y1.1) fun y3 =>
  bif (!y3) then
    some false
  else
  bif (bif false then true else (y2.2 != y1.2)) then
    some false
  else
  ob (laws_markIntS.m N y2.1 (1:Int)) fun y4 =>
  ob (laws_heldIntS.m N y4.2 (1:Int)) fun y5 =>
  bif (decide (y5 < (0:Int))) then
    some false
  else
  bif (y5 != y4.1) then
    some false
  else
  ob (impl_Digits.m N a0) fun y6 =>
  ob (laws_eqIntS.m N y6.1 y1.1) fun y7 =>
  bif (!y7) then
    some false
  else
  bif (bif false then true else (y6.2 != y1.2)) then
    some false
  else
  ob (laws_heldIntS.m N y4.2 (1:Int)) fun y8 =>
  bif (decide (y8 < (0:Int))) then
    some false
  else
  bif (y8 != y4.1) then
    some false
  else
  some true
theorem run (N : Nat) (o0 : Orc E R) (a0 : ByteArray) : runF T (G N) live [] Try.f5 code (sp N) o0 (a0, ()) = m0 N a0 := by kernel_rfl
theorem G_ok (N : Nat) : GamOK Try.prog (G N) := gam_ok (l := [(18, [], spec_Digits.sp N), (19, [], impl_Digits.sp N), (20, [], laws_eqIntS.sp N), (21, [], laws_markIntS.sp N), (22, [], laws_heldIntS.sp N)]) (⟨spec_Digits.snd N, impl_Digits.snd N, laws_eqIntS.snd N, laws_markIntS.snd N, laws_heldIntS.snd N, trivial⟩)
theorem snd (N : Nat) : Sound Try.prog E 5 (sp N) :=
  Mir.sound T_OK (G_ok N) mixed Try.func5 (c := code) (by kernel_rfl) (by kernel_rfl) (sp N) (Nat.le_of_ble_eq_true (by kernel_rfl)) live [] (by
    rintro ⟨a0, _⟩ r h
    exact ⟨N, 2, ((run N _ a0).trans rfl).trans h⟩)
end laws_FnExactDigits
namespace spec_l08Ends
noncomputable def code : Code := Try.f97.body.getD .skip
abbrev live : Live := [(3, [0, 3, 4])]
noncomputable def G (N : Nat) : Ctx E := gam [(91, [], spec_l01Hash.sp N)]
noncomputable def loop3 : Code := codeAt code [1, 1, 0, 1, 0]
noncomputable def body3 : Code := codeAt loop3 [0]
noncomputable def K3 (N : Nat) (o0 : Orc E R) : KT E R := kAt T (G N) live [] o0 code [1, 1, 0, 1, 0] (kfin T Try.f97 (sp N))
noncomputable def St3 (a0 : List ByteArray) : (Int × (List Int)) → St E
  | (v1, v2) => { ρ := [(0, .c (.at (.ro 9 .str a0))), (3, .c (.at (.own 0))), (4, .c (.at (.int .i64 v1)))], H := [(0, .row 5 (.int .u8) v2 false)], nx := 1, n := 20, pin := [] }
noncomputable def m0 (N : Nat) (a0 : List ByteArray) (lp3 : Int × (List Int) → Option R) : Option R :=
  lp3 ((0:Int), [(5:Int)])
theorem run (N : Nat) (o0 : Orc E R) (a0 : List ByteArray) : runF T (G N) live [] Try.f97 code (sp N) o0 (a0, ()) = m0 N a0 (fun a => o0 loop3 (K3 N o0) (St3 a0 a)) := by kernel_rfl
theorem body3_0 (N : Nat) (o0 : Orc E R) (o1 : Orc E R) (q1 : St E → Option R) (a0 : List ByteArray) (v1 : Int) (v2 : List Int) : runA T (G N) live [] o1 body3 (St3 a0 (v1, v2)) (kloop [0, 3, 4] q1 (K3 N o0)) = step3 N a0 (fun a => q1 (St3 a0 a)) (v1, v2) := by kernel_rfl
theorem lp3_eq (N : Nat) (a0 : List ByteArray) (a : Int × (List Int)) : (orc T (G N) live [] N 2) loop3 (K3 N (orc T (G N) live [] N 2)) (St3 a0 a) = lp3 N a0 a :=
  (orc_loop (b := body3) (live := [0, 3, 4]) (by kernel_rfl)).trans (iter_eq (St3 a0) _ _ (fun q1 a => by
    have hc := congrFun (congrFun (rfl : (step3 N a0) = (step3 N a0)) (fun a => q1 (St3 a0 a))) a
    obtain ⟨u0, u1⟩ := a
    exact (body3_0 N (orc T (G N) live [] N 2) (orc T (G N) live [] N 1) q1 a0 u0 u1).trans hc) N a)
theorem G_ok (N : Nat) : GamOK Try.prog (G N) := gam_ok (l := [(91, [], spec_l01Hash.sp N)]) (⟨spec_l01Hash.snd N, trivial⟩)
theorem snd (N : Nat) : Sound Try.prog E 97 (sp N) :=
  Mir.sound T_OK (G_ok N) mixed Try.func97 (c := code) (by kernel_rfl) (by kernel_rfl) (sp N) (Nat.le_of_ble_eq_true (by kernel_rfl)) live [] (by
    rintro ⟨a0, _⟩ r h
    exact ⟨N, 2, ((run N _ a0).trans (congrArg (m0 N a0) (funext fun a => lp3_eq N a0 a))).trans h⟩)
end spec_l08Ends
namespace spec_l08Leaf
noncomputable def code : Code := Try.f62.body.getD .skip
abbrev live : Live := [(3, [0, 1, 5, 6])]
noncomputable def G (N : Nat) : Ctx E := gam [(57, [], spec_l08Secret.sp N), (51, [], spec_l08Chain.sp N), (97, [], spec_l08Ends.sp N)]
noncomputable def loop3 : Code := codeAt code [1, 1, 0, 1, 0]
noncomputable def body3 : Code := codeAt loop3 [0]
noncomputable def K3 (N : Nat) (o0 : Orc E R) : KT E R := kAt T (G N) live [] o0 code [1, 1, 0, 1, 0] (kfin T Try.f62 (sp N))
noncomputable def St3 (a0 : ByteArray) (a1 : Int) : (Int × (List ByteArray)) → St E
  | (v2, v3) => { ρ := [(0, .c (.at (.str a0))), (1, .c (.at (.int .i64 a1))), (5, .c (.at (.own 0))), (6, .c (.at (.int .i64 v2)))], H := [(0, .row 9 .str v3 false)], nx := 1, n := 22, pin := [] }
noncomputable def m0 (N : Nat) (a0 : ByteArray) (a1 : Int) (lp3 : Int × (List ByteArray) → Option R) : Option R :=
  lp3 ((0:Int), ([] : List ByteArray))
theorem run (N : Nat) (o0 : Orc E R) (a0 : ByteArray) (a1 : Int) : runF T (G N) live [] Try.f62 code (sp N) o0 (a0, a1, ()) = m0 N a0 a1 (fun a => o0 loop3 (K3 N o0) (St3 a0 a1 a)) := by kernel_rfl
theorem body3_0 (N : Nat) (o0 : Orc E R) (o1 : Orc E R) (q1 : St E → Option R) (a0 : ByteArray) (a1 : Int) (v2 : Int) (v3 : List ByteArray) : runA T (G N) live [] o1 body3 (St3 a0 a1 (v2, v3)) (kloop [0, 1, 5, 6] q1 (K3 N o0)) = step3 N a0 a1 (fun a => q1 (St3 a0 a1 a)) (v2, v3) := by kernel_rfl
theorem lp3_eq (N : Nat) (a0 : ByteArray) (a1 : Int) (a : Int × (List ByteArray)) : (orc T (G N) live [] N 2) loop3 (K3 N (orc T (G N) live [] N 2)) (St3 a0 a1 a) = lp3 N a0 a1 a :=
  (orc_loop (b := body3) (live := [0, 1, 5, 6]) (by kernel_rfl)).trans (iter_eq (St3 a0 a1) _ _ (fun q1 a => by
    have hc := congrFun (congrFun (rfl : (step3 N a0 a1) = (step3 N a0 a1)) (fun a => q1 (St3 a0 a1 a))) a
    obtain ⟨u0, u1⟩ := a
    exact (body3_0 N (orc T (G N) live [] N 2) (orc T (G N) live [] N 1) q1 a0 a1 u0 u1).trans hc) N a)
theorem G_ok (N : Nat) : GamOK Try.prog (G N) := gam_ok (l := [(57, [], spec_l08Secret.sp N), (51, [], spec_l08Chain.sp N), (97, [], spec_l08Ends.sp N)]) (⟨spec_l08Secret.snd N, spec_l08Chain.snd N, spec_l08Ends.snd N, trivial⟩)
theorem snd (N : Nat) : Sound Try.prog E 62 (sp N) :=
  Mir.sound T_OK (G_ok N) mixed Try.func62 (c := code) (by kernel_rfl) (by kernel_rfl) (sp N) (Nat.le_of_ble_eq_true (by kernel_rfl)) live [] (by
    rintro ⟨a0, a1, _⟩ r h
    exact ⟨N, 2, ((run N _ a0 a1).trans (congrArg (m0 N a0 a1) (funext fun a => lp3_eq N a0 a1 a))).trans h⟩)
end spec_l08Leaf
namespace spec_LeafKey
noncomputable def code : Code := Try.f23.body.getD .skip
abbrev live : Live := []
noncomputable def G (N : Nat) : Ctx E := gam [(56, [], spec_l08Index.sp N), (62, [], spec_l08Leaf.sp N)]
noncomputable def m0 (N : Nat) (a0 : ByteArray) (a1 : Int) : Option R :=
  bif (decide ((a0.size : Int) > (65536:Int))) then
    some (ByteArray.empty, (2:Int))
  else
  bif ((a0.size : Int) != (32:Int)) then
    some (ByteArray.empty, (1:Int))
  else
  ob (spec_l08Index.m N a1) fun y1 =>
  bif (!y1) then
    some (ByteArray.empty, (4:Int))
  else
  ob (spec_l08Leaf.m N a0 a1) fun y2 =>
  some (y2, (0:Int))
theorem run (N : Nat) (o0 : Orc E R) (a0 : ByteArray) (a1 : Int) : runF T (G N) live [] Try.f23 code (sp N) o0 (a0, a1, ()) = m0 N a0 a1 := by kernel_rfl
theorem G_ok (N : Nat) : GamOK Try.prog (G N) := gam_ok (l := [(56, [], spec_l08Index.sp N), (62, [], spec_l08Leaf.sp N)]) (⟨spec_l08Index.snd N, spec_l08Leaf.snd N, trivial⟩)
theorem snd (N : Nat) : Sound Try.prog E 23 (sp N) :=
  Mir.sound T_OK (G_ok N) mixed Try.func23 (c := code) (by kernel_rfl) (by kernel_rfl) (sp N) (Nat.le_of_ble_eq_true (by kernel_rfl)) live [] (by
    rintro ⟨a0, a1, _⟩ r h
    exact ⟨N, 2, ((run N _ a0 a1).trans rfl).trans h⟩)
end spec_LeafKey
namespace impl_endsLeaf
noncomputable def code : Code := Try.f98.body.getD .skip
abbrev live : Live := [(3, [3, 6, 7, 8])]
noncomputable def G (N : Nat) : Ctx E := gam [(95, [], impl_hash.sp N)]
noncomputable def loop3 : Code := codeAt code [1, 1, 0, 1, 0]
noncomputable def body3 : Code := codeAt loop3 [0]
noncomputable def K3 (N : Nat) (o0 : Orc E R) : KT E R := kAt T (G N) live [] o0 code [1, 1, 0, 1, 0] (kfin T Try.f98 (sp N))
noncomputable def St3 (a0 : List ByteArray) : (ByteArray × Int × Int) → St E
  | (v0, v2, v3) => { ρ := [(3, .c (.at (.str v0))), (6, .c (.at (.ro 9 .str a0))), (7, .c (.at (.int .i64 v2))), (8, .c (.at (.int .i64 v3)))], H := [], nx := 0, n := 18, pin := [] }
noncomputable def m0 (N : Nat) (a0 : List ByteArray) (lp3 : ByteArray × Int × Int → Option R) : Option R :=
  lp3 ((⟨#[5]⟩ : ByteArray), (a0.length : Int), (0:Int))
theorem run (N : Nat) (o0 : Orc E R) (a0 : List ByteArray) : runF T (G N) live [] Try.f98 code (sp N) o0 (a0, ()) = m0 N a0 (fun a => o0 loop3 (K3 N o0) (St3 a0 a)) := by kernel_rfl
theorem body3_0 (N : Nat) (o0 : Orc E R) (o1 : Orc E R) (q1 : St E → Option R) (a0 : List ByteArray) (v0 : ByteArray) (v2 : Int) (v3 : Int) : runA T (G N) live [] o1 body3 (St3 a0 (v0, v2, v3)) (kloop [3, 6, 7, 8] q1 (K3 N o0)) = step3 N a0 (fun a => q1 (St3 a0 a)) (v0, v2, v3) := by kernel_rfl
theorem lp3_eq (N : Nat) (a0 : List ByteArray) (a : ByteArray × Int × Int) : (orc T (G N) live [] N 2) loop3 (K3 N (orc T (G N) live [] N 2)) (St3 a0 a) = lp3 N a0 a :=
  (orc_loop (b := body3) (live := [3, 6, 7, 8]) (by kernel_rfl)).trans (iter_eq (St3 a0) _ _ (fun q1 a => by
    have hc := congrFun (congrFun (rfl : (step3 N a0) = (step3 N a0)) (fun a => q1 (St3 a0 a))) a
    obtain ⟨u0, u1, u2⟩ := a
    exact (body3_0 N (orc T (G N) live [] N 2) (orc T (G N) live [] N 1) q1 a0 u0 u1 u2).trans hc) N a)
theorem G_ok (N : Nat) : GamOK Try.prog (G N) := gam_ok (l := [(95, [], impl_hash.sp N)]) (⟨impl_hash.snd N, trivial⟩)
theorem snd (N : Nat) : Sound Try.prog E 98 (sp N) :=
  Mir.sound T_OK (G_ok N) mixed Try.func98 (c := code) (by kernel_rfl) (by kernel_rfl) (sp N) (Nat.le_of_ble_eq_true (by kernel_rfl)) live [] (by
    rintro ⟨a0, _⟩ r h
    exact ⟨N, 2, ((run N _ a0).trans (congrArg (m0 N a0) (funext fun a => lp3_eq N a0 a))).trans h⟩)
end impl_endsLeaf
namespace impl_leafKey
noncomputable def code : Code := Try.f63.body.getD .skip
abbrev live : Live := [(3, [0, 1, 5, 8])]
noncomputable def G (N : Nat) : Ctx E := gam [(59, [], impl_secretPart.sp N), (55, [], impl_chain.sp N), (98, [], impl_endsLeaf.sp N)]
noncomputable def loop3 : Code := codeAt code [1, 1, 0, 1, 0]
noncomputable def body3 : Code := codeAt loop3 [0]
noncomputable def K3 (N : Nat) (o0 : Orc E R) : KT E R := kAt T (G N) live [] o0 code [1, 1, 0, 1, 0] (kfin T Try.f63 (sp N))
noncomputable def St3 (a0 : ByteArray) (a1 : Int) : (Int × (List ByteArray)) → St E
  | (v2, v3) => { ρ := [(0, .c (.at (.str a0))), (1, .c (.at (.int .i64 a1))), (5, .c (.at (.own 0))), (8, .c (.at (.int .i64 v2)))], H := [(0, .row 9 .str v3 false)], nx := 1, n := 22, pin := [] }
noncomputable def m0 (N : Nat) (a0 : ByteArray) (a1 : Int) (lp3 : Int × (List ByteArray) → Option R) : Option R :=
  lp3 ((0:Int), ([] : List ByteArray))
theorem run (N : Nat) (o0 : Orc E R) (a0 : ByteArray) (a1 : Int) : runF T (G N) live [] Try.f63 code (sp N) o0 (a0, a1, ()) = m0 N a0 a1 (fun a => o0 loop3 (K3 N o0) (St3 a0 a1 a)) := by kernel_rfl
theorem body3_0 (N : Nat) (o0 : Orc E R) (o1 : Orc E R) (q1 : St E → Option R) (a0 : ByteArray) (a1 : Int) (v2 : Int) (v3 : List ByteArray) : runA T (G N) live [] o1 body3 (St3 a0 a1 (v2, v3)) (kloop [0, 1, 5, 8] q1 (K3 N o0)) = step3 N a0 a1 (fun a => q1 (St3 a0 a1 a)) (v2, v3) := by kernel_rfl
theorem lp3_eq (N : Nat) (a0 : ByteArray) (a1 : Int) (a : Int × (List ByteArray)) : (orc T (G N) live [] N 2) loop3 (K3 N (orc T (G N) live [] N 2)) (St3 a0 a1 a) = lp3 N a0 a1 a :=
  (orc_loop (b := body3) (live := [0, 1, 5, 8]) (by kernel_rfl)).trans (iter_eq (St3 a0 a1) _ _ (fun q1 a => by
    have hc := congrFun (congrFun (rfl : (step3 N a0 a1) = (step3 N a0 a1)) (fun a => q1 (St3 a0 a1 a))) a
    obtain ⟨u0, u1⟩ := a
    exact (body3_0 N (orc T (G N) live [] N 2) (orc T (G N) live [] N 1) q1 a0 a1 u0 u1).trans hc) N a)
theorem G_ok (N : Nat) : GamOK Try.prog (G N) := gam_ok (l := [(59, [], impl_secretPart.sp N), (55, [], impl_chain.sp N), (98, [], impl_endsLeaf.sp N)]) (⟨impl_secretPart.snd N, impl_chain.snd N, impl_endsLeaf.snd N, trivial⟩)
theorem snd (N : Nat) : Sound Try.prog E 63 (sp N) :=
  Mir.sound T_OK (G_ok N) mixed Try.func63 (c := code) (by kernel_rfl) (by kernel_rfl) (sp N) (Nat.le_of_ble_eq_true (by kernel_rfl)) live [] (by
    rintro ⟨a0, a1, _⟩ r h
    exact ⟨N, 2, ((run N _ a0 a1).trans (congrArg (m0 N a0 a1) (funext fun a => lp3_eq N a0 a1 a))).trans h⟩)
end impl_leafKey
namespace impl_LeafKey
noncomputable def code : Code := Try.f24.body.getD .skip
abbrev live : Live := []
noncomputable def G (N : Nat) : Ctx E := gam [(58, [], impl_seedCode.sp N), (63, [], impl_leafKey.sp N)]
noncomputable def m0 (N : Nat) (a0 : ByteArray) (a1 : Int) : Option R :=
  ob (impl_seedCode.m N a0 a1) fun y1 =>
  bif (y1 != (0:Int)) then
    some (ByteArray.empty, y1)
  else
  ob (impl_leafKey.m N a0 a1) fun y2 =>
  some (y2, (0:Int))
theorem run (N : Nat) (o0 : Orc E R) (a0 : ByteArray) (a1 : Int) : runF T (G N) live [] Try.f24 code (sp N) o0 (a0, a1, ()) = m0 N a0 a1 := by kernel_rfl
theorem G_ok (N : Nat) : GamOK Try.prog (G N) := gam_ok (l := [(58, [], impl_seedCode.sp N), (63, [], impl_leafKey.sp N)]) (⟨impl_seedCode.snd N, impl_leafKey.snd N, trivial⟩)
theorem snd (N : Nat) : Sound Try.prog E 24 (sp N) :=
  Mir.sound T_OK (G_ok N) mixed Try.func24 (c := code) (by kernel_rfl) (by kernel_rfl) (sp N) (Nat.le_of_ble_eq_true (by kernel_rfl)) live [] (by
    rintro ⟨a0, a1, _⟩ r h
    exact ⟨N, 2, ((run N _ a0 a1).trans rfl).trans h⟩)
end impl_LeafKey
namespace laws_FnExactLeafKey
noncomputable def code : Code := Try.f6.body.getD .skip
abbrev live : Live := []
noncomputable def G (N : Nat) : Ctx E := gam [(23, [], spec_LeafKey.sp N), (24, [], impl_LeafKey.sp N)]
noncomputable def m0 (N : Nat) (a0 : ByteArray) (a1 : Int) : Option R :=
  bif (decide ((a0.size : Int) > (1048576:Int))) then
    some true
  else
  ob (spec_LeafKey.m N a0 a1) fun y1 =>
  ob (impl_LeafKey.m N a0 a1) fun y2 =>
  bif (!seq y2.1 y1.1) then
    some false
  else
  bif (bif false then true else (y2.2 != y1.2)) then
    some false
  else
  some true
theorem run (N : Nat) (o0 : Orc E R) (a0 : ByteArray) (a1 : Int) : runF T (G N) live [] Try.f6 code (sp N) o0 (a0, a1, ()) = m0 N a0 a1 := by kernel_rfl
theorem G_ok (N : Nat) : GamOK Try.prog (G N) := gam_ok (l := [(23, [], spec_LeafKey.sp N), (24, [], impl_LeafKey.sp N)]) (⟨spec_LeafKey.snd N, impl_LeafKey.snd N, trivial⟩)
theorem snd (N : Nat) : Sound Try.prog E 6 (sp N) :=
  Mir.sound T_OK (G_ok N) mixed Try.func6 (c := code) (by kernel_rfl) (by kernel_rfl) (sp N) (Nat.le_of_ble_eq_true (by kernel_rfl)) live [] (by
    rintro ⟨a0, a1, _⟩ r h
    exact ⟨N, 2, ((run N _ a0 a1).trans rfl).trans h⟩)
end laws_FnExactLeafKey
namespace spec_l08Leaves
noncomputable def code : Code := Try.f65.body.getD .skip
abbrev live : Live := [(3, [0, 3, 4])]
noncomputable def G (N : Nat) : Ctx E := gam [(62, [], spec_l08Leaf.sp N)]
noncomputable def loop3 : Code := codeAt code [1, 1, 0, 1, 0]
noncomputable def body3 : Code := codeAt loop3 [0]
noncomputable def K3 (N : Nat) (o0 : Orc E R) : KT E R := kAt T (G N) live [] o0 code [1, 1, 0, 1, 0] (kfin T Try.f65 (sp N))
noncomputable def St3 (a0 : ByteArray) : (Int × (List ByteArray)) → St E
  | (v1, v2) => { ρ := [(0, .c (.at (.str a0))), (3, .c (.at (.own 0))), (4, .c (.at (.int .i64 v1)))], H := [(0, .row 9 .str v2 false)], nx := 1, n := 17, pin := [] }
noncomputable def m0 (N : Nat) (a0 : ByteArray) (lp3 : Int × (List ByteArray) → Option R) : Option R :=
  lp3 ((0:Int), ([] : List ByteArray))
theorem run (N : Nat) (o0 : Orc E R) (a0 : ByteArray) : runF T (G N) live [] Try.f65 code (sp N) o0 (a0, ()) = m0 N a0 (fun a => o0 loop3 (K3 N o0) (St3 a0 a)) := by kernel_rfl
theorem body3_0 (N : Nat) (o0 : Orc E R) (o1 : Orc E R) (q1 : St E → Option R) (a0 : ByteArray) (v1 : Int) (v2 : List ByteArray) : runA T (G N) live [] o1 body3 (St3 a0 (v1, v2)) (kloop [0, 3, 4] q1 (K3 N o0)) = step3 N a0 (fun a => q1 (St3 a0 a)) (v1, v2) := by kernel_rfl
theorem lp3_eq (N : Nat) (a0 : ByteArray) (a : Int × (List ByteArray)) : (orc T (G N) live [] N 2) loop3 (K3 N (orc T (G N) live [] N 2)) (St3 a0 a) = lp3 N a0 a :=
  (orc_loop (b := body3) (live := [0, 3, 4]) (by kernel_rfl)).trans (iter_eq (St3 a0) _ _ (fun q1 a => by
    have hc := congrFun (congrFun (rfl : (step3 N a0) = (step3 N a0)) (fun a => q1 (St3 a0 a))) a
    obtain ⟨u0, u1⟩ := a
    exact (body3_0 N (orc T (G N) live [] N 2) (orc T (G N) live [] N 1) q1 a0 u0 u1).trans hc) N a)
theorem G_ok (N : Nat) : GamOK Try.prog (G N) := gam_ok (l := [(62, [], spec_l08Leaf.sp N)]) (⟨spec_l08Leaf.snd N, trivial⟩)
theorem snd (N : Nat) : Sound Try.prog E 65 (sp N) :=
  Mir.sound T_OK (G_ok N) mixed Try.func65 (c := code) (by kernel_rfl) (by kernel_rfl) (sp N) (Nat.le_of_ble_eq_true (by kernel_rfl)) live [] (by
    rintro ⟨a0, _⟩ r h
    exact ⟨N, 2, ((run N _ a0).trans (congrArg (m0 N a0) (funext fun a => lp3_eq N a0 a))).trans h⟩)
end spec_l08Leaves
namespace spec_l06Half
noncomputable def code : Code := Try.f99.body.getD .skip
abbrev live : Live := [(2, [0, 3])]
noncomputable def G (N : Nat) : Ctx E := gam []
noncomputable def loop2 : Code := codeAt code [1, 1, 0, 0]
noncomputable def body2 : Code := codeAt loop2 [0]
noncomputable def K2 (N : Nat) (o0 : Orc E R) : KT E R := kAt T (G N) live [] o0 code [1, 1, 0, 0] (kfin T Try.f99 (sp N))
noncomputable def St2 (a0 : Int) : Int → St E
  | v1 => { ρ := [(0, .c (.at (.int .i64 a0))), (3, .c (.at (.int .i64 v1)))], H := [], nx := 0, n := 11, pin := [] }
noncomputable def m0 (N : Nat) (a0 : Int) (lp2 : Int → Option R) : Option R :=
  lp2 (1:Int)
theorem run (N : Nat) (o0 : Orc E R) (a0 : Int) : runF T (G N) live [] Try.f99 code (sp N) o0 (a0, ()) = m0 N a0 (fun a => o0 loop2 (K2 N o0) (St2 a0 a)) := by kernel_rfl
theorem body2_0 (N : Nat) (o0 : Orc E R) (o1 : Orc E R) (q1 : St E → Option R) (a0 : Int) (v1 : Int) : runA T (G N) live [] o1 body2 (St2 a0 v1) (kloop [0, 3] q1 (K2 N o0)) = step2 N a0 (fun a => q1 (St2 a0 a)) v1 := by kernel_rfl
theorem lp2_eq (N : Nat) (a0 : Int) (a : Int) : (orc T (G N) live [] N 2) loop2 (K2 N (orc T (G N) live [] N 2)) (St2 a0 a) = lp2 N a0 a :=
  (orc_loop (b := body2) (live := [0, 3]) (by kernel_rfl)).trans (iter_eq (St2 a0) _ _ (fun q1 a => by
    have hc := congrFun (congrFun (rfl : (step2 N a0) = (step2 N a0)) (fun a => q1 (St2 a0 a))) a
    exact (body2_0 N (orc T (G N) live [] N 2) (orc T (G N) live [] N 1) q1 a0 a).trans hc) N a)
theorem G_ok (N : Nat) : GamOK Try.prog (G N) := gam_ok (l := []) (trivial)
theorem snd (N : Nat) : Sound Try.prog E 99 (sp N) :=
  Mir.sound T_OK (G_ok N) mixed Try.func99 (c := code) (by kernel_rfl) (by kernel_rfl) (sp N) (Nat.le_of_ble_eq_true (by kernel_rfl)) live [] (by
    rintro ⟨a0, _⟩ r h
    exact ⟨N, 2, ((run N _ a0).trans (congrArg (m0 N a0) (funext fun a => lp2_eq N a0 a))).trans h⟩)
end spec_l06Half
namespace spec_l06Node
noncomputable def code : Code := Try.f100.body.getD .skip
abbrev live : Live := []
noncomputable def G (N : Nat) : Ctx E := gam [(91, [], spec_l01Hash.sp N)]
noncomputable def m0 (N : Nat) (a0 : ByteArray) (a1 : ByteArray) : Option R :=
  bif (room (([(1:Int)]).length + (bytesOf a0).length) 1) then
  bif (room (([(1:Int)] ++ (bytesOf a0)).length + (bytesOf a1).length) 1) then
  ob (spec_l01Hash.m N (([(1:Int)] ++ (bytesOf a0)) ++ (bytesOf a1))) fun y1 =>
  some y1
  else none
  else none
theorem run (N : Nat) (o0 : Orc E R) (a0 : ByteArray) (a1 : ByteArray) : runF T (G N) live [] Try.f100 code (sp N) o0 (a0, a1, ()) = m0 N a0 a1 := by kernel_rfl
theorem G_ok (N : Nat) : GamOK Try.prog (G N) := gam_ok (l := [(91, [], spec_l01Hash.sp N)]) (⟨spec_l01Hash.snd N, trivial⟩)
theorem snd (N : Nat) : Sound Try.prog E 100 (sp N) :=
  Mir.sound T_OK (G_ok N) mixed Try.func100 (c := code) (by kernel_rfl) (by kernel_rfl) (sp N) (Nat.le_of_ble_eq_true (by kernel_rfl)) live [] (by
    rintro ⟨a0, a1, _⟩ r h
    exact ⟨N, 2, ((run N _ a0 a1).trans rfl).trans h⟩)
end spec_l06Node
namespace spec_l06Tree
noncomputable def code : Code := Try.f64.body.getD .skip
abbrev live : Live := []
noncomputable def G (N : Nat) (slf : (List ByteArray) → Option R) : Ctx E := gam [(91, [], spec_l01Hash.sp N), (99, [], spec_l06Half.sp N), (64, [], spf slf), (100, [], spec_l06Node.sp N)]
noncomputable def m0 (N : Nat) (slf : (List ByteArray) → Option R) (a0 : List ByteArray) : Option R :=
  bif ((a0.length : Int) == (0:Int)) then
    ob (spec_l01Hash.m N ([] : List Int)) fun y1 =>
    some y1
  else
  bif ((a0.length : Int) == (1:Int)) then
    bif (decide (0 ≤ (0:Int))) then
    bif (decide ((0:Int) < (a0.length : Int))) then
    some (a0.getD 0 ByteArray.empty)
    else none
    else none
  else
  ob (spec_l06Half.m N (a0.length : Int)) fun y2 =>
  bif (decide (0 ≤ y2)) then
  bif (decide (y2 ≤ ((a0.length : Nat) : Int))) then
  ob (slf (a0.take (Int.toNat y2))) fun y3 =>
  bif (decide (0 ≤ y2)) then
  bif (decide (y2 ≤ ((a0.length : Nat) : Int))) then
  ob (slf (a0.drop (Int.toNat y2))) fun y4 =>
  ob (spec_l06Node.m N y3 y4) fun y5 =>
  some y5
  else none
  else none
  else none
  else none
theorem run (N : Nat) (o0 : Orc E R) (slf : (List ByteArray) → Option R) (a0 : List ByteArray) : runF T (G N slf) live [] Try.f64 code (spf (mb N slf)) o0 (a0, ()) = m0 N slf a0 := by kernel_rfl
theorem G_ok (N : Nat) (slf : (List ByteArray) → Option R) (hs : Sound Try.prog E 64 (spf slf)) : GamOK Try.prog (G N slf) := gam_ok (l := [(91, [], spec_l01Hash.sp N), (99, [], spec_l06Half.sp N), (64, [], spf slf), (100, [], spec_l06Node.sp N)]) (⟨spec_l01Hash.snd N, spec_l06Half.snd N, hs, spec_l06Node.snd N, trivial⟩)
theorem sndF (N : Nat) : ∀ n, Sound Try.prog E 64 (spf (mF N n))
  | 0 => sound_none Try.func64 (c := code) (by kernel_rfl) (by kernel_rfl) (spf (mF N 0)) (fun _ => rfl)
  | n + 1 => by
    have hr := fun (a0 : List ByteArray) => (run N (orc T (G N (mF N n)) live [] N 2) (mF N n) a0).trans rfl
    exact Mir.sound T_OK (G_ok N (mF N n) (sndF N n)) mixed Try.func64 (c := code) (by kernel_rfl) (by kernel_rfl) (spf (mF N (n + 1))) (Nat.le_of_ble_eq_true (by kernel_rfl)) live [] (by
      rintro ⟨a0, _⟩ r h
      exact ⟨N, 2, (hr a0).trans h⟩)
theorem snd (N : Nat) : Sound Try.prog E 64 (sp N) := sndF N N
end spec_l06Tree
namespace spec_PublicRoot
noncomputable def code : Code := Try.f25.body.getD .skip
abbrev live : Live := []
noncomputable def G (N : Nat) : Ctx E := gam [(65, [], spec_l08Leaves.sp N), (64, [], spec_l06Tree.sp N)]
noncomputable def m0 (N : Nat) (a0 : ByteArray) : Option R :=
  bif (decide ((a0.size : Int) > (65536:Int))) then
    some (ByteArray.empty, (2:Int))
  else
  bif ((a0.size : Int) != (32:Int)) then
    some (ByteArray.empty, (1:Int))
  else
  ob (spec_l08Leaves.m N a0) fun y1 =>
  ob (spec_l06Tree.m N y1) fun y2 =>
  some (y2, (0:Int))
theorem run (N : Nat) (o0 : Orc E R) (a0 : ByteArray) : runF T (G N) live [] Try.f25 code (sp N) o0 (a0, ()) = m0 N a0 := by kernel_rfl
theorem G_ok (N : Nat) : GamOK Try.prog (G N) := gam_ok (l := [(65, [], spec_l08Leaves.sp N), (64, [], spec_l06Tree.sp N)]) (⟨spec_l08Leaves.snd N, spec_l06Tree.snd N, trivial⟩)
theorem snd (N : Nat) : Sound Try.prog E 25 (sp N) :=
  Mir.sound T_OK (G_ok N) mixed Try.func25 (c := code) (by kernel_rfl) (by kernel_rfl) (sp N) (Nat.le_of_ble_eq_true (by kernel_rfl)) live [] (by
    rintro ⟨a0, _⟩ r h
    exact ⟨N, 2, ((run N _ a0).trans rfl).trans h⟩)
end spec_PublicRoot
namespace impl_keyLeaves
noncomputable def code : Code := Try.f67.body.getD .skip
abbrev live : Live := [(3, [0, 3, 6])]
noncomputable def G (N : Nat) : Ctx E := gam [(63, [], impl_leafKey.sp N)]
noncomputable def loop3 : Code := codeAt code [1, 1, 0, 1, 0]
noncomputable def body3 : Code := codeAt loop3 [0]
noncomputable def K3 (N : Nat) (o0 : Orc E R) : KT E R := kAt T (G N) live [] o0 code [1, 1, 0, 1, 0] (kfin T Try.f67 (sp N))
noncomputable def St3 (a0 : ByteArray) : (Int × (List ByteArray)) → St E
  | (v1, v2) => { ρ := [(0, .c (.at (.str a0))), (3, .c (.at (.own 0))), (6, .c (.at (.int .i64 v1)))], H := [(0, .row 9 .str v2 false)], nx := 1, n := 17, pin := [] }
noncomputable def m0 (N : Nat) (a0 : ByteArray) (lp3 : Int × (List ByteArray) → Option R) : Option R :=
  lp3 ((0:Int), ([] : List ByteArray))
theorem run (N : Nat) (o0 : Orc E R) (a0 : ByteArray) : runF T (G N) live [] Try.f67 code (sp N) o0 (a0, ()) = m0 N a0 (fun a => o0 loop3 (K3 N o0) (St3 a0 a)) := by kernel_rfl
theorem body3_0 (N : Nat) (o0 : Orc E R) (o1 : Orc E R) (q1 : St E → Option R) (a0 : ByteArray) (v1 : Int) (v2 : List ByteArray) : runA T (G N) live [] o1 body3 (St3 a0 (v1, v2)) (kloop [0, 3, 6] q1 (K3 N o0)) = step3 N a0 (fun a => q1 (St3 a0 a)) (v1, v2) := by kernel_rfl
theorem lp3_eq (N : Nat) (a0 : ByteArray) (a : Int × (List ByteArray)) : (orc T (G N) live [] N 2) loop3 (K3 N (orc T (G N) live [] N 2)) (St3 a0 a) = lp3 N a0 a :=
  (orc_loop (b := body3) (live := [0, 3, 6]) (by kernel_rfl)).trans (iter_eq (St3 a0) _ _ (fun q1 a => by
    have hc := congrFun (congrFun (rfl : (step3 N a0) = (step3 N a0)) (fun a => q1 (St3 a0 a))) a
    obtain ⟨u0, u1⟩ := a
    exact (body3_0 N (orc T (G N) live [] N 2) (orc T (G N) live [] N 1) q1 a0 u0 u1).trans hc) N a)
theorem G_ok (N : Nat) : GamOK Try.prog (G N) := gam_ok (l := [(63, [], impl_leafKey.sp N)]) (⟨impl_leafKey.snd N, trivial⟩)
theorem snd (N : Nat) : Sound Try.prog E 67 (sp N) :=
  Mir.sound T_OK (G_ok N) mixed Try.func67 (c := code) (by kernel_rfl) (by kernel_rfl) (sp N) (Nat.le_of_ble_eq_true (by kernel_rfl)) live [] (by
    rintro ⟨a0, _⟩ r h
    exact ⟨N, 2, ((run N _ a0).trans (congrArg (m0 N a0) (funext fun a => lp3_eq N a0 a))).trans h⟩)
end impl_keyLeaves
namespace impl_split
noncomputable def code : Code := Try.f101.body.getD .skip
abbrev live : Live := [(2, [0, 3])]
noncomputable def G (N : Nat) : Ctx E := gam []
noncomputable def loop2 : Code := codeAt code [1, 1, 0, 0]
noncomputable def body2 : Code := codeAt loop2 [0]
noncomputable def K2 (N : Nat) (o0 : Orc E R) : KT E R := kAt T (G N) live [] o0 code [1, 1, 0, 0] (kfin T Try.f101 (sp N))
noncomputable def St2 (a0 : Int) : Int → St E
  | v1 => { ρ := [(0, .c (.at (.int .i64 a0))), (3, .c (.at (.int .i64 v1)))], H := [], nx := 0, n := 11, pin := [] }
noncomputable def m0 (N : Nat) (a0 : Int) (lp2 : Int → Option R) : Option R :=
  lp2 (1:Int)
theorem run (N : Nat) (o0 : Orc E R) (a0 : Int) : runF T (G N) live [] Try.f101 code (sp N) o0 (a0, ()) = m0 N a0 (fun a => o0 loop2 (K2 N o0) (St2 a0 a)) := by kernel_rfl
theorem body2_0 (N : Nat) (o0 : Orc E R) (o1 : Orc E R) (q1 : St E → Option R) (a0 : Int) (v1 : Int) : runA T (G N) live [] o1 body2 (St2 a0 v1) (kloop [0, 3] q1 (K2 N o0)) = step2 N a0 (fun a => q1 (St2 a0 a)) v1 := by kernel_rfl
theorem lp2_eq (N : Nat) (a0 : Int) (a : Int) : (orc T (G N) live [] N 2) loop2 (K2 N (orc T (G N) live [] N 2)) (St2 a0 a) = lp2 N a0 a :=
  (orc_loop (b := body2) (live := [0, 3]) (by kernel_rfl)).trans (iter_eq (St2 a0) _ _ (fun q1 a => by
    have hc := congrFun (congrFun (rfl : (step2 N a0) = (step2 N a0)) (fun a => q1 (St2 a0 a))) a
    exact (body2_0 N (orc T (G N) live [] N 2) (orc T (G N) live [] N 1) q1 a0 a).trans hc) N a)
theorem G_ok (N : Nat) : GamOK Try.prog (G N) := gam_ok (l := []) (trivial)
theorem snd (N : Nat) : Sound Try.prog E 101 (sp N) :=
  Mir.sound T_OK (G_ok N) mixed Try.func101 (c := code) (by kernel_rfl) (by kernel_rfl) (sp N) (Nat.le_of_ble_eq_true (by kernel_rfl)) live [] (by
    rintro ⟨a0, _⟩ r h
    exact ⟨N, 2, ((run N _ a0).trans (congrArg (m0 N a0) (funext fun a => lp2_eq N a0 a))).trans h⟩)
end impl_split
namespace impl_nodeHash
noncomputable def code : Code := Try.f102.body.getD .skip
abbrev live : Live := []
noncomputable def G (N : Nat) : Ctx E := gam [(95, [], impl_hash.sp N)]
noncomputable def m0 (N : Nat) (a0 : ByteArray) (a1 : ByteArray) : Option R :=
  bif (decide ((⟨#[1]⟩ : ByteArray).size + a0.size ≤ 9223372036854775807)) then
  bif (decide (((⟨#[1]⟩ : ByteArray) ++ a0).size + a1.size ≤ 9223372036854775807)) then
  ob (impl_hash.m N (((⟨#[1]⟩ : ByteArray) ++ a0) ++ a1)) fun y1 =>
  some y1
  else none
  else none
theorem run (N : Nat) (o0 : Orc E R) (a0 : ByteArray) (a1 : ByteArray) : runF T (G N) live [] Try.f102 code (sp N) o0 (a0, a1, ()) = m0 N a0 a1 := by kernel_rfl
theorem G_ok (N : Nat) : GamOK Try.prog (G N) := gam_ok (l := [(95, [], impl_hash.sp N)]) (⟨impl_hash.snd N, trivial⟩)
theorem snd (N : Nat) : Sound Try.prog E 102 (sp N) :=
  Mir.sound T_OK (G_ok N) mixed Try.func102 (c := code) (by kernel_rfl) (by kernel_rfl) (sp N) (Nat.le_of_ble_eq_true (by kernel_rfl)) live [] (by
    rintro ⟨a0, a1, _⟩ r h
    exact ⟨N, 2, ((run N _ a0 a1).trans rfl).trans h⟩)
end impl_nodeHash
namespace impl_treeHash
noncomputable def code : Code := Try.f66.body.getD .skip
abbrev live : Live := []
noncomputable def G (N : Nat) (slf : (List ByteArray) → Option R) : Ctx E := gam [(95, [], impl_hash.sp N), (101, [], impl_split.sp N), (66, [], spf slf), (102, [], impl_nodeHash.sp N)]
noncomputable def m0 (N : Nat) (slf : (List ByteArray) → Option R) (a0 : List ByteArray) : Option R :=
  bif ((a0.length : Int) == (0:Int)) then
    ob (impl_hash.m N ByteArray.empty) fun y1 =>
    some y1
  else
  bif ((a0.length : Int) == (1:Int)) then
    bif (decide (0 ≤ (0:Int))) then
    bif (decide ((0:Int) < (a0.length : Int))) then
    some (a0.getD 0 ByteArray.empty)
    else none
    else none
  else
  ob (impl_split.m N (a0.length : Int)) fun y2 =>
  bif (decide (0 ≤ y2)) then
  bif (decide (y2 ≤ ((a0.length : Nat) : Int))) then
  ob (slf (a0.take (Int.toNat y2))) fun y3 =>
  bif (decide (0 ≤ y2)) then
  bif (decide (y2 ≤ ((a0.length : Nat) : Int))) then
  ob (slf (a0.drop (Int.toNat y2))) fun y4 =>
  ob (impl_nodeHash.m N y3 y4) fun y5 =>
  some y5
  else none
  else none
  else none
  else none
theorem run (N : Nat) (o0 : Orc E R) (slf : (List ByteArray) → Option R) (a0 : List ByteArray) : runF T (G N slf) live [] Try.f66 code (spf (mb N slf)) o0 (a0, ()) = m0 N slf a0 := by kernel_rfl
theorem G_ok (N : Nat) (slf : (List ByteArray) → Option R) (hs : Sound Try.prog E 66 (spf slf)) : GamOK Try.prog (G N slf) := gam_ok (l := [(95, [], impl_hash.sp N), (101, [], impl_split.sp N), (66, [], spf slf), (102, [], impl_nodeHash.sp N)]) (⟨impl_hash.snd N, impl_split.snd N, hs, impl_nodeHash.snd N, trivial⟩)
theorem sndF (N : Nat) : ∀ n, Sound Try.prog E 66 (spf (mF N n))
  | 0 => sound_none Try.func66 (c := code) (by kernel_rfl) (by kernel_rfl) (spf (mF N 0)) (fun _ => rfl)
  | n + 1 => by
    have hr := fun (a0 : List ByteArray) => (run N (orc T (G N (mF N n)) live [] N 2) (mF N n) a0).trans rfl
    exact Mir.sound T_OK (G_ok N (mF N n) (sndF N n)) mixed Try.func66 (c := code) (by kernel_rfl) (by kernel_rfl) (spf (mF N (n + 1))) (Nat.le_of_ble_eq_true (by kernel_rfl)) live [] (by
      rintro ⟨a0, _⟩ r h
      exact ⟨N, 2, (hr a0).trans h⟩)
theorem snd (N : Nat) : Sound Try.prog E 66 (sp N) := sndF N N
end impl_treeHash
namespace impl_PublicRoot
noncomputable def code : Code := Try.f26.body.getD .skip
abbrev live : Live := []
noncomputable def G (N : Nat) : Ctx E := gam [(58, [], impl_seedCode.sp N), (67, [], impl_keyLeaves.sp N), (66, [], impl_treeHash.sp N)]
noncomputable def m0 (N : Nat) (a0 : ByteArray) : Option R :=
  ob (impl_seedCode.m N a0 (0:Int)) fun y1 =>
  bif (y1 != (0:Int)) then
    some (ByteArray.empty, y1)
  else
  ob (impl_keyLeaves.m N a0) fun y2 =>
  ob (impl_treeHash.m N y2) fun y3 =>
  some (y3, (0:Int))
theorem run (N : Nat) (o0 : Orc E R) (a0 : ByteArray) : runF T (G N) live [] Try.f26 code (sp N) o0 (a0, ()) = m0 N a0 := by kernel_rfl
theorem G_ok (N : Nat) : GamOK Try.prog (G N) := gam_ok (l := [(58, [], impl_seedCode.sp N), (67, [], impl_keyLeaves.sp N), (66, [], impl_treeHash.sp N)]) (⟨impl_seedCode.snd N, impl_keyLeaves.snd N, impl_treeHash.snd N, trivial⟩)
theorem snd (N : Nat) : Sound Try.prog E 26 (sp N) :=
  Mir.sound T_OK (G_ok N) mixed Try.func26 (c := code) (by kernel_rfl) (by kernel_rfl) (sp N) (Nat.le_of_ble_eq_true (by kernel_rfl)) live [] (by
    rintro ⟨a0, _⟩ r h
    exact ⟨N, 2, ((run N _ a0).trans rfl).trans h⟩)
end impl_PublicRoot
namespace laws_FnExactPublicRoot
noncomputable def code : Code := Try.f7.body.getD .skip
abbrev live : Live := []
noncomputable def G (N : Nat) : Ctx E := gam [(25, [], spec_PublicRoot.sp N), (26, [], impl_PublicRoot.sp N)]
noncomputable def m0 (N : Nat) (a0 : ByteArray) : Option R :=
  bif (decide ((a0.size : Int) > (1048576:Int))) then
    some true
  else
  ob (spec_PublicRoot.m N a0) fun y1 =>
  ob (impl_PublicRoot.m N a0) fun y2 =>
  bif (!seq y2.1 y1.1) then
    some false
  else
  bif (bif false then true else (y2.2 != y1.2)) then
    some false
  else
  some true
theorem run (N : Nat) (o0 : Orc E R) (a0 : ByteArray) : runF T (G N) live [] Try.f7 code (sp N) o0 (a0, ()) = m0 N a0 := by kernel_rfl
theorem G_ok (N : Nat) : GamOK Try.prog (G N) := gam_ok (l := [(25, [], spec_PublicRoot.sp N), (26, [], impl_PublicRoot.sp N)]) (⟨spec_PublicRoot.snd N, impl_PublicRoot.snd N, trivial⟩)
theorem snd (N : Nat) : Sound Try.prog E 7 (sp N) :=
  Mir.sound T_OK (G_ok N) mixed Try.func7 (c := code) (by kernel_rfl) (by kernel_rfl) (sp N) (Nat.le_of_ble_eq_true (by kernel_rfl)) live [] (by
    rintro ⟨a0, _⟩ r h
    exact ⟨N, 2, ((run N _ a0).trans rfl).trans h⟩)
end laws_FnExactPublicRoot
end Mir.Y
