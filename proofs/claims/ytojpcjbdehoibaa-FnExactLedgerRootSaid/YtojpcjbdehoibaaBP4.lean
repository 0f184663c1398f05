/- The models are what the functions do. -/
import Derived.Test.YtojpcjbdehoibaaBP3
namespace Mir.Y
set_option linter.unusedVariables false
set_option maxRecDepth 10000
open Go Go.Proofs Mir
namespace slices_IndexFunc_string_string__impl_isHash_1
noncomputable def code : Code := Try.f208.body.getD .skip
abbrev live : Live := [(2, [0, 1, 7, 8])]
noncomputable def G (N : Nat) : Ctx E := gam [(196, [], impl_isHash_1.sp N)]
noncomputable def loop2 : Code := codeAt code [1, 0, 1, 0]
noncomputable def body2 : Code := codeAt loop2 [0]
noncomputable def K2 (N : Nat) (o0 : Orc E R) : KT E R := kAt T (G N) live [] o0 code [1, 0, 1, 0] (kfin T Try.f208 (sp N))
noncomputable def St2 (a0 : List ByteArray) : (Int × Int) → St E
  | (v1, v2) => { ρ := [(0, .c (.at (.ro 9 .str a0))), (1, .clo 196 []), (7, .c (.at (.int .i64 v1))), (8, .c (.at (.int .i64 v2)))], H := [], nx := 0, n := 19, pin := [] }
noncomputable def m0 (N : Nat) (a0 : List ByteArray) (lp2 : Int × Int → Option R) : Option R :=
  lp2 ((a0.length : Int), (0:Int))
theorem run (N : Nat) (o0 : Orc E R) (a0 : List ByteArray) : runF T (G N) live [] Try.f208 code (sp N) o0 (a0, (), ()) = m0 N a0 (fun a => o0 loop2 (K2 N o0) (St2 a0 a)) := by kernel_rfl
theorem body2_0 (N : Nat) (o0 : Orc E R) (o1 : Orc E R) (q1 : St E → Option R) (a0 : List ByteArray) (v1 : Int) (v2 : Int) : runA T (G N) live [] o1 body2 (St2 a0 (v1, v2)) (kloop [0, 1, 7, 8] q1 (K2 N o0)) = step2 N a0 (fun a => q1 (St2 a0 a)) (v1, v2) := by kernel_rfl
theorem lp2_eq (N : Nat) (a0 : List ByteArray) (a : Int × Int) : (orc T (G N) live [] N 2) loop2 (K2 N (orc T (G N) live [] N 2)) (St2 a0 a) = lp2 N a0 a :=
  (orc_loop (b := body2) (live := [0, 1, 7, 8]) (by kernel_rfl)).trans (iter_eq (St2 a0) _ _ (fun q1 a => by
    have hc := congrFun (congrFun (rfl : (step2 N a0) = (step2 N a0)) (fun a => q1 (St2 a0 a))) a
    obtain ⟨u0, u1⟩ := a
    exact (body2_0 N (orc T (G N) live [] N 2) (orc T (G N) live [] N 1) q1 a0 u0 u1).trans hc) N a)
theorem G_ok (N : Nat) : GamOK Try.prog (G N) := gam_ok (l := [(196, [], impl_isHash_1.sp N)]) (⟨impl_isHash_1.snd N, trivial⟩)
theorem snd (N : Nat) : Sound Try.prog E 208 (sp N) :=
  Mir.sound T_OK (G_ok N) mixed Try.func208 (c := code) (by kernel_rfl) (by kernel_rfl) (sp N) (Nat.le_of_ble_eq_true (by kernel_rfl)) live [] (by
    rintro ⟨a0, _, _⟩ r h
    exact ⟨N, 2, ((run N _ a0).trans (congrArg (m0 N a0) (funext fun a => lp2_eq N a0 a))).trans h⟩)
end slices_IndexFunc_string_string__impl_isHash_1
namespace slices_ContainsFunc_string_string__impl_isHash_1
noncomputable def code : Code := Try.f153.body.getD .skip
abbrev live : Live := []
noncomputable def G (N : Nat) : Ctx E := gam [(208, [196], slices_IndexFunc_string_string__impl_isHash_1.sp N)]
noncomputable def m0 (N : Nat) (a0 : List ByteArray) : Option R :=
  ob (slices_IndexFunc_string_string__impl_isHash_1.m N a0) fun y1 =>
  some (decide (y1 ≥ (0:Int)))
theorem run (N : Nat) (o0 : Orc E R) (a0 : List ByteArray) : runF T (G N) live [] Try.f153 code (sp N) o0 (a0, (), ()) = m0 N a0 := by kernel_rfl
theorem G_ok (N : Nat) : GamOK Try.prog (G N) := gam_ok (l := [(208, [196], slices_IndexFunc_string_string__impl_isHash_1.sp N)]) (⟨slices_IndexFunc_string_string__impl_isHash_1.snd N, trivial⟩)
theorem snd (N : Nat) : Sound Try.prog E 153 (sp N) :=
  Mir.sound T_OK (G_ok N) mixed Try.func153 (c := code) (by kernel_rfl) (by kernel_rfl) (sp N) (Nat.le_of_ble_eq_true (by kernel_rfl)) live [] (by
    rintro ⟨a0, _, _⟩ r h
    exact ⟨N, 2, ((run N _ a0).trans rfl).trans h⟩)
end slices_ContainsFunc_string_string__impl_isHash_1
namespace impl_isHash
noncomputable def code : Code := Try.f136.body.getD .skip
abbrev live : Live := []
noncomputable def G (N : Nat) : Ctx E := gam [(153, [196], slices_ContainsFunc_string_string__impl_isHash_1.sp N)]
noncomputable def m0 (N : Nat) (a0 : List ByteArray) : Option R :=
  ob (slices_ContainsFunc_string_string__impl_isHash_1.m N a0) fun y1 =>
  some (!y1)
theorem run (N : Nat) (o0 : Orc E R) (a0 : List ByteArray) : runF T (G N) live [] Try.f136 code (sp N) o0 (a0, ()) = m0 N a0 := by kernel_rfl
theorem G_ok (N : Nat) : GamOK Try.prog (G N) := gam_ok (l := [(153, [196], slices_ContainsFunc_string_string__impl_isHash_1.sp N)]) (⟨slices_ContainsFunc_string_string__impl_isHash_1.snd N, trivial⟩)
theorem snd (N : Nat) : Sound Try.prog E 136 (sp N) :=
  Mir.sound T_OK (G_ok N) mixed Try.func136 (c := code) (by kernel_rfl) (by kernel_rfl) (sp N) (Nat.le_of_ble_eq_true (by kernel_rfl)) live [] (by
    rintro ⟨a0, _⟩ r h
    exact ⟨N, 2, ((run N _ a0).trans rfl).trans h⟩)
end impl_isHash
namespace impl_MapOK
noncomputable def code : Code := Try.f56.body.getD .skip
abbrev live : Live := []
noncomputable def G (N : Nat) : Ctx E := gam [(122, [], impl_mapPairs.sp N)]
noncomputable def m0 (N : Nat) (a0 : Branch) : Option R :=
  ob (impl_mapPairs.m N (Branch.mk a0.Key a0.Value a0.At a0.Kids)) fun y1 =>
  some y1.2
theorem run (N : Nat) (o0 : Orc E R) (a0 : Branch) : runF T (G N) live [] Try.f56 code (sp N) o0 (a0, ()) = m0 N a0 := by kernel_rfl
theorem G_ok (N : Nat) : GamOK Try.prog (G N) := gam_ok (l := [(122, [], impl_mapPairs.sp N)]) (⟨impl_mapPairs.snd N, trivial⟩)
theorem snd (N : Nat) : Sound Try.prog E 56 (sp N) :=
  Mir.sound T_OK (G_ok N) mixed Try.func56 (c := code) (by kernel_rfl) (by kernel_rfl) (sp N) (Nat.le_of_ble_eq_true (by kernel_rfl)) live [] (by
    rintro ⟨a0, _⟩ r h
    exact ⟨N, 2, ((run N _ a0).trans rfl).trans h⟩)
end impl_MapOK
namespace impl_isShort
noncomputable def code : Code := Try.f137.body.getD .skip
abbrev live : Live := []
noncomputable def G (N : Nat) : Ctx E := gam [(81, [], impl_within.sp N)]
noncomputable def m0 (N : Nat) (a0 : Int) : Option R :=
  ob (impl_within.m N a0 (0:Int) (65535:Int)) fun y1 =>
  some y1
theorem run (N : Nat) (o0 : Orc E R) (a0 : Int) : runF T (G N) live [] Try.f137 code (sp N) o0 (a0, ()) = m0 N a0 := by kernel_rfl
theorem G_ok (N : Nat) : GamOK Try.prog (G N) := gam_ok (l := [(81, [], impl_within.sp N)]) (⟨impl_within.snd N, trivial⟩)
theorem snd (N : Nat) : Sound Try.prog E 137 (sp N) :=
  Mir.sound T_OK (G_ok N) mixed Try.func137 (c := code) (by kernel_rfl) (by kernel_rfl) (sp N) (Nat.le_of_ble_eq_true (by kernel_rfl)) live [] (by
    rintro ⟨a0, _⟩ r h
    exact ⟨N, 2, ((run N _ a0).trans rfl).trans h⟩)
end impl_isShort
namespace impl_replyOK
noncomputable def code : Code := Try.f138.body.getD .skip
abbrev live : Live := []
noncomputable def G (N : Nat) : Ctx E := gam [(81, [], impl_within.sp N), (111, [], impl_isValue.sp N)]
noncomputable def m0 (N : Nat) (a0 : Reply) : Option R :=
  ob (impl_within.m N a0.Kind (0:Int) (6:Int)) fun y1 =>
  bif y1 then
    ob (impl_within.m N a0.Place (0:Int) (50:Int)) fun y2 =>
    bif (bif true then y2 else false) then
      ob (impl_isValue.m N a0.Value) fun y3 =>
      some (bif true then y3 else false)
    else
    some false
  else
  some false
theorem run (N : Nat) (o0 : Orc E R) (a0 : Reply) : runF T (G N) live [] Try.f138 code (sp N) o0 (a0, ()) = m0 N a0 := by kernel_rfl
theorem G_ok (N : Nat) : GamOK Try.prog (G N) := gam_ok (l := [(81, [], impl_within.sp N), (111, [], impl_isValue.sp N)]) (⟨impl_within.snd N, impl_isValue.snd N, trivial⟩)
theorem snd (N : Nat) : Sound Try.prog E 138 (sp N) :=
  Mir.sound T_OK (G_ok N) mixed Try.func138 (c := code) (by kernel_rfl) (by kernel_rfl) (sp N) (Nat.le_of_ble_eq_true (by kernel_rfl)) live [] (by
    rintro ⟨a0, _⟩ r h
    exact ⟨N, 2, ((run N _ a0).trans rfl).trans h⟩)
end impl_replyOK
namespace impl_LedgerOK
noncomputable def code : Code := Try.f69.body.getD .skip
abbrev live : Live := [(4, [1, 28, 29, 30])]
noncomputable def G (N : Nat) : Ctx E := gam [(136, [], impl_isHash.sp N), (56, [], impl_MapOK.sp N), (137, [], impl_isShort.sp N), (138, [], impl_replyOK.sp N)]
noncomputable def loop4 : Code := codeAt code [1, 1, 0, 1, 0]
noncomputable def body4 : Code := codeAt loop4 [0]
noncomputable def K4 (N : Nat) (o0 : Orc E R) : KT E R := kAt T (G N) live [] o0 code [1, 1, 0, 1, 0] (kfin T Try.f69 (sp N))
noncomputable def St4 (a0 : Ledger) : (Int × Int) → St E
  | (v1, v2) => { ρ := [(1, .c (.at (.ptr 0 0))), (28, .c (.at (.ro 174 (.st 174) a0.Sessions))), (29, .c (.at (.int .i64 v1))), (30, .c (.at (.int .i64 v2)))], H := [(0, .box 106 [.ro 9 .str a0.Leaves, .str a0.Map.Key, .str a0.Map.Value, .int .i64 a0.Map.At, .ro 71 (.st 71) a0.Map.Kids, .ro 174 (.st 174) a0.Sessions])], nx := 1, n := 68, pin := [] }
noncomputable def m0 (N : Nat) (a0 : Ledger) (lp4 : Int × Int → Option R) : Option R :=
  bif (decide ((a0.Leaves.length : Int) > (50:Int))) then
    some false
  else
  ob (impl_isHash.m N a0.Leaves) fun y1 =>
  bif (bif false then true else (!y1)) then
    some false
  else
  bif (bif false then true else (decide ((a0.Sessions.length : Int) > (8:Int)))) then
    some false
  else
  ob (impl_MapOK.m N (Branch.mk a0.Map.Key a0.Map.Value a0.Map.At a0.Map.Kids)) fun y2 =>
  bif (bif false then true else (!y2)) then
    some false
  else
  lp4 ((a0.Sessions.length : Int), (0:Int))
theorem run (N : Nat) (o0 : Orc E R) (a0 : Ledger) : runF T (G N) live [] Try.f69 code (sp N) o0 (a0, ()) = m0 N a0 (fun a => o0 loop4 (K4 N o0) (St4 a0 a)) := by kernel_rfl
theorem body4_0 (N : Nat) (o0 : Orc E R) (o1 : Orc E R) (q1 : St E → Option R) (a0 : Ledger) (v1 : Int) (v2 : Int) : runA T (G N) live [] o1 body4 (St4 a0 (v1, v2)) (kloop [1, 28, 29, 30] q1 (K4 N o0)) = step4 N a0 (fun a => q1 (St4 a0 a)) (v1, v2) := by kernel_rfl
theorem lp4_eq (N : Nat) (a0 : Ledger) (a : Int × Int) : (orc T (G N) live [] N 2) loop4 (K4 N (orc T (G N) live [] N 2)) (St4 a0 a) = lp4 N a0 a :=
  (orc_loop (b := body4) (live := [1, 28, 29, 30]) (by kernel_rfl)).trans (iter_eq (St4 a0) _ _ (fun q1 a => by
    have hc := congrFun (congrFun (rfl : (step4 N a0) = (step4 N a0)) (fun a => q1 (St4 a0 a))) a
    obtain ⟨u0, u1⟩ := a
    exact (body4_0 N (orc T (G N) live [] N 2) (orc T (G N) live [] N 1) q1 a0 u0 u1).trans hc) N a)
theorem G_ok (N : Nat) : GamOK Try.prog (G N) := gam_ok (l := [(136, [], impl_isHash.sp N), (56, [], impl_MapOK.sp N), (137, [], impl_isShort.sp N), (138, [], impl_replyOK.sp N)]) (⟨impl_isHash.snd N, impl_MapOK.snd N, impl_isShort.snd N, impl_replyOK.snd N, trivial⟩)
theorem snd (N : Nat) : Sound Try.prog E 69 (sp N) :=
  Mir.sound T_OK (G_ok N) mixed Try.func69 (c := code) (by kernel_rfl) (by kernel_rfl) (sp N) (Nat.le_of_ble_eq_true (by kernel_rfl)) live [] (by
    rintro ⟨a0, _⟩ r h
    exact ⟨N, 2, ((run N _ a0).trans (congrArg (m0 N a0) (funext fun a => lp4_eq N a0 a))).trans h⟩)
end impl_LedgerOK
namespace impl_split
noncomputable def code : Code := Try.f233.body.getD .skip
abbrev live : Live := [(2, [0, 3])]
noncomputable def G (N : Nat) : Ctx E := gam []
noncomputable def loop2 : Code := codeAt code [1, 1, 0, 0]
noncomputable def body2 : Code := codeAt loop2 [0]
noncomputable def K2 (N : Nat) (o0 : Orc E R) : KT E R := kAt T (G N) live [] o0 code [1, 1, 0, 0] (kfin T Try.f233 (sp N))
noncomputable def St2 (a0 : Int) : Int → St E
  | v1 => { ρ := [(0, .c (.at (.int .i64 a0))), (3, .c (.at (.int .i64 v1)))], H := [], nx := 0, n := 11, pin := [] }
noncomputable def m0 (N : Nat) (a0 : Int) (lp2 : Int → Option R) : Option R :=
  lp2 (1:Int)
theorem run (N : Nat) (o0 : Orc E R) (a0 : Int) : runF T (G N) live [] Try.f233 code (sp N) o0 (a0, ()) = m0 N a0 (fun a => o0 loop2 (K2 N o0) (St2 a0 a)) := by kernel_rfl
theorem body2_0 (N : Nat) (o0 : Orc E R) (o1 : Orc E R) (q1 : St E → Option R) (a0 : Int) (v1 : Int) : runA T (G N) live [] o1 body2 (St2 a0 v1) (kloop [0, 3] q1 (K2 N o0)) = step2 N a0 (fun a => q1 (St2 a0 a)) v1 := by kernel_rfl
theorem lp2_eq (N : Nat) (a0 : Int) (a : Int) : (orc T (G N) live [] N 2) loop2 (K2 N (orc T (G N) live [] N 2)) (St2 a0 a) = lp2 N a0 a :=
  (orc_loop (b := body2) (live := [0, 3]) (by kernel_rfl)).trans (iter_eq (St2 a0) _ _ (fun q1 a => by
    have hc := congrFun (congrFun (rfl : (step2 N a0) = (step2 N a0)) (fun a => q1 (St2 a0 a))) a
    exact (body2_0 N (orc T (G N) live [] N 2) (orc T (G N) live [] N 1) q1 a0 a).trans hc) N a)
theorem G_ok (N : Nat) : GamOK Try.prog (G N) := gam_ok (l := []) (trivial)
theorem snd (N : Nat) : Sound Try.prog E 233 (sp N) :=
  Mir.sound T_OK (G_ok N) mixed Try.func233 (c := code) (by kernel_rfl) (by kernel_rfl) (sp N) (Nat.le_of_ble_eq_true (by kernel_rfl)) live [] (by
    rintro ⟨a0, _⟩ r h
    exact ⟨N, 2, ((run N _ a0).trans (congrArg (m0 N a0) (funext fun a => lp2_eq N a0 a))).trans h⟩)
end impl_split
namespace impl_nodeHash
noncomputable def code : Code := Try.f234.body.getD .skip
abbrev live : Live := []
noncomputable def G (N : Nat) : Ctx E := gam [(114, [], impl_hash.sp N)]
noncomputable def m0 (N : Nat) (a0 : ByteArray) (a1 : ByteArray) : Option R :=
  bif (decide ((⟨#[1]⟩ : ByteArray).size + a0.size ≤ 9223372036854775807)) then
  bif (decide (((⟨#[1]⟩ : ByteArray) ++ a0).size + a1.size ≤ 9223372036854775807)) then
  ob (impl_hash.m N (((⟨#[1]⟩ : ByteArray) ++ a0) ++ a1)) fun y1 =>
  some y1
  else none
  else none
theorem run (N : Nat) (o0 : Orc E R) (a0 : ByteArray) (a1 : ByteArray) : runF T (G N) live [] Try.f234 code (sp N) o0 (a0, a1, ()) = m0 N a0 a1 := by kernel_rfl
theorem G_ok (N : Nat) : GamOK Try.prog (G N) := gam_ok (l := [(114, [], impl_hash.sp N)]) (⟨impl_hash.snd N, trivial⟩)
theorem snd (N : Nat) : Sound Try.prog E 234 (sp N) :=
  Mir.sound T_OK (G_ok N) mixed Try.func234 (c := code) (by kernel_rfl) (by kernel_rfl) (sp N) (Nat.le_of_ble_eq_true (by kernel_rfl)) live [] (by
    rintro ⟨a0, a1, _⟩ r h
    exact ⟨N, 2, ((run N _ a0 a1).trans rfl).trans h⟩)
end impl_nodeHash
namespace impl_treeHash
noncomputable def code : Code := Try.f194.body.getD .skip
abbrev live : Live := []
noncomputable def G (N : Nat) (slf : (List ByteArray) → Option R) : Ctx E := gam [(114, [], impl_hash.sp N), (233, [], impl_split.sp N), (194, [], spf slf), (234, [], impl_nodeHash.sp N)]
noncomputable def m0 (N : Nat) (slf : (List ByteArray) → Option R) (a0 : List ByteArray) : Option R :=
  bif ((a0.length : Int) == (0:Int)) then
    ob (impl_hash.m N ByteArray.empty) fun y1 =>
    some y1
  else
  bif ((a0.length : Int) == (1:Int)) then
    bif (decide (0 ≤ (0:Int))) then
    bif (decide ((0:Int) < (a0.length : Int))) then
    some (a0.getD 0 ByteArray.empty)
    else none
    else none
  else
  ob (impl_split.m N (a0.length : Int)) fun y2 =>
  bif (decide (0 ≤ y2)) then
  bif (decide (y2 ≤ ((a0.length : Nat) : Int))) then
  ob (slf (a0.take (Int.toNat y2))) fun y3 =>
  bif (decide (0 ≤ y2)) then
  bif (decide (y2 ≤ ((a0.length : Nat) : Int))) then
  ob (slf (a0.drop (Int.toNat y2))) fun y4 =>
  ob (impl_nodeHash.m N y3 y4) fun y5 =>
  some y5
  else none
  else none
  else none
  else none
theorem run (N : Nat) (o0 : Orc E R) (slf : (List ByteArray) → Option R) (a0 : List ByteArray) : runF T (G N slf) live [] Try.f194 code (spf (mb N slf)) o0 (a0, ()) = m0 N slf a0 := by kernel_rfl
theorem G_ok (N : Nat) (slf : (List ByteArray) → Option R) (hs : Sound Try.prog E 194 (spf slf)) : GamOK Try.prog (G N slf) := gam_ok (l := [(114, [], impl_hash.sp N), (233, [], impl_split.sp N), (194, [], spf slf), (234, [], impl_nodeHash.sp N)]) (⟨impl_hash.snd N, impl_split.snd N, hs, impl_nodeHash.snd N, trivial⟩)
theorem sndF (N : Nat) : ∀ n, Sound Try.prog E 194 (spf (mF N n))
  | 0 => sound_none Try.func194 (c := code) (by kernel_rfl) (by kernel_rfl) (spf (mF N 0)) (fun _ => rfl)
  | n + 1 => by
    have hr := fun (a0 : List ByteArray) => (run N (orc T (G N (mF N n)) live [] N 2) (mF N n) a0).trans rfl
    exact Mir.sound T_OK (G_ok N (mF N n) (sndF N n)) mixed Try.func194 (c := code) (by kernel_rfl) (by kernel_rfl) (spf (mF N (n + 1))) (Nat.le_of_ble_eq_true (by kernel_rfl)) live [] (by
      rintro ⟨a0, _⟩ r h
      exact ⟨N, 2, (hr a0).trans h⟩)
theorem snd (N : Nat) : Sound Try.prog E 194 (sp N) := sndF N N
end impl_treeHash
namespace impl_ledgerRoot
noncomputable def code : Code := Try.f131.body.getD .skip
abbrev live : Live := []
noncomputable def G (N : Nat) : Ctx E := gam [(194, [], impl_treeHash.sp N), (117, [], impl_mapRoot.sp N), (114, [], impl_hash.sp N)]
noncomputable def m0 (N : Nat) (a0 : Ledger) : Option R :=
  ob (impl_treeHash.m N a0.Leaves) fun y1 =>
  bif (decide ((⟨#[114, 111, 111, 116]⟩ : ByteArray).size + y1.size ≤ 9223372036854775807)) then
  ob (impl_mapRoot.m N (Branch.mk a0.Map.Key a0.Map.Value a0.Map.At a0.Map.Kids)) fun y2 =>
  bif (decide (((⟨#[114, 111, 111, 116]⟩ : ByteArray) ++ y1).size + y2.size ≤ 9223372036854775807)) then
  ob (impl_hash.m N (((⟨#[114, 111, 111, 116]⟩ : ByteArray) ++ y1) ++ y2)) fun y3 =>
  some y3
  else none
  else none
theorem run (N : Nat) (o0 : Orc E R) (a0 : Ledger) : runF T (G N) live [] Try.f131 code (sp N) o0 (a0, ()) = m0 N a0 := by kernel_rfl
theorem G_ok (N : Nat) : GamOK Try.prog (G N) := gam_ok (l := [(194, [], impl_treeHash.sp N), (117, [], impl_mapRoot.sp N), (114, [], impl_hash.sp N)]) (⟨impl_treeHash.snd N, impl_mapRoot.snd N, impl_hash.snd N, trivial⟩)
theorem snd (N : Nat) : Sound Try.prog E 131 (sp N) :=
  Mir.sound T_OK (G_ok N) mixed Try.func131 (c := code) (by kernel_rfl) (by kernel_rfl) (sp N) (Nat.le_of_ble_eq_true (by kernel_rfl)) live [] (by
    rintro ⟨a0, _⟩ r h
    exact ⟨N, 2, ((run N _ a0).trans rfl).trans h⟩)
end impl_ledgerRoot
namespace impl_LedgerRoot
noncomputable def code : Code := Try.f66.body.getD .skip
abbrev live : Live := []
noncomputable def G (N : Nat) : Ctx E := gam [(69, [], impl_LedgerOK.sp N), (131, [], impl_ledgerRoot.sp N)]
noncomputable def m0 (N : Nat) (a0 : Ledger) : Option R :=
  ob (impl_LedgerOK.m N (Ledger.mk a0.Leaves (Branch.mk a0.Map.Key a0.Map.Value a0.Map.At a0.Map.Kids) a0.Sessions)) fun y1 =>
  bif (!y1) then
    some (ByteArray.empty, (1:Int))
  else
  ob (impl_ledgerRoot.m N (Ledger.mk a0.Leaves (Branch.mk a0.Map.Key a0.Map.Value a0.Map.At a0.Map.Kids) a0.Sessions)) fun y2 =>
  some (y2, (0:Int))
theorem run (N : Nat) (o0 : Orc E R) (a0 : Ledger) : runF T (G N) live [] Try.f66 code (sp N) o0 (a0, ()) = m0 N a0 := by kernel_rfl
theorem G_ok (N : Nat) : GamOK Try.prog (G N) := gam_ok (l := [(69, [], impl_LedgerOK.sp N), (131, [], impl_ledgerRoot.sp N)]) (⟨impl_LedgerOK.snd N, impl_ledgerRoot.snd N, trivial⟩)
theorem snd (N : Nat) : Sound Try.prog E 66 (sp N) :=
  Mir.sound T_OK (G_ok N) mixed Try.func66 (c := code) (by kernel_rfl) (by kernel_rfl) (sp N) (Nat.le_of_ble_eq_true (by kernel_rfl)) live [] (by
    rintro ⟨a0, _⟩ r h
    exact ⟨N, 2, ((run N _ a0).trans rfl).trans h⟩)
end impl_LedgerRoot
namespace laws_eqStringS
noncomputable def code : Code := Try.f132.body.getD .skip
abbrev live : Live := [(4, [0, 1, 5])]
noncomputable def G (N : Nat) : Ctx E := gam []
noncomputable def loop4 : Code := codeAt code [1, 1, 0, 1, 0]
noncomputable def body4 : Code := codeAt loop4 [0]
noncomputable def K4 (N : Nat) (o0 : Orc E R) : KT E R := kAt T (G N) live [] o0 code [1, 1, 0, 1, 0] (kfin T Try.f132 (sp N))
noncomputable def St4 (a0 : List ByteArray) (a1 : List ByteArray) : Int → St E
  | v2 => { ρ := [(0, .c (.at (.ro 9 .str a0))), (1, .c (.at (.ro 9 .str a1))), (5, .c (.at (.int .i64 v2)))], H := [], nx := 0, n := 26, pin := [] }
noncomputable def m0 (N : Nat) (a0 : List ByteArray) (a1 : List ByteArray) (lp4 : Int → Option R) : Option R :=
  bif ((a0.length : Int) != (a1.length : Int)) then
    some false
  else
  lp4 (0:Int)
theorem run (N : Nat) (o0 : Orc E R) (a0 : List ByteArray) (a1 : List ByteArray) : runF T (G N) live [] Try.f132 code (sp N) o0 (a0, a1, ()) = m0 N a0 a1 (fun a => o0 loop4 (K4 N o0) (St4 a0 a1 a)) := by kernel_rfl
theorem body4_0 (N : Nat) (o0 : Orc E R) (o1 : Orc E R) (q1 : St E → Option R) (a0 : List ByteArray) (a1 : List ByteArray) (v2 : Int) : runA T (G N) live [] o1 body4 (St4 a0 a1 v2) (kloop [0, 1, 5] q1 (K4 N o0)) = step4 N a0 a1 (fun a => q1 (St4 a0 a1 a)) v2 := by kernel_rfl
theorem lp4_eq (N : Nat) (a0 : List ByteArray) (a1 : List ByteArray) (a : Int) : (orc T (G N) live [] N 2) loop4 (K4 N (orc T (G N) live [] N 2)) (St4 a0 a1 a) = lp4 N a0 a1 a :=
  (orc_loop (b := body4) (live := [0, 1, 5]) (by kernel_rfl)).trans (iter_eq (St4 a0 a1) _ _ (fun q1 a => by
    have hc := congrFun (congrFun (rfl : (step4 N a0 a1) = (step4 N a0 a1)) (fun a => q1 (St4 a0 a1 a))) a
    exact (body4_0 N (orc T (G N) live [] N 2) (orc T (G N) live [] N 1) q1 a0 a1 a).trans hc) N a)
theorem G_ok (N : Nat) : GamOK Try.prog (G N) := gam_ok (l := []) (trivial)
theorem snd (N : Nat) : Sound Try.prog E 132 (sp N) :=
  Mir.sound T_OK (G_ok N) mixed Try.func132 (c := code) (by kernel_rfl) (by kernel_rfl) (sp N) (Nat.le_of_ble_eq_true (by kernel_rfl)) live [] (by
    rintro ⟨a0, a1, _⟩ r h
    exact ⟨N, 2, ((run N _ a0 a1).trans (congrArg (m0 N a0 a1) (funext fun a => lp4_eq N a0 a1 a))).trans h⟩)
end laws_eqStringS
namespace laws_eqReply
noncomputable def code : Code := Try.f235.body.getD .skip
abbrev live : Live := []
noncomputable def G (N : Nat) : Ctx E := gam []
noncomputable def m0 (N : Nat) (a0 : Reply) (a1 : Reply) : Option R :=
  bif (a0.Kind != a1.Kind) then
    some false
  else
  bif (a0.Place != a1.Place) then
    some false
  else
  bif (!seq a0.Value a1.Value) then
    some false
  else
  some true
theorem run (N : Nat) (o0 : Orc E R) (a0 : Reply) (a1 : Reply) : runF T (G N) live [] Try.f235 code (sp N) o0 (a0, a1, ()) = m0 N a0 a1 := by kernel_rfl
theorem G_ok (N : Nat) : GamOK Try.prog (G N) := gam_ok (l := []) (trivial)
theorem snd (N : Nat) : Sound Try.prog E 235 (sp N) :=
  Mir.sound T_OK (G_ok N) mixed Try.func235 (c := code) (by kernel_rfl) (by kernel_rfl) (sp N) (Nat.le_of_ble_eq_true (by kernel_rfl)) live [] (by
    rintro ⟨a0, a1, _⟩ r h
    exact ⟨N, 2, ((run N _ a0 a1).trans rfl).trans h⟩)
end laws_eqReply
namespace laws_eqSession
noncomputable def code : Code := Try.f195.body.getD .skip
abbrev live : Live := []
noncomputable def G (N : Nat) : Ctx E := gam [(235, [], laws_eqReply.sp N)]
noncomputable def m0 (N : Nat) (a0 : Session) (a1 : Session) : Option R :=
  bif (a0.Id != a1.Id) then
    some false
  else
  bif (a0.Seq != a1.Seq) then
    some false
  else
  ob (laws_eqReply.m N (Reply.mk a0.Last.Kind a0.Last.Place a0.Last.Value) (Reply.mk a1.Last.Kind a1.Last.Place a1.Last.Value)) fun y1 =>
  bif (!y1) then
    some false
  else
  some true
theorem run (N : Nat) (o0 : Orc E R) (a0 : Session) (a1 : Session) : runF T (G N) live [] Try.f195 code (sp N) o0 (a0, a1, ()) = m0 N a0 a1 := by kernel_rfl
theorem G_ok (N : Nat) : GamOK Try.prog (G N) := gam_ok (l := [(235, [], laws_eqReply.sp N)]) (⟨laws_eqReply.snd N, trivial⟩)
theorem snd (N : Nat) : Sound Try.prog E 195 (sp N) :=
  Mir.sound T_OK (G_ok N) mixed Try.func195 (c := code) (by kernel_rfl) (by kernel_rfl) (sp N) (Nat.le_of_ble_eq_true (by kernel_rfl)) live [] (by
    rintro ⟨a0, a1, _⟩ r h
    exact ⟨N, 2, ((run N _ a0 a1).trans rfl).trans h⟩)
end laws_eqSession
namespace laws_eqSessionS
noncomputable def code : Code := Try.f133.body.getD .skip
abbrev live : Live := [(4, [0, 1, 5])]
noncomputable def G (N : Nat) : Ctx E := gam [(195, [], laws_eqSession.sp N)]
noncomputable def loop4 : Code := codeAt code [1, 1, 0, 1, 0]
noncomputable def body4 : Code := codeAt loop4 [0]
noncomputable def K4 (N : Nat) (o0 : Orc E R) : KT E R := kAt T (G N) live [] o0 code [1, 1, 0, 1, 0] (kfin T Try.f133 (sp N))
noncomputable def St4 (a0 : List Session) (a1 : List Session) : Int → St E
  | v2 => { ρ := [(0, .c (.at (.ro 174 (.st 174) a0))), (1, .c (.at (.ro 174 (.st 174) a1))), (5, .c (.at (.int .i64 v2)))], H := [], nx := 0, n := 27, pin := [] }
noncomputable def m0 (N : Nat) (a0 : List Session) (a1 : List Session) (lp4 : Int → Option R) : Option R :=
  bif ((a0.length : Int) != (a1.length : Int)) then
    some false
  else
  lp4 (0:Int)
theorem run (N : Nat) (o0 : Orc E R) (a0 : List Session) (a1 : List Session) : runF T (G N) live [] Try.f133 code (sp N) o0 (a0, a1, ()) = m0 N a0 a1 (fun a => o0 loop4 (K4 N o0) (St4 a0 a1 a)) := by kernel_rfl
theorem body4_0 (N : Nat) (o0 : Orc E R) (o1 : Orc E R) (q1 : St E → Option R) (a0 : List Session) (a1 : List Session) (v2 : Int) : runA T (G N) live [] o1 body4 (St4 a0 a1 v2) (kloop [0, 1, 5] q1 (K4 N o0)) = step4 N a0 a1 (fun a => q1 (St4 a0 a1 a)) v2 := by kernel_rfl
theorem lp4_eq (N : Nat) (a0 : List Session) (a1 : List Session) (a : Int) : (orc T (G N) live [] N 2) loop4 (K4 N (orc T (G N) live [] N 2)) (St4 a0 a1 a) = lp4 N a0 a1 a :=
  (orc_loop (b := body4) (live := [0, 1, 5]) (by kernel_rfl)).trans (iter_eq (St4 a0 a1) _ _ (fun q1 a => by
    have hc := congrFun (congrFun (rfl : (step4 N a0 a1) = (step4 N a0 a1)) (fun a => q1 (St4 a0 a1 a))) a
    exact (body4_0 N (orc T (G N) live [] N 2) (orc T (G N) live [] N 1) q1 a0 a1 a).trans hc) N a)
theorem G_ok (N : Nat) : GamOK Try.prog (G N) := gam_ok (l := [(195, [], laws_eqSession.sp N)]) (⟨laws_eqSession.snd N, trivial⟩)
theorem snd (N : Nat) : Sound Try.prog E 133 (sp N) :=
  Mir.sound T_OK (G_ok N) mixed Try.func133 (c := code) (by kernel_rfl) (by kernel_rfl) (sp N) (Nat.le_of_ble_eq_true (by kernel_rfl)) live [] (by
    rintro ⟨a0, a1, _⟩ r h
    exact ⟨N, 2, ((run N _ a0 a1).trans (congrArg (m0 N a0 a1) (funext fun a => lp4_eq N a0 a1 a))).trans h⟩)
end laws_eqSessionS
namespace laws_eqLedger
noncomputable def code : Code := Try.f67.body.getD .skip
abbrev live : Live := []
noncomputable def G (N : Nat) : Ctx E := gam [(132, [], laws_eqStringS.sp N), (45, [], laws_eqBranch.sp N), (133, [], laws_eqSessionS.sp N)]
noncomputable def m0 (N : Nat) (a0 : Ledger) (a1 : Ledger) : Option R :=
  ob (laws_eqStringS.m N a0.Leaves a1.Leaves) fun y1 =>
  bif (!y1) then
    some false
  else
  ob (laws_eqBranch.m N (Branch.mk a0.Map.Key a0.Map.Value a0.Map.At a0.Map.Kids) (Branch.mk a1.Map.Key a1.Map.Value a1.Map.At a1.Map.Kids)) fun y2 =>
  bif (!y2) then
    some false
  else
  ob (laws_eqSessionS.m N a0.Sessions a1.Sessions) fun y3 =>
  bif (!y3) then
    some false
  else
  some true
theorem run (N : Nat) (o0 : Orc E R) (a0 : Ledger) (a1 : Ledger) : runF T (G N) live [] Try.f67 code (sp N) o0 (a0, a1, ()) = m0 N a0 a1 := by kernel_rfl
theorem G_ok (N : Nat) : GamOK Try.prog (G N) := gam_ok (l := [(132, [], laws_eqStringS.sp N), (45, [], laws_eqBranch.sp N), (133, [], laws_eqSessionS.sp N)]) (⟨laws_eqStringS.snd N, laws_eqBranch.snd N, laws_eqSessionS.snd N, trivial⟩)
theorem snd (N : Nat) : Sound Try.prog E 67 (sp N) :=
  Mir.sound T_OK (G_ok N) mixed Try.func67 (c := code) (by kernel_rfl) (by kernel_rfl) (sp N) (Nat.le_of_ble_eq_true (by kernel_rfl)) live [] (by
    rintro ⟨a0, a1, _⟩ r h
    exact ⟨N, 2, ((run N _ a0 a1).trans rfl).trans h⟩)
end laws_eqLedger
namespace laws_FnExactLedgerRoot
noncomputable def code : Code := Try.f11.body.getD .skip
abbrev live : Live := []
noncomputable def G (N : Nat) : Ctx E := gam [(63, [], laws_szLedger.sp N), (65, [], laws_toLedger.sp N), (64, [], spec_LedgerRoot.sp N), (66, [], impl_LedgerRoot.sp N), (67, [], laws_eqLedger.sp N)]
noncomputable def m0 (N : Nat) (a0 : Ledger) : Option R :=
  ob (laws_szLedger.m N (Ledger.mk a0.Leaves (Branch.mk a0.Map.Key a0.Map.Value a0.Map.At a0.Map.Kids) a0.Sessions) (1048576:Int)) fun y1 =>
  bif (decide (y1 < (0:Int))) then
    some true
  else
  ob (laws_toLedger.m N (Ledger.mk a0.Leaves (Branch.mk a0.Map.Key a0.Map.Value a0.Map.At a0.Map.Kids) a0.Sessions)) fun y2 =>
  ob (spec_LedgerRoot.m N (Ledger.mk y2.Leaves (Branch.mk y2.Map.Key y2.Map.Value y2.Map.At y2.Map.Kids) y2.Sessions)) fun y3 =>
  ob (laws_toLedger.m N (Ledger.mk a0.Leaves (Branch.mk a0.Map.Key a0.Map.Value a0.Map.At a0.Map.Kids) a0.Sessions)) fun y4 =>
  ob (impl_LedgerRoot.m N (Ledger.mk y4.Leaves (Branch.mk y4.Map.Key y4.Map.Value y4.Map.At y4.Map.Kids) y4.Sessions)) fun y5 =>
  bif (!seq y5.1 y3.1) then
    some false
  else
  bif (bif false then true else (y5.2 != y3.2)) then
    some false
  else
  ob (laws_toLedger.m N (Ledger.mk a0.Leaves (Branch.mk a0.Map.Key a0.Map.Value a0.Map.At a0.Map.Kids) a0.Sessions)) fun y6 =>
  ob (laws_eqLedger.m N (Ledger.mk y4.Leaves (Branch.mk y4.Map.Key y4.Map.Value y4.Map.At y4.Map.Kids) y4.Sessions) (Ledger.mk y6.Leaves (Branch.mk y6.Map.Key y6.Map.Value y6.Map.At y6.Map.Kids) y6.Sessions)) fun y7 =>
  bif (!y7) then
    some false
  else
  some true
theorem run (N : Nat) (o0 : Orc E R) (a0 : Ledger) : runF T (G N) live [] Try.f11 code (sp N) o0 (a0, ()) = m0 N a0 := by kernel_rfl
theorem G_ok (N : Nat) : GamOK Try.prog (G N) := gam_ok (l := [(63, [], laws_szLedger.sp N), (65, [], laws_toLedger.sp N), (64, [], spec_LedgerRoot.sp N), (66, [], impl_LedgerRoot.sp N), (67, [], laws_eqLedger.sp N)]) (⟨laws_szLedger.snd N, laws_toLedger.snd N, spec_LedgerRoot.snd N, impl_LedgerRoot.snd N, laws_eqLedger.snd N, trivial⟩)
theorem snd (N : Nat) : Sound Try.prog E 11 (sp N) :=
  Mir.sound T_OK (G_ok N) mixed Try.func11 (c := code) (by kernel_rfl) (by kernel_rfl) (sp N) (Nat.le_of_ble_eq_true (by kernel_rfl)) live [] (by
    rintro ⟨a0, _⟩ r h
    exact ⟨N, 2, ((run N _ a0).trans rfl).trans h⟩)
end laws_FnExactLedgerRoot
namespace laws_FnExactLedgerOK
noncomputable def code : Code := Try.f12.body.getD .skip
abbrev live : Live := []
noncomputable def G (N : Nat) : Ctx E := gam [(63, [], laws_szLedger.sp N), (65, [], laws_toLedger.sp N), (68, [], spec_LedgerOK.sp N), (69, [], impl_LedgerOK.sp N), (67, [], laws_eqLedger.sp N)]
noncomputable def m0 (N : Nat) (a0 : Ledger) : Option R :=
  ob (laws_szLedger.m N (Ledger.mk a0.Leaves (Branch.mk a0.Map.Key a0.Map.Value a0.Map.At a0.Map.Kids) a0.Sessions) (1048576:Int)) fun y1 =>
  bif (decide (y1 < (0:Int))) then
    some true
  else
  ob (laws_toLedger.m N (Ledger.mk a0.Leaves (Branch.mk a0.Map.Key a0.Map.Value a0.Map.At a0.Map.Kids) a0.Sessions)) fun y2 =>
  ob (spec_LedgerOK.m N (Ledger.mk y2.Leaves (Branch.mk y2.Map.Key y2.Map.Value y2.Map.At y2.Map.Kids) y2.Sessions)) fun y3 =>
  ob (laws_toLedger.m N (Ledger.mk a0.Leaves (Branch.mk a0.Map.Key a0.Map.Value a0.Map.At a0.Map.Kids) a0.Sessions)) fun y4 =>
  ob (impl_LedgerOK.m N (Ledger.mk y4.Leaves (Branch.mk y4.Map.Key y4.Map.Value y4.Map.At y4.Map.Kids) y4.Sessions)) fun y5 =>
  bif (!(y5 == y3)) then
    some false
  else
  ob (laws_toLedger.m N (Ledger.mk a0.Leaves (Branch.mk a0.Map.Key a0.Map.Value a0.Map.At a0.Map.Kids) a0.Sessions)) fun y6 =>
  ob (laws_eqLedger.m N (Ledger.mk y4.Leaves (Branch.mk y4.Map.Key y4.Map.Value y4.Map.At y4.Map.Kids) y4.Sessions) (Ledger.mk y6.Leaves (Branch.mk y6.Map.Key y6.Map.Value y6.Map.At y6.Map.Kids) y6.Sessions)) fun y7 =>
  bif (!y7) then
    some false
  else
  some true
theorem run (N : Nat) (o0 : Orc E R) (a0 : Ledger) : runF T (G N) live [] Try.f12 code (sp N) o0 (a0, ()) = m0 N a0 := by kernel_rfl
theorem G_ok (N : Nat) : GamOK Try.prog (G N) := gam_ok (l := [(63, [], laws_szLedger.sp N), (65, [], laws_toLedger.sp N), (68, [], spec_LedgerOK.sp N), (69, [], impl_LedgerOK.sp N), (67, [], laws_eqLedger.sp N)]) (⟨laws_szLedger.snd N, laws_toLedger.snd N, spec_LedgerOK.snd N, impl_LedgerOK.snd N, laws_eqLedger.snd N, trivial⟩)
theorem snd (N : Nat) : Sound Try.prog E 12 (sp N) :=
  Mir.sound T_OK (G_ok N) mixed Try.func12 (c := code) (by kernel_rfl) (by kernel_rfl) (sp N) (Nat.le_of_ble_eq_true (by kernel_rfl)) live [] (by
    rintro ⟨a0, _⟩ r h
    exact ⟨N, 2, ((run N _ a0).trans rfl).trans h⟩)
end laws_FnExactLedgerOK
namespace spec_l07List
noncomputable def code : Code := Try.f197.body.getD .skip
abbrev live : Live := []
noncomputable def G (N : Nat) (slf : Branch → (List Command) → Option R) : Ctx E := gam [(162, [], spec_l07Empty.sp N), (164, [], spec_l07Leaf.sp N), (197, [], spf slf)]
noncomputable def m0 (N : Nat) (slf : Branch → (List Command) → Option R) (a0 : Branch) (a1 : List Command) : Option R :=
  ob (spec_l07Empty.m N (Branch.mk a0.Key a0.Value a0.At a0.Kids)) fun y1 =>
  bif y1 then
    some a1
  else
  ob (spec_l07Leaf.m N (Branch.mk a0.Key a0.Value a0.At a0.Kids)) fun y2 =>
  bif y2 then
    bif (room (a1.length + ([(Command.mk (1:Int) (0:Int) (0:Int) a0.Key a0.Value)]).length) 56) then
    some (a1 ++ [(Command.mk (1:Int) (0:Int) (0:Int) a0.Key a0.Value)])
    else none
  else
  bif (decide (0 ≤ (1:Int))) then
  bif (decide ((1:Int) < (a0.Kids.length : Int))) then
  bif (decide (0 ≤ (0:Int))) then
  bif (decide ((0:Int) < (a0.Kids.length : Int))) then
  ob (slf (Branch.mk ((a0.Kids.getD 0 Branch.dz).Key) ((a0.Kids.getD 0 Branch.dz).Value) ((a0.Kids.getD 0 Branch.dz).At) ((a0.Kids.getD 0 Branch.dz).Kids)) a1) fun y3 =>
  ob (slf (Branch.mk ((a0.Kids.getD 1 Branch.dz).Key) ((a0.Kids.getD 1 Branch.dz).Value) ((a0.Kids.getD 1 Branch.dz).At) ((a0.Kids.getD 1 Branch.dz).Kids)) y3) fun y4 =>
  some y4
  else none
  else none
  else none
  else none
theorem run (N : Nat) (o0 : Orc E R) (slf : Branch → (List Command) → Option R) (a0 : Branch) (a1 : List Command) : runF T (G N slf) live [] Try.f197 code (spf (mb N slf)) o0 (a0, a1, ()) = m0 N slf a0 a1 := by kernel_rfl
theorem G_ok (N : Nat) (slf : Branch → (List Command) → Option R) (hs : Sound Try.prog E 197 (spf slf)) : GamOK Try.prog (G N slf) := gam_ok (l := [(162, [], spec_l07Empty.sp N), (164, [], spec_l07Leaf.sp N), (197, [], spf slf)]) (⟨spec_l07Empty.snd N, spec_l07Leaf.snd N, hs, trivial⟩)
theorem sndF (N : Nat) : ∀ n, Sound Try.prog E 197 (spf (mF N n))
  | 0 => sound_none Try.func197 (c := code) (by kernel_rfl) (by kernel_rfl) (spf (mF N 0)) (fun _ => rfl)
  | n + 1 => by
    have hr := fun (a0 : Branch) (a1 : List Command) => (run N (orc T (G N (mF N n)) live [] N 2) (mF N n) a0 a1).trans rfl
    exact Mir.sound T_OK (G_ok N (mF N n) (sndF N n)) mixed Try.func197 (c := code) (by kernel_rfl) (by kernel_rfl) (spf (mF N (n + 1))) (Nat.le_of_ble_eq_true (by kernel_rfl)) live [] (by
      rintro ⟨a0, a1, _⟩ r h
      exact ⟨N, 2, (hr a0 a1).trans h⟩)
theorem snd (N : Nat) : Sound Try.prog E 197 (sp N) := sndF N N
end spec_l07List
namespace spec_l02Two
noncomputable def code : Code := Try.f198.body.getD .skip
abbrev live : Live := []
noncomputable def G (N : Nat) : Ctx E := gam []
noncomputable def m0 (N : Nat) (a0 : Int) : Option R :=
  bif (!decide ((256:Int) = 0)) then
  some ([(wu8 (w64 (Int.tdiv a0 (256:Int)))), (wu8 a0)])
  else none
theorem run (N : Nat) (o0 : Orc E R) (a0 : Int) : runF T (G N) live [] Try.f198 code (sp N) o0 (a0, ()) = m0 N a0 := by kernel_rfl
theorem G_ok (N : Nat) : GamOK Try.prog (G N) := gam_ok (l := []) (trivial)
theorem snd (N : Nat) : Sound Try.prog E 198 (sp N) :=
  Mir.sound T_OK (G_ok N) mixed Try.func198 (c := code) (by kernel_rfl) (by kernel_rfl) (sp N) (Nat.le_of_ble_eq_true (by kernel_rfl)) live [] (by
    rintro ⟨a0, _⟩ r h
    exact ⟨N, 2, ((run N _ a0).trans rfl).trans h⟩)
end spec_l02Two
namespace spec_l09Snapshot
noncomputable def code : Code := Try.f139.body.getD .skip
abbrev live : Live := [(15, [1, 3, 7]), (9, [1, 3, 5, 6]), (3, [1, 3, 4])]
noncomputable def G (N : Nat) : Ctx E := gam [(197, [], spec_l07List.sp N), (198, [], spec_l02Two.sp N)]
noncomputable def loop3 : Code := codeAt code [1, 1, 0, 1, 0]
noncomputable def body3 : Code := codeAt loop3 [0]
noncomputable def loop9 : Code := codeAt code [1, 1, 1, 1, 1, 0, 1, 0]
noncomputable def body9 : Code := codeAt loop9 [0]
noncomputable def loop15 : Code := codeAt code [1, 1, 1, 1, 1, 1, 1, 0, 1, 0]
noncomputable def body15 : Code := codeAt loop15 [0]
noncomputable def K3 (N : Nat) (o0 : Orc E R) : KT E R := kAt T (G N) live [] o0 code [1, 1, 0, 1, 0] (kfin T Try.f139 (sp N))
noncomputable def St3 (a0 : Ledger) : (Int × (List Int)) → St E
  | (v0, v7) => { ρ := [(1, .c (.at (.ptr 0 0))), (3, .c (.at (.own 1))), (4, .c (.at (.int .i64 v0)))], H := [(0, .box 106 [.ro 9 .str a0.Leaves, .str a0.Map.Key, .str a0.Map.Value, .int .i64 a0.Map.At, .ro 71 (.st 71) a0.Map.Kids, .ro 174 (.st 174) a0.Sessions]), (1, .row 5 (.int .u8) v7 false)], nx := 2, n := 126, pin := [] }
noncomputable def K9 (N : Nat) (o0 : Orc E R) : KT E R := kAt T (G N) live [] o0 code [1, 1, 1, 1, 1, 0, 1, 0] (kfin T Try.f139 (sp N))
noncomputable def St9 (a0 : Ledger) : (Int × (List Int) × (List Command)) → St E
  | (v0, v7, v8) => { ρ := [(1, .c (.at (.ptr 0 0))), (3, .c (.at (.own 1))), (5, .c (.at (.own 2))), (6, .c (.at (.int .i64 v0)))], H := [(0, .box 106 [.ro 9 .str a0.Leaves, .str a0.Map.Key, .str a0.Map.Value, .int .i64 a0.Map.At, .ro 71 (.st 71) a0.Map.Kids, .ro 174 (.st 174) a0.Sessions]), (1, .row 5 (.int .u8) v7 false), (2, .row 97 (.st 97) v8 false)], nx := 3, n := 126, pin := [] }
noncomputable def K15 (N : Nat) (o0 : Orc E R) : KT E R := kAt T (G N) live [] o0 code [1, 1, 1, 1, 1, 1, 1, 0, 1, 0] (kfin T Try.f139 (sp N))
noncomputable def St15 (a0 : Ledger) : (Int × (List Int)) → St E
  | (v0, v7) => { ρ := [(1, .c (.at (.ptr 0 0))), (3, .c (.at (.own 1))), (7, .c (.at (.int .i64 v0)))], H := [(0, .box 106 [.ro 9 .str a0.Leaves, .str a0.Map.Key, .str a0.Map.Value, .int .i64 a0.Map.At, .ro 71 (.st 71) a0.Map.Kids, .ro 174 (.st 174) a0.Sessions]), (1, .row 5 (.int .u8) v7 false)], nx := 2, n := 126, pin := [] }
noncomputable def m0 (N : Nat) (a0 : Ledger) (lp3 : Int × (List Int) → Option R) : Option R :=
  lp3 ((0:Int), [(wu8 (a0.Leaves.length : Int))])
theorem run (N : Nat) (o0 : Orc E R) (a0 : Ledger) : runF T (G N) live [] Try.f139 code (sp N) o0 (a0, ()) = m0 N a0 (fun a => o0 loop3 (K3 N o0) (St3 a0 a)) := by kernel_rfl
theorem body3_0 (N : Nat) (o0 : Orc E R) (o1 : Orc E R) (q1 : St E → Option R) (a0 : Ledger) (v0 : Int) (v7 : List Int) : runA T (G N) live [] o1 body3 (St3 a0 (v0, v7)) (kloop [1, 3, 4] q1 (K3 N o0)) = step3 N a0 (fun a => o0 loop9 (K9 N o0) (St9 a0 a)) (fun a => q1 (St3 a0 a)) (v0, v7) := by kernel_rfl
theorem body9_0 (N : Nat) (o0 : Orc E R) (o1 : Orc E R) (q1 : St E → Option R) (a0 : Ledger) (v0 : Int) (v7 : List Int) (v8 : List Command) : runA T (G N) live [] o1 body9 (St9 a0 (v0, v7, v8)) (kloop [1, 3, 5, 6] q1 (K9 N o0)) = step9 N a0 (fun a => o0 loop15 (K15 N o0) (St15 a0 a)) (fun a => q1 (St9 a0 a)) (v0, v7, v8) := by kernel_rfl
theorem body15_0 (N : Nat) (o0 : Orc E R) (o1 : Orc E R) (q1 : St E → Option R) (a0 : Ledger) (v0 : Int) (v7 : List Int) : runA T (G N) live [] o1 body15 (St15 a0 (v0, v7)) (kloop [1, 3, 7] q1 (K15 N o0)) = step15 N a0 (fun a => q1 (St15 a0 a)) (v0, v7) := by kernel_rfl
theorem lp15_eq (N : Nat) (a0 : Ledger) (a : Int × (List Int)) : (orc T (G N) live [] N 2) loop15 (K15 N (orc T (G N) live [] N 2)) (St15 a0 a) = lp15 N a0 a :=
  (orc_loop (b := body15) (live := [1, 3, 7]) (by kernel_rfl)).trans (iter_eq (St15 a0) _ _ (fun q1 a => by
    have hc := congrFun (congrFun (rfl : (step15 N a0) = (step15 N a0)) (fun a => q1 (St15 a0 a))) a
    obtain ⟨u0, u1⟩ := a
    exact (body15_0 N (orc T (G N) live [] N 2) (orc T (G N) live [] N 1) q1 a0 u0 u1).trans hc) N a)
theorem lp9_eq (N : Nat) (a0 : Ledger) (a : Int × (List Int) × (List Command)) : (orc T (G N) live [] N 2) loop9 (K9 N (orc T (G N) live [] N 2)) (St9 a0 a) = lp9 N a0 a :=
  (orc_loop (b := body9) (live := [1, 3, 5, 6]) (by kernel_rfl)).trans (iter_eq (St9 a0) _ _ (fun q1 a => by
    have hc := congrFun (congrFun (congrArg (step9 N a0) (funext fun a => lp15_eq N a0 a)) (fun a => q1 (St9 a0 a))) a
    obtain ⟨u0, u1, u2⟩ := a
    exact (body9_0 N (orc T (G N) live [] N 2) (orc T (G N) live [] N 1) q1 a0 u0 u1 u2).trans hc) N a)
theorem lp3_eq (N : Nat) (a0 : Ledger) (a : Int × (List Int)) : (orc T (G N) live [] N 2) loop3 (K3 N (orc T (G N) live [] N 2)) (St3 a0 a) = lp3 N a0 a :=
  (orc_loop (b := body3) (live := [1, 3, 4]) (by kernel_rfl)).trans (iter_eq (St3 a0) _ _ (fun q1 a => by
    have hc := congrFun (congrFun (congrArg (step3 N a0) (funext fun a => lp9_eq N a0 a)) (fun a => q1 (St3 a0 a))) a
    obtain ⟨u0, u1⟩ := a
    exact (body3_0 N (orc T (G N) live [] N 2) (orc T (G N) live [] N 1) q1 a0 u0 u1).trans hc) N a)
theorem G_ok (N : Nat) : GamOK Try.prog (G N) := gam_ok (l := [(197, [], spec_l07List.sp N), (198, [], spec_l02Two.sp N)]) (⟨spec_l07List.snd N, spec_l02Two.snd N, trivial⟩)
theorem snd (N : Nat) : Sound Try.prog E 139 (sp N) :=
  Mir.sound T_OK (G_ok N) mixed Try.func139 (c := code) (by kernel_rfl) (by kernel_rfl) (sp N) (Nat.le_of_ble_eq_true (by kernel_rfl)) live [] (by
    rintro ⟨a0, _⟩ r h
    exact ⟨N, 2, ((run N _ a0).trans (congrArg (m0 N a0) (funext fun a => lp3_eq N a0 a))).trans h⟩)
end spec_l09Snapshot
namespace spec_SameLedger
noncomputable def code : Code := Try.f70.body.getD .skip
abbrev live : Live := []
noncomputable def G (N : Nat) : Ctx E := gam [(68, [], spec_LedgerOK.sp N), (139, [], spec_l09Snapshot.sp N)]
noncomputable def m0 (N : Nat) (a0 : Ledger) (a1 : Ledger) : Option R :=
  ob (spec_LedgerOK.m N (Ledger.mk a0.Leaves (Branch.mk a0.Map.Key a0.Map.Value a0.Map.At a0.Map.Kids) a0.Sessions)) fun y1 =>
  bif (!y1) then
    some (false, (1:Int))
  else
  ob (spec_LedgerOK.m N (Ledger.mk a1.Leaves (Branch.mk a1.Map.Key a1.Map.Value a1.Map.At a1.Map.Kids) a1.Sessions)) fun y2 =>
  bif (bif false then true else (!y2)) then
    some (false, (1:Int))
  else
  ob (spec_l09Snapshot.m N (Ledger.mk a0.Leaves (Branch.mk a0.Map.Key a0.Map.Value a0.Map.At a0.Map.Kids) a0.Sessions)) fun y3 =>
  ob (spec_l09Snapshot.m N (Ledger.mk a1.Leaves (Branch.mk a1.Map.Key a1.Map.Value a1.Map.At a1.Map.Kids) a1.Sessions)) fun y4 =>
  some ((seq (strOf y3) (strOf y4)), (0:Int))
theorem run (N : Nat) (o0 : Orc E R) (a0 : Ledger) (a1 : Ledger) : runF T (G N) live [] Try.f70 code (sp N) o0 (a0, a1, ()) = m0 N a0 a1 := by kernel_rfl
theorem G_ok (N : Nat) : GamOK Try.prog (G N) := gam_ok (l := [(68, [], spec_LedgerOK.sp N), (139, [], spec_l09Snapshot.sp N)]) (⟨spec_LedgerOK.snd N, spec_l09Snapshot.snd N, trivial⟩)
theorem snd (N : Nat) : Sound Try.prog E 70 (sp N) :=
  Mir.sound T_OK (G_ok N) mixed Try.func70 (c := code) (by kernel_rfl) (by kernel_rfl) (sp N) (Nat.le_of_ble_eq_true (by kernel_rfl)) live [] (by
    rintro ⟨a0, a1, _⟩ r h
    exact ⟨N, 2, ((run N _ a0 a1).trans rfl).trans h⟩)
end spec_SameLedger
namespace slices_Clone_string_string
noncomputable def code : Code := Try.f236.body.getD .skip
abbrev live : Live := []
noncomputable def G (N : Nat) : Ctx E := gam []
noncomputable def m0 (N : Nat) (a0 : List ByteArray) : Option R :=
  amb (a0.isEmpty) true
    (some ([] : List ByteArray))
    (bif (room (([] : List ByteArray).length + a0.length) 16) then
    some (([] : List ByteArray) ++ a0)
    else none)
theorem run (N : Nat) (o0 : Orc E R) (a0 : List ByteArray) : runF T (G N) live [] Try.f236 code (sp N) o0 (a0, ()) = m0 N a0 := by kernel_rfl
theorem G_ok (N : Nat) : GamOK Try.prog (G N) := gam_ok (l := []) (trivial)
theorem snd (N : Nat) : Sound Try.prog E 236 (sp N) :=
  Mir.sound T_OK (G_ok N) mixed Try.func236 (c := code) (by kernel_rfl) (by kernel_rfl) (sp N) (Nat.le_of_ble_eq_true (by kernel_rfl)) live [] (by
    rintro ⟨a0, _⟩ r h
    exact ⟨N, 2, ((run N _ a0).trans rfl).trans h⟩)
end slices_Clone_string_string
namespace slices_Clone_impl_Session_impl_Session
noncomputable def code : Code := Try.f237.body.getD .skip
abbrev live : Live := []
noncomputable def G (N : Nat) : Ctx E := gam []
noncomputable def m0 (N : Nat) (a0 : List Session) : Option R :=
  amb (a0.isEmpty) true
    (some ([] : List Session))
    (bif (room (([] : List Session).length + a0.length) 48) then
    some (([] : List Session) ++ a0)
    else none)
theorem run (N : Nat) (o0 : Orc E R) (a0 : List Session) : runF T (G N) live [] Try.f237 code (sp N) o0 (a0, ()) = m0 N a0 := by kernel_rfl
theorem G_ok (N : Nat) : GamOK Try.prog (G N) := gam_ok (l := []) (trivial)
theorem snd (N : Nat) : Sound Try.prog E 237 (sp N) :=
  Mir.sound T_OK (G_ok N) mixed Try.func237 (c := code) (by kernel_rfl) (by kernel_rfl) (sp N) (Nat.le_of_ble_eq_true (by kernel_rfl)) live [] (by
    rintro ⟨a0, _⟩ r h
    exact ⟨N, 2, ((run N _ a0).trans rfl).trans h⟩)
end slices_Clone_impl_Session_impl_Session
namespace impl_booksOf
noncomputable def code : Code := Try.f199.body.getD .skip
abbrev live : Live := []
noncomputable def G (N : Nat) : Ctx E := gam [(122, [], impl_mapPairs.sp N), (236, [], slices_Clone_string_string.sp N), (237, [], slices_Clone_impl_Session_impl_Session.sp N)]
noncomputable def m0 (N : Nat) (a0 : Ledger) : Option R :=
  ob (impl_mapPairs.m N (Branch.mk a0.Map.Key a0.Map.Value a0.Map.At a0.Map.Kids)) fun y1 =>
  ob (slices_Clone_string_string.m N a0.Leaves) fun y2 =>
  ob (slices_Clone_impl_Session_impl_Session.m N a0.Sessions) fun y3 =>
  some (books.mk y2 y1.1 y3)
theorem run (N : Nat) (o0 : Orc E R) (a0 : Ledger) : runF T (G N) live [] Try.f199 code (sp N) o0 (a0, ()) = m0 N a0 := by kernel_rfl
theorem G_ok (N : Nat) : GamOK Try.prog (G N) := gam_ok (l := [(122, [], impl_mapPairs.sp N), (236, [], slices_Clone_string_string.sp N), (237, [], slices_Clone_impl_Session_impl_Session.sp N)]) (⟨impl_mapPairs.snd N, slices_Clone_string_string.snd N, slices_Clone_impl_Session_impl_Session.snd N, trivial⟩)
theorem snd (N : Nat) : Sound Try.prog E 199 (sp N) :=
  Mir.sound T_OK (G_ok N) mixed Try.func199 (c := code) (by kernel_rfl) (by kernel_rfl) (sp N) (Nat.le_of_ble_eq_true (by kernel_rfl)) live [] (by
    rintro ⟨a0, _⟩ r h
    exact ⟨N, 2, ((run N _ a0).trans rfl).trans h⟩)
end impl_booksOf
namespace impl_snapshot
noncomputable def code : Code := Try.f140.body.getD .skip
abbrev live : Live := [(16, [4, 70, 71, 72]), (10, [3, 4, 43, 44, 45]), (4, [3, 4, 22, 23, 24])]
noncomputable def G (N : Nat) : Ctx E := gam [(199, [], impl_booksOf.sp N), (178, [], impl_number.sp N), (200, [], impl_counted.sp N)]
noncomputable def loop4 : Code := codeAt code [1, 1, 1, 0, 1, 0]
noncomputable def body4 : Code := codeAt loop4 [0]
noncomputable def loop10 : Code := codeAt code [1, 1, 1, 1, 1, 0, 1, 0]
noncomputable def body10 : Code := codeAt loop10 [0]
noncomputable def loop16 : Code := codeAt code [1, 1, 1, 1, 1, 1, 1, 0, 1, 0]
noncomputable def body16 : Code := codeAt loop16 [0]
noncomputable def K4 (N : Nat) (o0 : Orc E R) : KT E R := kAt T (G N) live [] o0 code [1, 1, 1, 0, 1, 0] (kfin T Try.f140 (sp N))
noncomputable def St4 (a0 : Ledger) : (ByteArray × Int × Int × (List ByteArray) × (List pairOf) × (List Session)) → St E
  | (v0, v1, v2, v3, v4, v5) => { ρ := [(3, .c (.at (.ptr 0 0))), (4, .c (.at (.str v0))), (22, .c (.at (.own 1))), (23, .c (.at (.int .i64 v1))), (24, .c (.at (.int .i64 v2)))], H := [(0, .box 230 [.own 1, .own 2, .own 3]), (1, .row 9 .str v3 false), (2, .row 146 (.st 146) v4 false), (3, .row 174 (.st 174) v5 false)], nx := 4, n := 102, pin := [] }
noncomputable def K10 (N : Nat) (o0 : Orc E R) : KT E R := kAt T (G N) live [] o0 code [1, 1, 1, 1, 1, 0, 1, 0] (kfin T Try.f140 (sp N))
noncomputable def St10 (a0 : Ledger) : (ByteArray × Int × Int × (List ByteArray) × (List pairOf) × (List Session)) → St E
  | (v0, v1, v2, v3, v4, v5) => { ρ := [(3, .c (.at (.ptr 0 0))), (4, .c (.at (.str v0))), (43, .c (.at (.own 2))), (44, .c (.at (.int .i64 v1))), (45, .c (.at (.int .i64 v2)))], H := [(0, .box 230 [.own 1, .own 2, .own 3]), (1, .row 9 .str v3 false), (2, .row 146 (.st 146) v4 false), (3, .row 174 (.st 174) v5 false)], nx := 4, n := 102, pin := [] }
noncomputable def K16 (N : Nat) (o0 : Orc E R) : KT E R := kAt T (G N) live [] o0 code [1, 1, 1, 1, 1, 1, 1, 0, 1, 0] (kfin T Try.f140 (sp N))
noncomputable def St16 (a0 : Ledger) : (ByteArray × Int × Int × (List Session)) → St E
  | (v0, v1, v2, v3) => { ρ := [(4, .c (.at (.str v0))), (70, .c (.at (.own 0))), (71, .c (.at (.int .i64 v1))), (72, .c (.at (.int .i64 v2)))], H := [(0, .row 174 (.st 174) v3 false)], nx := 1, n := 102, pin := [] }
noncomputable def m0 (N : Nat) (a0 : Ledger) (lp4 : ByteArray × Int × Int × (List ByteArray) × (List pairOf) × (List Session) → Option R) : Option R :=
  ob (impl_booksOf.m N (Ledger.mk a0.Leaves (Branch.mk a0.Map.Key a0.Map.Value a0.Map.At a0.Map.Kids) a0.Sessions)) fun y1 =>
  ob (impl_number.m N (y1.leaves.length : Int) (1:Int)) fun y2 =>
  lp4 (y2, (y1.leaves.length : Int), (0:Int), y1.leaves, y1.pairs, y1.sessions)
theorem run (N : Nat) (o0 : Orc E R) (a0 : Ledger) : runF T (G N) live [] Try.f140 code (sp N) o0 (a0, ()) = m0 N a0 (fun a => o0 loop4 (K4 N o0) (St4 a0 a)) := by kernel_rfl
theorem body4_0 (N : Nat) (o0 : Orc E R) (o1 : Orc E R) (q1 : St E → Option R) (a0 : Ledger) (v0 : ByteArray) (v1 : Int) (v2 : Int) (v3 : List ByteArray) (v4 : List pairOf) (v5 : List Session) : runA T (G N) live [] o1 body4 (St4 a0 (v0, v1, v2, v3, v4, v5)) (kloop [3, 4, 22, 23, 24] q1 (K4 N o0)) = step4 N a0 (fun a => o0 loop10 (K10 N o0) (St10 a0 a)) (fun a => q1 (St4 a0 a)) (v0, v1, v2, v3, v4, v5) := by kernel_rfl
theorem body10_0 (N : Nat) (o0 : Orc E R) (o1 : Orc E R) (q1 : St E → Option R) (a0 : Ledger) (v0 : ByteArray) (v1 : Int) (v2 : Int) (v3 : List ByteArray) (v4 : List pairOf) (v5 : List Session) : runA T (G N) live [] o1 body10 (St10 a0 (v0, v1, v2, v3, v4, v5)) (kloop [3, 4, 43, 44, 45] q1 (K10 N o0)) = step10 N a0 (fun a => o0 loop16 (K16 N o0) (St16 a0 a)) (fun a => q1 (St10 a0 a)) (v0, v1, v2, v3, v4, v5) := by kernel_rfl
theorem body16_0 (N : Nat) (o0 : Orc E R) (o1 : Orc E R) (q1 : St E → Option R) (a0 : Ledger) (v0 : ByteArray) (v1 : Int) (v2 : Int) (v3 : List Session) : runA T (G N) live [] o1 body16 (St16 a0 (v0, v1, v2, v3)) (kloop [4, 70, 71, 72] q1 (K16 N o0)) = step16 N a0 (fun a => q1 (St16 a0 a)) (v0, v1, v2, v3) := by kernel_rfl
theorem lp16_eq (N : Nat) (a0 : Ledger) (a : ByteArray × Int × Int × (List Session)) : (orc T (G N) live [] N 2) loop16 (K16 N (orc T (G N) live [] N 2)) (St16 a0 a) = lp16 N a0 a :=
  (orc_loop (b := body16) (live := [4, 70, 71, 72]) (by kernel_rfl)).trans (iter_eq (St16 a0) _ _ (fun q1 a => by
    have hc := congrFun (congrFun (rfl : (step16 N a0) = (step16 N a0)) (fun a => q1 (St16 a0 a))) a
    obtain ⟨u0, u1, u2, u3⟩ := a
    exact (body16_0 N (orc T (G N) live [] N 2) (orc T (G N) live [] N 1) q1 a0 u0 u1 u2 u3).trans hc) N a)
theorem lp10_eq (N : Nat) (a0 : Ledger) (a : ByteArray × Int × Int × (List ByteArray) × (List pairOf) × (List Session)) : (orc T (G N) live [] N 2) loop10 (K10 N (orc T (G N) live [] N 2)) (St10 a0 a) = lp10 N a0 a :=
  (orc_loop (b := body10) (live := [3, 4, 43, 44, 45]) (by kernel_rfl)).trans (iter_eq (St10 a0) _ _ (fun q1 a => by
    have hc := congrFun (congrFun (congrArg (step10 N a0) (funext fun a => lp16_eq N a0 a)) (fun a => q1 (St10 a0 a))) a
    obtain ⟨u0, u1, u2, u3, u4, u5⟩ := a
    exact (body10_0 N (orc T (G N) live [] N 2) (orc T (G N) live [] N 1) q1 a0 u0 u1 u2 u3 u4 u5).trans hc) N a)
theorem lp4_eq (N : Nat) (a0 : Ledger) (a : ByteArray × Int × Int × (List ByteArray) × (List pairOf) × (List Session)) : (orc T (G N) live [] N 2) loop4 (K4 N (orc T (G N) live [] N 2)) (St4 a0 a) = lp4 N a0 a :=
  (orc_loop (b := body4) (live := [3, 4, 22, 23, 24]) (by kernel_rfl)).trans (iter_eq (St4 a0) _ _ (fun q1 a => by
    have hc := congrFun (congrFun (congrArg (step4 N a0) (funext fun a => lp10_eq N a0 a)) (fun a => q1 (St4 a0 a))) a
    obtain ⟨u0, u1, u2, u3, u4, u5⟩ := a
    exact (body4_0 N (orc T (G N) live [] N 2) (orc T (G N) live [] N 1) q1 a0 u0 u1 u2 u3 u4 u5).trans hc) N a)
theorem G_ok (N : Nat) : GamOK Try.prog (G N) := gam_ok (l := [(199, [], impl_booksOf.sp N), (178, [], impl_number.sp N), (200, [], impl_counted.sp N)]) (⟨impl_booksOf.snd N, impl_number.snd N, impl_counted.snd N, trivial⟩)
theorem snd (N : Nat) : Sound Try.prog E 140 (sp N) :=
  Mir.sound T_OK (G_ok N) mixed Try.func140 (c := code) (by kernel_rfl) (by kernel_rfl) (sp N) (Nat.le_of_ble_eq_true (by kernel_rfl)) live [] (by
    rintro ⟨a0, _⟩ r h
    exact ⟨N, 2, ((run N _ a0).trans (congrArg (m0 N a0) (funext fun a => lp4_eq N a0 a))).trans h⟩)
end impl_snapshot
namespace impl_SameLedger
noncomputable def code : Code := Try.f71.body.getD .skip
abbrev live : Live := []
noncomputable def G (N : Nat) : Ctx E := gam [(69, [], impl_LedgerOK.sp N), (140, [], impl_snapshot.sp N)]
noncomputable def m0 (N : Nat) (a0 : Ledger) (a1 : Ledger) : Option R :=
  ob (impl_LedgerOK.m N (Ledger.mk a0.Leaves (Branch.mk a0.Map.Key a0.Map.Value a0.Map.At a0.Map.Kids) a0.Sessions)) fun y1 =>
  bif (!y1) then
    some (false, (1:Int))
  else
  ob (impl_LedgerOK.m N (Ledger.mk a1.Leaves (Branch.mk a1.Map.Key a1.Map.Value a1.Map.At a1.Map.Kids) a1.Sessions)) fun y2 =>
  bif (bif false then true else (!y2)) then
    some (false, (1:Int))
  else
  ob (impl_snapshot.m N (Ledger.mk a0.Leaves (Branch.mk a0.Map.Key a0.Map.Value a0.Map.At a0.Map.Kids) a0.Sessions)) fun y3 =>
  ob (impl_snapshot.m N (Ledger.mk a1.Leaves (Branch.mk a1.Map.Key a1.Map.Value a1.Map.At a1.Map.Kids) a1.Sessions)) fun y4 =>
  some ((seq y3 y4), (0:Int))
theorem run (N : Nat) (o0 : Orc E R) (a0 : Ledger) (a1 : Ledger) : runF T (G N) live [] Try.f71 code (sp N) o0 (a0, a1, ()) = m0 N a0 a1 := by kernel_rfl
theorem G_ok (N : Nat) : GamOK Try.prog (G N) := gam_ok (l := [(69, [], impl_LedgerOK.sp N), (140, [], impl_snapshot.sp N)]) (⟨impl_LedgerOK.snd N, impl_snapshot.snd N, trivial⟩)
theorem snd (N : Nat) : Sound Try.prog E 71 (sp N) :=
  Mir.sound T_OK (G_ok N) mixed Try.func71 (c := code) (by kernel_rfl) (by kernel_rfl) (sp N) (Nat.le_of_ble_eq_true (by kernel_rfl)) live [] (by
    rintro ⟨a0, a1, _⟩ r h
    exact ⟨N, 2, ((run N _ a0 a1).trans rfl).trans h⟩)
end impl_SameLedger
namespace laws_FnExactSameLedger
noncomputable def code : Code := Try.f13.body.getD .skip
abbrev live : Live := []
noncomputable def G (N : Nat) : Ctx E := gam [(63, [], laws_szLedger.sp N), (65, [], laws_toLedger.sp N), (70, [], spec_SameLedger.sp N), (71, [], impl_SameLedger.sp N), (67, [], laws_eqLedger.sp N)]
noncomputable def m0 (N : Nat) (a0 : Ledger) (a1 : Ledger) : Option R :=
  ob (laws_szLedger.m N (Ledger.mk a0.Leaves (Branch.mk a0.Map.Key a0.Map.Value a0.Map.At a0.Map.Kids) a0.Sessions) (1048576:Int)) fun y1 =>
  bif (decide (y1 < (0:Int))) then
    some true
  else
  ob (laws_szLedger.m N (Ledger.mk a1.Leaves (Branch.mk a1.Map.Key a1.Map.Value a1.Map.At a1.Map.Kids) a1.Sessions) y1) fun y2 =>
  bif (decide (y2 < (0:Int))) then
    some true
  else
  ob (laws_toLedger.m N (Ledger.mk a0.Leaves (Branch.mk a0.Map.Key a0.Map.Value a0.Map.At a0.Map.Kids) a0.Sessions)) fun y3 =>
  ob (laws_toLedger.m N (Ledger.mk a1.Leaves (Branch.mk a1.Map.Key a1.Map.Value a1.Map.At a1.Map.Kids) a1.Sessions)) fun y4 =>
  ob (spec_SameLedger.m N (Ledger.mk y3.Leaves (Branch.mk y3.Map.Key y3.Map.Value y3.Map.At y3.Map.Kids) y3.Sessions) (Ledger.mk y4.Leaves (Branch.mk y4.Map.Key y4.Map.Value y4.Map.At y4.Map.Kids) y4.Sessions)) fun y5 =>
  ob (laws_toLedger.m N (Ledger.mk a0.Leaves (Branch.mk a0.Map.Key a0.Map.Value a0.Map.At a0.Map.Kids) a0.Sessions)) fun y6 =>
  ob (laws_toLedger.m N (Ledger.mk a1.Leaves (Branch.mk a1.Map.Key a1.Map.Value a1.Map.At a1.Map.Kids) a1.Sessions)) fun y7 =>
  ob (impl_SameLedger.m N (Ledger.mk y6.Leaves (Branch.mk y6.Map.Key y6.Map.Value y6.Map.At y6.Map.Kids) y6.Sessions) (Ledger.mk y7.Leaves (Branch.mk y7.Map.Key y7.Map.Value y7.Map.At y7.Map.Kids) y7.Sessions)) fun y8 =>
  bif (!(y8.1 == y5.1)) then
    some false
  else
  bif (bif false then true else (y8.2 != y5.2)) then
    some false
  else
  ob (laws_toLedger.m N (Ledger.mk a0.Leaves (Branch.mk a0.Map.Key a0.Map.Value a0.Map.At a0.Map.Kids) a0.Sessions)) fun y9 =>
  ob (laws_eqLedger.m N (Ledger.mk y6.Leaves (Branch.mk y6.Map.Key y6.Map.Value y6.Map.At y6.Map.Kids) y6.Sessions) (Ledger.mk y9.Leaves (Branch.mk y9.Map.Key y9.Map.Value y9.Map.At y9.Map.Kids) y9.Sessions)) fun y10 =>
  bif (!y10) then
    some false
  else
  ob (laws_toLedger.m N (Ledger.mk a1.Leaves (Branch.mk a1.Map.Key a1.Map.Value a1.Map.At a1.Map.Kids) a1.Sessions)) fun y11 =>
  ob (laws_eqLedger.m N (Ledger.mk y7.Leaves (Branch.mk y7.Map.Key y7.Map.Value y7.Map.At y7.Map.Kids) y7.Sessions) (Ledger.mk y11.Leaves (Branch.mk y11.Map.Key y11.Map.Value y11.Map.At y11.Map.Kids) y11.Sessions)) fun y12 =>
  bif (!y12) then
    some false
  else
  some true
theorem run (N : Nat) (o0 : Orc E R) (a0 : Ledger) (a1 : Ledger) : runF T (G N) live [] Try.f13 code (sp N) o0 (a0, a1, ()) = m0 N a0 a1 := by kernel_rfl
theorem G_ok (N : Nat) : GamOK Try.prog (G N) := gam_ok (l := [(63, [], laws_szLedger.sp N), (65, [], laws_toLedger.sp N), (70, [], spec_SameLedger.sp N), (71, [], impl_SameLedger.sp N), (67, [], laws_eqLedger.sp N)]) (⟨laws_szLedger.snd N, laws_toLedger.snd N, spec_SameLedger.snd N, impl_SameLedger.snd N, laws_eqLedger.snd N, trivial⟩)
theorem snd (N : Nat) : Sound Try.prog E 13 (sp N) :=
  Mir.sound T_OK (G_ok N) mixed Try.func13 (c := code) (by kernel_rfl) (by kernel_rfl) (sp N) (Nat.le_of_ble_eq_true (by kernel_rfl)) live [] (by
    rintro ⟨a0, a1, _⟩ r h
    exact ⟨N, 2, ((run N _ a0 a1).trans rfl).trans h⟩)
end laws_FnExactSameLedger
end Mir.Y
