/- The models are what the functions do. -/
import Derived.Test.YtojpcjbdehoibaaHP1
import Derived.Test.YtojpcjbdehoibaaHLays
namespace Mir.Y
set_option linter.unusedVariables false
set_option maxRecDepth 10000
open Go Go.Proofs Mir
namespace spec_l07Size
noncomputable def code : Code := Try.f110.body.getD .skip
abbrev live : Live := []
noncomputable def G (N : Nat) (slf : Branch → Option R) : Ctx E := gam [(162, [], spec_l07Empty.sp N), (164, [], spec_l07Leaf.sp N), (110, [], spf slf)]
noncomputable def m0 (N : Nat) (slf : Branch → Option R) (a0 : Branch) : Option R :=
  ob (spec_l07Empty.m N (Branch.mk a0.Key a0.Value a0.At a0.Kids)) fun y1 =>
  bif y1 then
    some (0:Int)
  else
  ob (spec_l07Leaf.m N (Branch.mk a0.Key a0.Value a0.At a0.Kids)) fun y2 =>
  bif y2 then
    some (1:Int)
  else
  bif (decide (0 ≤ (0:Int))) then
  bif (decide ((0:Int) < (a0.Kids.length : Int))) then
  ob (slf (Branch.mk ((a0.Kids.getD 0 Branch.dz).Key) ((a0.Kids.getD 0 Branch.dz).Value) ((a0.Kids.getD 0 Branch.dz).At) ((a0.Kids.getD 0 Branch.dz).Kids))) fun y3 =>
  bif (decide (0 ≤ (1:Int))) then
  bif (decide ((1:Int) < (a0.Kids.length : Int))) then
  ob (slf (Branch.mk ((a0.Kids.getD 1 Branch.dz).Key) ((a0.Kids.getD 1 Branch.dz).Value) ((a0.Kids.getD 1 Branch.dz).At) ((a0.Kids.getD 1 Branch.dz).Kids))) fun y4 =>
  some (w64 (y3 + y4))
  else none
  else none
  else none
  else none
theorem run (N : Nat) (o0 : Orc E R) (slf : Branch → Option R) (a0 : Branch) : runF T (G N slf) live [] Try.f110 code (spf (mb N slf)) o0 (a0, ()) = m0 N slf a0 := by kernel_rfl
theorem G_ok (N : Nat) (slf : Branch → Option R) (hs : Sound Try.prog E 110 (spf slf)) : GamOK Try.prog (G N slf) := gam_ok (l := [(162, [], spec_l07Empty.sp N), (164, [], spec_l07Leaf.sp N), (110, [], spf slf)]) (⟨spec_l07Empty.snd N, spec_l07Leaf.snd N, hs, trivial⟩)
theorem sndF (N : Nat) : ∀ n, Sound Try.prog E 110 (spf (mF N n))
  | 0 => sound_none Try.func110 (c := code) (by kernel_rfl) (by kernel_rfl) (spf (mF N 0)) (fun _ => rfl)
  | n + 1 => by
    have hr := fun (a0 : Branch) => (run N (orc T (G N (mF N n)) live [] N 2) (mF N n) a0).trans rfl
    exact Mir.sound T_OK (G_ok N (mF N n) (sndF N n)) mixed Try.func110 (c := code) (by kernel_rfl) (by kernel_rfl) (spf (mF N (n + 1))) (Nat.le_of_ble_eq_true (by kernel_rfl)) live [] (by
      rintro ⟨a0, _⟩ r h
      exact ⟨N, 2, (hr a0).trans h⟩)
theorem snd (N : Nat) : Sound Try.prog E 110 (sp N) := sndF N N
end spec_l07Size
namespace spec_l07Own
noncomputable def code : Code := Try.f98.body.getD .skip
abbrev live : Live := [(3, [1, 2, 3, 4])]
noncomputable def G (N : Nat) (slf : Branch → Option R) : Ctx E := gam [(98, [], spf slf)]
noncomputable def loop3 : Code := codeAt code [1, 1, 0, 1, 0]
noncomputable def body3 : Code := codeAt loop3 [0]
noncomputable def K3 (N : Nat) (slf : Branch → Option R) (o0 : Orc E R) : KT E R := kAt TD (G N slf) live [] o0 code [1, 1, 0, 1, 0] (kfin TD Try.f98 (spf (mb N slf)))
noncomputable def St3 (slf : Branch → Option R) (a0 : Branch) : A3 → St E
  | .s0 v0 v5 v6 v7 => { ρ := [(1, .c (.at (.ptr 0 0))), (2, .c (.at (.ptr 1 0))), (3, .c (.at (.ptr 2 0))), (4, .c (.at (.int .i64 v0)))], H := [(0, .box 71 [.str a0.Key, .str a0.Value, .int .i64 a0.At, .ro 71 (.st 71) a0.Kids]), (1, .box 71 [.str v5, .str v6, .int .i64 v7, .nils]), (2, .box 71 [.str a0.Key, .str a0.Value, .int .i64 a0.At, .nils])], nx := 3, n := 31, pin := [] }
  | .s1 v0 v5 v6 v7 v11 => { ρ := [(1, .c (.at (.ptr 0 0))), (2, .c (.at (.ptr 1 0))), (3, .c (.at (.ptr 2 0))), (4, .c (.at (.int .i64 v0)))], H := [(0, .box 71 [.str a0.Key, .str a0.Value, .int .i64 a0.At, .ro 71 (.st 71) a0.Kids]), (1, .box 71 [.str v5, .str v6, .int .i64 v7, .nils]), (2, .box 71 [.str a0.Key, .str a0.Value, .int .i64 a0.At, .own 3]), (3, .drow 71 (.st 71) v11 4), (4, .hdr)], nx := 5, n := 31, pin := [] }
noncomputable def m0 (N : Nat) (slf : Branch → Option R) (a0 : Branch) (lp3 : A3 → Option R) : Option R :=
  lp3 (.s0 (0:Int) ByteArray.empty ByteArray.empty (0:Int))
theorem run (N : Nat) (o0 : Orc E R) (slf : Branch → Option R) (a0 : Branch) : runF TD (G N slf) live [] Try.f98 code (spf (mb N slf)) o0 (a0, ()) = m0 N slf a0 (fun a => o0 loop3 (K3 N slf o0) (St3 slf a0 a)) := by kernel_rfl
theorem body3_0 (N : Nat) (o0 : Orc E R) (o1 : Orc E R) (q1 : St E → Option R) (slf : Branch → Option R) (a0 : Branch) (v0 : Int) (v5 : ByteArray) (v6 : ByteArray) (v7 : Int) : runA TD (G N slf) live [] o1 body3 (St3 slf a0 (.s0 v0 v5 v6 v7)) (kloop [1, 2, 3, 4] q1 (K3 N slf o0)) = step3 N slf a0 (fun a => q1 (St3 slf a0 a)) (.s0 v0 v5 v6 v7) := by kernel_rfl
theorem body3_1 (N : Nat) (o0 : Orc E R) (o1 : Orc E R) (q1 : St E → Option R) (slf : Branch → Option R) (a0 : Branch) (v0 : Int) (v5 : ByteArray) (v6 : ByteArray) (v7 : Int) (v11 : List Branch) : runA TD (G N slf) live [] o1 body3 (St3 slf a0 (.s1 v0 v5 v6 v7 v11)) (kloop [1, 2, 3, 4] q1 (K3 N slf o0)) = step3 N slf a0 (fun a => q1 (St3 slf a0 a)) (.s1 v0 v5 v6 v7 v11) := by kernel_rfl
theorem lp3_eq (N : Nat) (slf : Branch → Option R) (a0 : Branch) (a : A3) : (orc TD (G N slf) live [] N 2) loop3 (K3 N slf (orc TD (G N slf) live [] N 2)) (St3 slf a0 a) = lp3 N slf a0 a :=
  (orc_loop (b := body3) (live := [1, 2, 3, 4]) (by kernel_rfl)).trans (iter_eq (St3 slf a0) _ _ (fun q1 a => by
    have hc := congrFun (congrFun (rfl : (step3 N slf a0) = (step3 N slf a0)) (fun a => q1 (St3 slf a0 a))) a
    cases a with
    | s0 u0 u1 u2 u3 => exact (body3_0 N (orc TD (G N slf) live [] N 2) (orc TD (G N slf) live [] N 1) q1 slf a0 u0 u1 u2 u3).trans hc
    | s1 u0 u1 u2 u3 u4 => exact (body3_1 N (orc TD (G N slf) live [] N 2) (orc TD (G N slf) live [] N 1) q1 slf a0 u0 u1 u2 u3 u4).trans hc) N a)
theorem G_ok (N : Nat) (slf : Branch → Option R) (hs : Sound Try.prog E 98 (spf slf)) : GamOK Try.prog (G N slf) := gam_ok (l := [(98, [], spf slf)]) (⟨hs, trivial⟩)
theorem sndF (N : Nat) : ∀ n, Sound Try.prog E 98 (spf (mF N n))
  | 0 => sound_none Try.func98 (c := code) (by kernel_rfl) (by kernel_rfl) (spf (mF N 0)) (fun _ => rfl)
  | n + 1 => by
    have hr := fun (a0 : Branch) => (run N (orc TD (G N (mF N n)) live [] N 2) (mF N n) a0).trans (congrArg (m0 N (mF N n) a0) (funext fun a => lp3_eq N (mF N n) a0 a))
    exact Mir.sound TD_OK (G_ok N (mF N n) (sndF N n)) mixed Try.func98 (c := code) (by kernel_rfl) (by kernel_rfl) (spf (mF N (n + 1))) (Nat.le_of_ble_eq_true (by kernel_rfl)) live [] (by
      rintro ⟨a0, _⟩ r h
      exact ⟨N, 2, (hr a0).trans h⟩)
theorem snd (N : Nat) : Sound Try.prog E 98 (sp N) := sndF N N
end spec_l07Own
namespace spec_MapPut
noncomputable def code : Code := Try.f48.body.getD .skip
abbrev live : Live := []
noncomputable def G (N : Nat) : Ctx E := gam [(95, [], spec_MapOK.sp N), (96, [], spec_l02Key.sp N), (109, [], spec_l07Put.sp N), (110, [], spec_l07Size.sp N), (98, [], spec_l07Own.sp N)]
noncomputable def m0 (N : Nat) (a0 : Branch) (a1 : ByteArray) (a2 : ByteArray) : Option R :=
  bif (decide ((a1.size : Int) > (65536:Int))) then
    some ((Branch.mk ByteArray.empty ByteArray.empty (0:Int) ([] : List Branch)), (2:Int))
  else
  bif (bif false then true else (decide ((a2.size : Int) > (65536:Int)))) then
    some ((Branch.mk ByteArray.empty ByteArray.empty (0:Int) ([] : List Branch)), (2:Int))
  else
  ob (spec_MapOK.m N (Branch.mk a0.Key a0.Value a0.At a0.Kids)) fun y1 =>
  bif (!y1) then
    some ((Branch.mk ByteArray.empty ByteArray.empty (0:Int) ([] : List Branch)), (1:Int))
  else
  ob (spec_l02Key.m N a1) fun y2 =>
  bif (bif false then true else (!y2)) then
    some ((Branch.mk ByteArray.empty ByteArray.empty (0:Int) ([] : List Branch)), (1:Int))
  else
  bif (bif false then true else (decide ((a2.size : Int) > (60:Int)))) then
    some ((Branch.mk ByteArray.empty ByteArray.empty (0:Int) ([] : List Branch)), (1:Int))
  else
  ob (spec_l07Put.m N (Branch.mk a0.Key a0.Value a0.At a0.Kids) a1 a2) fun y3 =>
  ob (spec_l07Size.m N (Branch.mk y3.Key y3.Value y3.At y3.Kids)) fun y4 =>
  bif (decide (y4 > (40:Int))) then
    some ((Branch.mk ByteArray.empty ByteArray.empty (0:Int) ([] : List Branch)), (7:Int))
  else
  ob (spec_l07Own.m N (Branch.mk y3.Key y3.Value y3.At y3.Kids)) fun y5 =>
  some ((Branch.mk y5.Key y5.Value y5.At y5.Kids), (0:Int))
theorem run (N : Nat) (o0 : Orc E R) (a0 : Branch) (a1 : ByteArray) (a2 : ByteArray) : runF TD (G N) live [] Try.f48 code (sp N) o0 (a0, a1, a2, ()) = m0 N a0 a1 a2 := by kernel_rfl
theorem G_ok (N : Nat) : GamOK Try.prog (G N) := gam_ok (l := [(95, [], spec_MapOK.sp N), (96, [], spec_l02Key.sp N), (109, [], spec_l07Put.sp N), (110, [], spec_l07Size.sp N), (98, [], spec_l07Own.sp N)]) (⟨spec_MapOK.snd N, spec_l02Key.snd N, spec_l07Put.snd N, spec_l07Size.snd N, spec_l07Own.snd N, trivial⟩)
theorem snd (N : Nat) : Sound Try.prog E 48 (sp N) :=
  Mir.sound TD_OK (G_ok N) mixed Try.func48 (c := code) (by kernel_rfl) (by kernel_rfl) (sp N) (Nat.le_of_ble_eq_true (by kernel_rfl)) live [] (by
    rintro ⟨a0, a1, a2, _⟩ r h
    exact ⟨N, 2, ((run N _ a0 a1 a2).trans rfl).trans h⟩)
end spec_MapPut
namespace impl_isText_1
noncomputable def code : Code := Try.f154.body.getD .skip
abbrev live : Live := []
noncomputable def G (N : Nat) : Ctx E := gam []
noncomputable def m0 (N : Nat) (a0 : ByteArray) : Option R :=
  some (decide ((a0.size : Int) > (65536:Int)))
theorem run (N : Nat) (o0 : Orc E R) (a0 : ByteArray) : runF T (G N) live [] Try.f154 code (sp N) o0 (a0, ()) = m0 N a0 := by kernel_rfl
theorem G_ok (N : Nat) : GamOK Try.prog (G N) := gam_ok (l := []) (trivial)
theorem snd (N : Nat) : Sound Try.prog E 154 (sp N) :=
  Mir.sound T_OK (G_ok N) mixed Try.func154 (c := code) (by kernel_rfl) (by kernel_rfl) (sp N) (Nat.le_of_ble_eq_true (by kernel_rfl)) live [] (by
    rintro ⟨a0, _⟩ r h
    exact ⟨N, 2, ((run N _ a0).trans rfl).trans h⟩)
end impl_isText_1
namespace slices_IndexFunc_string_string__impl_isText_1
noncomputable def code : Code := Try.f208.body.getD .skip
abbrev live : Live := [(2, [0, 1, 7, 8])]
noncomputable def G (N : Nat) : Ctx E := gam [(154, [], impl_isText_1.sp N)]
noncomputable def loop2 : Code := codeAt code [1, 0, 1, 0]
noncomputable def body2 : Code := codeAt loop2 [0]
noncomputable def K2 (N : Nat) (o0 : Orc E R) : KT E R := kAt T (G N) live [] o0 code [1, 0, 1, 0] (kfin T Try.f208 (sp N))
noncomputable def St2 (a0 : List ByteArray) : (Int × Int) → St E
  | (v1, v2) => { ρ := [(0, .c (.at (.ro 9 .str a0))), (1, .clo 154 []), (7, .c (.at (.int .i64 v1))), (8, .c (.at (.int .i64 v2)))], H := [], nx := 0, n := 19, pin := [] }
noncomputable def m0 (N : Nat) (a0 : List ByteArray) (lp2 : Int × Int → Option R) : Option R :=
  lp2 ((a0.length : Int), (0:Int))
theorem run (N : Nat) (o0 : Orc E R) (a0 : List ByteArray) : runF T (G N) live [] Try.f208 code (sp N) o0 (a0, (), ()) = m0 N a0 (fun a => o0 loop2 (K2 N o0) (St2 a0 a)) := by kernel_rfl
theorem body2_0 (N : Nat) (o0 : Orc E R) (o1 : Orc E R) (q1 : St E → Option R) (a0 : List ByteArray) (v1 : Int) (v2 : Int) : runA T (G N) live [] o1 body2 (St2 a0 (v1, v2)) (kloop [0, 1, 7, 8] q1 (K2 N o0)) = step2 N a0 (fun a => q1 (St2 a0 a)) (v1, v2) := by kernel_rfl
theorem lp2_eq (N : Nat) (a0 : List ByteArray) (a : Int × Int) : (orc T (G N) live [] N 2) loop2 (K2 N (orc T (G N) live [] N 2)) (St2 a0 a) = lp2 N a0 a :=
  (orc_loop (b := body2) (live := [0, 1, 7, 8]) (by kernel_rfl)).trans (iter_eq (St2 a0) _ _ (fun q1 a => by
    have hc := congrFun (congrFun (rfl : (step2 N a0) = (step2 N a0)) (fun a => q1 (St2 a0 a))) a
    obtain ⟨u0, u1⟩ := a
    exact (body2_0 N (orc T (G N) live [] N 2) (orc T (G N) live [] N 1) q1 a0 u0 u1).trans hc) N a)
theorem G_ok (N : Nat) : GamOK Try.prog (G N) := gam_ok (l := [(154, [], impl_isText_1.sp N)]) (⟨impl_isText_1.snd N, trivial⟩)
theorem snd (N : Nat) : Sound Try.prog E 208 (sp N) :=
  Mir.sound T_OK (G_ok N) mixed Try.func208 (c := code) (by kernel_rfl) (by kernel_rfl) (sp N) (Nat.le_of_ble_eq_true (by kernel_rfl)) live [] (by
    rintro ⟨a0, _, _⟩ r h
    exact ⟨N, 2, ((run N _ a0).trans (congrArg (m0 N a0) (funext fun a => lp2_eq N a0 a))).trans h⟩)
end slices_IndexFunc_string_string__impl_isText_1
namespace slices_ContainsFunc_string_string__impl_isText_1
noncomputable def code : Code := Try.f153.body.getD .skip
abbrev live : Live := []
noncomputable def G (N : Nat) : Ctx E := gam [(208, [154], slices_IndexFunc_string_string__impl_isText_1.sp N)]
noncomputable def m0 (N : Nat) (a0 : List ByteArray) : Option R :=
  ob (slices_IndexFunc_string_string__impl_isText_1.m N a0) fun y1 =>
  some (decide (y1 ≥ (0:Int)))
theorem run (N : Nat) (o0 : Orc E R) (a0 : List ByteArray) : runF T (G N) live [] Try.f153 code (sp N) o0 (a0, (), ()) = m0 N a0 := by kernel_rfl
theorem G_ok (N : Nat) : GamOK Try.prog (G N) := gam_ok (l := [(208, [154], slices_IndexFunc_string_string__impl_isText_1.sp N)]) (⟨slices_IndexFunc_string_string__impl_isText_1.snd N, trivial⟩)
theorem snd (N : Nat) : Sound Try.prog E 153 (sp N) :=
  Mir.sound T_OK (G_ok N) mixed Try.func153 (c := code) (by kernel_rfl) (by kernel_rfl) (sp N) (Nat.le_of_ble_eq_true (by kernel_rfl)) live [] (by
    rintro ⟨a0, _, _⟩ r h
    exact ⟨N, 2, ((run N _ a0).trans rfl).trans h⟩)
end slices_ContainsFunc_string_string__impl_isText_1
namespace impl_isText
noncomputable def code : Code := Try.f83.body.getD .skip
abbrev live : Live := []
noncomputable def G (N : Nat) : Ctx E := gam [(153, [154], slices_ContainsFunc_string_string__impl_isText_1.sp N)]
noncomputable def m0 (N : Nat) (a0 : List ByteArray) : Option R :=
  ob (slices_ContainsFunc_string_string__impl_isText_1.m N a0) fun y1 =>
  some (!y1)
theorem run (N : Nat) (o0 : Orc E R) (a0 : List ByteArray) : runF T (G N) live [] Try.f83 code (sp N) o0 (a0, ()) = m0 N a0 := by kernel_rfl
theorem G_ok (N : Nat) : GamOK Try.prog (G N) := gam_ok (l := [(153, [154], slices_ContainsFunc_string_string__impl_isText_1.sp N)]) (⟨slices_ContainsFunc_string_string__impl_isText_1.snd N, trivial⟩)
theorem snd (N : Nat) : Sound Try.prog E 83 (sp N) :=
  Mir.sound T_OK (G_ok N) mixed Try.func83 (c := code) (by kernel_rfl) (by kernel_rfl) (sp N) (Nat.le_of_ble_eq_true (by kernel_rfl)) live [] (by
    rintro ⟨a0, _⟩ r h
    exact ⟨N, 2, ((run N _ a0).trans rfl).trans h⟩)
end impl_isText
namespace impl_Branch_isEmpty
noncomputable def code : Code := Try.f115.body.getD .skip
abbrev live : Live := []
noncomputable def G (N : Nat) : Ctx E := gam []
noncomputable def m0 (N : Nat) (a0 : Branch) : Option R :=
  bif (seq a0.Key ByteArray.empty) then
    bif (bif true then (seq a0.Value ByteArray.empty) else false) then
      bif (bif true then (a0.At == (0:Int)) else false) then
        some (bif true then ((a0.Kids.length : Int) == (0:Int)) else false)
      else
      some false
    else
    some false
  else
  some false
theorem run (N : Nat) (o0 : Orc E R) (a0 : Branch) : runF T (G N) live [] Try.f115 code (sp N) o0 (a0, ()) = m0 N a0 := by kernel_rfl
theorem G_ok (N : Nat) : GamOK Try.prog (G N) := gam_ok (l := []) (trivial)
theorem snd (N : Nat) : Sound Try.prog E 115 (sp N) :=
  Mir.sound T_OK (G_ok N) mixed Try.func115 (c := code) (by kernel_rfl) (by kernel_rfl) (sp N) (Nat.le_of_ble_eq_true (by kernel_rfl)) live [] (by
    rintro ⟨a0, _⟩ r h
    exact ⟨N, 2, ((run N _ a0).trans rfl).trans h⟩)
end impl_Branch_isEmpty
namespace impl_within
noncomputable def code : Code := Try.f81.body.getD .skip
abbrev live : Live := []
noncomputable def G (N : Nat) : Ctx E := gam []
noncomputable def m0 (N : Nat) (a0 : Int) (a1 : Int) (a2 : Int) : Option R :=
  bif (decide (a0 ≥ a1)) then
    some (bif true then (decide (a0 ≤ a2)) else false)
  else
  some false
theorem run (N : Nat) (o0 : Orc E R) (a0 : Int) (a1 : Int) (a2 : Int) : runF T (G N) live [] Try.f81 code (sp N) o0 (a0, a1, a2, ()) = m0 N a0 a1 a2 := by kernel_rfl
theorem G_ok (N : Nat) : GamOK Try.prog (G N) := gam_ok (l := []) (trivial)
theorem snd (N : Nat) : Sound Try.prog E 81 (sp N) :=
  Mir.sound T_OK (G_ok N) mixed Try.func81 (c := code) (by kernel_rfl) (by kernel_rfl) (sp N) (Nat.le_of_ble_eq_true (by kernel_rfl)) live [] (by
    rintro ⟨a0, a1, a2, _⟩ r h
    exact ⟨N, 2, ((run N _ a0 a1 a2).trans rfl).trans h⟩)
end impl_within
namespace impl_isKey
noncomputable def code : Code := Try.f124.body.getD .skip
abbrev live : Live := []
noncomputable def G (N : Nat) : Ctx E := gam [(81, [], impl_within.sp N)]
noncomputable def m0 (N : Nat) (a0 : ByteArray) : Option R :=
  ob (impl_within.m N (a0.size : Int) (1:Int) (24:Int)) fun y1 =>
  some y1
theorem run (N : Nat) (o0 : Orc E R) (a0 : ByteArray) : runF T (G N) live [] Try.f124 code (sp N) o0 (a0, ()) = m0 N a0 := by kernel_rfl
theorem G_ok (N : Nat) : GamOK Try.prog (G N) := gam_ok (l := [(81, [], impl_within.sp N)]) (⟨impl_within.snd N, trivial⟩)
theorem snd (N : Nat) : Sound Try.prog E 124 (sp N) :=
  Mir.sound T_OK (G_ok N) mixed Try.func124 (c := code) (by kernel_rfl) (by kernel_rfl) (sp N) (Nat.le_of_ble_eq_true (by kernel_rfl)) live [] (by
    rintro ⟨a0, _⟩ r h
    exact ⟨N, 2, ((run N _ a0).trans rfl).trans h⟩)
end impl_isKey
namespace impl_isValue
noncomputable def code : Code := Try.f111.body.getD .skip
abbrev live : Live := []
noncomputable def G (N : Nat) : Ctx E := gam []
noncomputable def m0 (N : Nat) (a0 : ByteArray) : Option R :=
  some (decide ((a0.size : Int) ≤ (60:Int)))
theorem run (N : Nat) (o0 : Orc E R) (a0 : ByteArray) : runF T (G N) live [] Try.f111 code (sp N) o0 (a0, ()) = m0 N a0 := by kernel_rfl
theorem G_ok (N : Nat) : GamOK Try.prog (G N) := gam_ok (l := []) (trivial)
theorem snd (N : Nat) : Sound Try.prog E 111 (sp N) :=
  Mir.sound T_OK (G_ok N) mixed Try.func111 (c := code) (by kernel_rfl) (by kernel_rfl) (sp N) (Nat.le_of_ble_eq_true (by kernel_rfl)) live [] (by
    rintro ⟨a0, _⟩ r h
    exact ⟨N, 2, ((run N _ a0).trans rfl).trans h⟩)
end impl_isValue
namespace impl_Branch_isLeaf
noncomputable def code : Code := Try.f223.body.getD .skip
abbrev live : Live := []
noncomputable def G (N : Nat) : Ctx E := gam [(124, [], impl_isKey.sp N), (111, [], impl_isValue.sp N)]
noncomputable def m0 (N : Nat) (a0 : Branch) : Option R :=
  bif (a0.At == (256:Int)) then
    ob (impl_isKey.m N a0.Key) fun y1 =>
    bif (bif true then y1 else false) then
      ob (impl_isValue.m N a0.Value) fun y2 =>
      bif (bif true then y2 else false) then
        some (bif true then ((a0.Kids.length : Int) == (0:Int)) else false)
      else
      some false
    else
    some false
  else
  some false
theorem run (N : Nat) (o0 : Orc E R) (a0 : Branch) : runF T (G N) live [] Try.f223 code (sp N) o0 (a0, ()) = m0 N a0 := by kernel_rfl
theorem G_ok (N : Nat) : GamOK Try.prog (G N) := gam_ok (l := [(124, [], impl_isKey.sp N), (111, [], impl_isValue.sp N)]) (⟨impl_isKey.snd N, impl_isValue.snd N, trivial⟩)
theorem snd (N : Nat) : Sound Try.prog E 223 (sp N) :=
  Mir.sound T_OK (G_ok N) mixed Try.func223 (c := code) (by kernel_rfl) (by kernel_rfl) (sp N) (Nat.le_of_ble_eq_true (by kernel_rfl)) live [] (by
    rintro ⟨a0, _⟩ r h
    exact ⟨N, 2, ((run N _ a0).trans rfl).trans h⟩)
end impl_Branch_isLeaf
namespace strings_Repeat
theorem repeatL_eq (l : List UInt8) : ∀ n, Go.Lib.repeatL l n = (List.replicate n l).flatten
  | 0 => rfl
  | n + 1 => by rw [List.replicate_succ, List.flatten_cons, ← repeatL_eq l n]; rfl
theorem str_of {W : World} {F : Nat → Prop} {s : ByteArray} {v : Value} (h : RoV E W F .str s v) : v = .string s := by
  obtain ⟨d, h⟩ := h; cases d <;> exact h
theorem int_of {W : World} {F : Nat → Prop} {k : IntKind} {n : Int} {v : Value} (h : RoV E W F (.int k) n v) : v = .int k n := by
  obtain ⟨d, h⟩ := h; cases d <;> exact h
theorem snd (N : Nat) : Sound Try.prog E 177 (sp N) := by
  refine ⟨fun args W => run_callFunc_go Try.func177 (c := Try.f177.body.getD .skip) (by kernel_rfl) (by kernel_rfl) args W, ?_⟩
  rintro W F ⟨a0, a1, _⟩ r args fp hfn ⟨v, vs, f1, f2, rfl, rfl, ⟨h0, rfl⟩, ⟨w, ws, g1, g2, rfl, rfl, ⟨h1, rfl⟩, ⟨rfl, rfl⟩⟩⟩ _ _ hF
  obtain rfl := str_of h0
  obtain rfl := int_of h1
  have hfn : (bif decide (0 ≤ a1) && decide (a1 ≤ 9223372036854775807) && decide (a0.size * a1.toNat ≤ 140737488355328) then some (rep a0 a1.toNat) else none) = some r := hfn
  cases hc : decide (0 ≤ a1) && decide (a1 ≤ 9223372036854775807) && decide (a0.size * a1.toNat ≤ 140737488355328) with
  | false => rw [hc] at hfn; cases hfn
  | true =>
    rw [hc, cond_true] at hfn
    cases hfn
    simp only [Bool.and_eq_true, decide_eq_true_eq] at hc
    obtain ⟨⟨c1, c2⟩, c3⟩ := hc
    obtain ⟨n, rfl⟩ := Int.eq_ofNat_of_zero_le c1
    have c2 : (n : Int) ≤ 9223372036854775807 := c2
    have c3 : a0.size * n ≤ 140737488355328 := c3
    have hcall := Go.Proofs.Any.strings_Repeat Try.repLays Try.repExtra a0 n W (by omega) c3
    refine (show Calls Try.prog 177 #[.string a0, .int .i64 n] W _ from hcall).mono ?_
    rintro e W' ⟨rfl, hb⟩
    refine ⟨_, rfl, ⟨F, [.string (rep a0 n)], [], [], ?_, fun b h => h, fun b h => ⟨.inl h, Nat.lt_of_lt_of_le (hF b h) hb.size⟩, ⟨_, [], [], [], rfl, rfl, ⟨rfl, rfl⟩, ⟨rfl, rfl⟩⟩, ⟨_, _, [], [], rfl, rfl, rfl, ⟨_, _, [], [], rfl, rfl, rfl, ⟨rfl, rfl⟩⟩⟩, List.nodup_nil, fun b h => by cases h⟩, hb.os, hb.tape, hb.output, hb.size, fun b h _ => hb.block b h⟩
    rw [repeatL_eq]; rfl
end strings_Repeat
namespace impl_number
noncomputable def code : Code := Try.f178.body.getD .skip
abbrev live : Live := [(3, [0, 5, 6])]
noncomputable def G (N : Nat) : Ctx E := gam []
noncomputable def loop3 : Code := codeAt code [1, 1, 0, 1, 0]
noncomputable def body3 : Code := codeAt loop3 [0]
noncomputable def K3 (N : Nat) (o0 : Orc E R) : KT E R := kAt T (G N) live [] o0 code [1, 1, 0, 1, 0] (kfin T Try.f178 (sp N))
noncomputable def St3 (a0 : Int) (a1 : Int) : (Int × Int × (List Int)) → St E
  | (v0, v1, v2) => { ρ := [(0, .c (.at (.int .i64 v0))), (5, .c (.at (.own 0))), (6, .c (.at (.int .i64 v1)))], H := [(0, .row 5 (.int .u8) v2 false)], nx := 1, n := 24, pin := [] }
noncomputable def m0 (N : Nat) (a0 : Int) (a1 : Int) (lp3 : Int × Int × (List Int) → Option R) : Option R :=
  bif (decide (0 ≤ a1)) then
  bif (room (Int.toNat a1) 1) then
  lp3 (a0, (w64 (a1 - (1:Int))), (List.replicate (Int.toNat a1) (0:Int)))
  else none
  else none
theorem run (N : Nat) (o0 : Orc E R) (a0 : Int) (a1 : Int) : runF T (G N) live [] Try.f178 code (sp N) o0 (a0, a1, ()) = m0 N a0 a1 (fun a => o0 loop3 (K3 N o0) (St3 a0 a1 a)) := by kernel_rfl
theorem body3_0 (N : Nat) (o0 : Orc E R) (o1 : Orc E R) (q1 : St E → Option R) (a0 : Int) (a1 : Int) (v0 : Int) (v1 : Int) (v2 : List Int) : runA T (G N) live [] o1 body3 (St3 a0 a1 (v0, v1, v2)) (kloop [0, 5, 6] q1 (K3 N o0)) = step3 N a0 a1 (fun a => q1 (St3 a0 a1 a)) (v0, v1, v2) := by kernel_rfl
theorem lp3_eq (N : Nat) (a0 : Int) (a1 : Int) (a : Int × Int × (List Int)) : (orc T (G N) live [] N 2) loop3 (K3 N (orc T (G N) live [] N 2)) (St3 a0 a1 a) = lp3 N a0 a1 a :=
  (orc_loop (b := body3) (live := [0, 5, 6]) (by kernel_rfl)).trans (iter_eq (St3 a0 a1) _ _ (fun q1 a => by
    have hc := congrFun (congrFun (rfl : (step3 N a0 a1) = (step3 N a0 a1)) (fun a => q1 (St3 a0 a1 a))) a
    obtain ⟨u0, u1, u2⟩ := a
    exact (body3_0 N (orc T (G N) live [] N 2) (orc T (G N) live [] N 1) q1 a0 a1 u0 u1 u2).trans hc) N a)
theorem G_ok (N : Nat) : GamOK Try.prog (G N) := gam_ok (l := []) (trivial)
theorem snd (N : Nat) : Sound Try.prog E 178 (sp N) :=
  Mir.sound T_OK (G_ok N) mixed Try.func178 (c := code) (by kernel_rfl) (by kernel_rfl) (sp N) (Nat.le_of_ble_eq_true (by kernel_rfl)) live [] (by
    rintro ⟨a0, a1, _⟩ r h
    exact ⟨N, 2, ((run N _ a0 a1).trans (congrArg (m0 N a0 a1) (funext fun a => lp3_eq N a0 a1 a))).trans h⟩)
end impl_number
namespace impl_hashWords
noncomputable def code : Code := Try.f179.body.getD .skip
abbrev live : Live := []
noncomputable def G (N : Nat) : Ctx E := gam []
noncomputable def m0 (N : Nat) : Option R :=
  (let w1 : List Int := [(1779033703:Int), (3144134277:Int), (1013904242:Int), (2773480762:Int), (1359893119:Int), (2600822924:Int), (528734635:Int), (1541459225:Int)]
  some w1)
theorem run (N : Nat) (o0 : Orc E R) : runF T (G N) live [] Try.f179 code (sp N) o0 () = m0 N := by kernel_rfl
theorem G_ok (N : Nat) : GamOK Try.prog (G N) := gam_ok (l := []) (trivial)
theorem snd (N : Nat) : Sound Try.prog E 179 (sp N) :=
  Mir.sound T_OK (G_ok N) mixed Try.func179 (c := code) (by kernel_rfl) (by kernel_rfl) (sp N) (Nat.le_of_ble_eq_true (by kernel_rfl)) live [] (by
    rintro _ r h
    exact ⟨N, 2, ((run N _).trans rfl).trans h⟩)
end impl_hashWords
namespace impl_roundWords
noncomputable def code : Code := Try.f180.body.getD .skip
abbrev live : Live := []
noncomputable def G (N : Nat) : Ctx E := gam []
noncomputable def m0 (N : Nat) : Option R :=
  (let w1 : List Int := [(1116352408:Int), (1899447441:Int), (3049323471:Int), (3921009573:Int), (961987163:Int), (1508970993:Int), (2453635748:Int), (2870763221:Int), (3624381080:Int), (310598401:Int), (607225278:Int), (1426881987:Int), (1925078388:Int), (2162078206:Int), (2614888103:Int), (3248222580:Int), (3835390401:Int), (4022224774:Int), (264347078:Int), (604807628:Int), (770255983:Int), (1249150122:Int), (1555081692:Int), (1996064986:Int), (2554220882:Int), (2821834349:Int), (2952996808:Int), (3210313671:Int), (3336571891:Int), (3584528711:Int), (113926993:Int), (338241895:Int), (666307205:Int), (773529912:Int), (1294757372:Int), (1396182291:Int), (1695183700:Int), (1986661051:Int), (2177026350:Int), (2456956037:Int), (2730485921:Int), (2820302411:Int), (3259730800:Int), (3345764771:Int), (3516065817:Int), (3600352804:Int), (4094571909:Int), (275423344:Int), (430227734:Int), (506948616:Int), (659060556:Int), (883997877:Int), (958139571:Int), (1322822218:Int), (1537002063:Int), (1747873779:Int), (1955562222:Int), (2024104815:Int), (2227730452:Int), (2361852424:Int), (2428436474:Int), (2756734187:Int), (3204031479:Int), (3329325298:Int)]
  some w1)
theorem run (N : Nat) (o0 : Orc E R) : runF T (G N) live [] Try.f180 code (sp N) o0 () = m0 N := by kernel_rfl
theorem G_ok (N : Nat) : GamOK Try.prog (G N) := gam_ok (l := []) (trivial)
theorem snd (N : Nat) : Sound Try.prog E 180 (sp N) :=
  Mir.sound T_OK (G_ok N) mixed Try.func180 (c := code) (by kernel_rfl) (by kernel_rfl) (sp N) (Nat.le_of_ble_eq_true (by kernel_rfl)) live [] (by
    rintro _ r h
    exact ⟨N, 2, ((run N _).trans rfl).trans h⟩)
end impl_roundWords
namespace math_bits_RotateLeft32
noncomputable def code : Code := Try.f249.body.getD .skip
abbrev live : Live := []
noncomputable def G (N : Nat) : Ctx E := gam []
noncomputable def m0 (N : Nat) (a0 : Int) (a1 : Int) : Option R :=
  bif (!decide ((ibit .and .u64 (wu64 a1) (31:Int)) < 0)) then
  bif (!decide ((wu64 ((32:Int) - (ibit .and .u64 (wu64 a1) (31:Int)))) < 0)) then
  (let w1 : Int := (ibit .or .u32 (wu32 (a0 * 2 ^ (min (Int.toNat (ibit .and .u64 (wu64 a1) (31:Int))) 32))) (Int.fdiv a0 (2 ^ (min (Int.toNat (wu64 ((32:Int) - (ibit .and .u64 (wu64 a1) (31:Int))))) 32))))
  some w1)
  else none
  else none
theorem run (N : Nat) (o0 : Orc E R) (a0 : Int) (a1 : Int) : runF T (G N) live [] Try.f249 code (sp N) o0 (a0, a1, ()) = m0 N a0 a1 := by kernel_rfl
theorem G_ok (N : Nat) : GamOK Try.prog (G N) := gam_ok (l := []) (trivial)
theorem snd (N : Nat) : Sound Try.prog E 249 (sp N) :=
  Mir.sound T_OK (G_ok N) mixed Try.func249 (c := code) (by kernel_rfl) (by kernel_rfl) (sp N) (Nat.le_of_ble_eq_true (by kernel_rfl)) live [] (by
    rintro ⟨a0, a1, _⟩ r h
    exact ⟨N, 2, ((run N _ a0 a1).trans rfl).trans h⟩)
end math_bits_RotateLeft32
namespace impl_turned
noncomputable def code : Code := Try.f222.body.getD .skip
abbrev live : Live := []
noncomputable def G (N : Nat) : Ctx E := gam [(249, [], math_bits_RotateLeft32.sp N)]
noncomputable def m0 (N : Nat) (a0 : Int) (a1 : Int) : Option R :=
  ob (math_bits_RotateLeft32.m N a0 (w64 (0 - a1))) fun y1 =>
  some y1
theorem run (N : Nat) (o0 : Orc E R) (a0 : Int) (a1 : Int) : runF T (G N) live [] Try.f222 code (sp N) o0 (a0, a1, ()) = m0 N a0 a1 := by kernel_rfl
theorem G_ok (N : Nat) : GamOK Try.prog (G N) := gam_ok (l := [(249, [], math_bits_RotateLeft32.sp N)]) (⟨math_bits_RotateLeft32.snd N, trivial⟩)
theorem snd (N : Nat) : Sound Try.prog E 222 (sp N) :=
  Mir.sound T_OK (G_ok N) mixed Try.func222 (c := code) (by kernel_rfl) (by kernel_rfl) (sp N) (Nat.le_of_ble_eq_true (by kernel_rfl)) live [] (by
    rintro ⟨a0, a1, _⟩ r h
    exact ⟨N, 2, ((run N _ a0 a1).trans rfl).trans h⟩)
end impl_turned
namespace impl_wordsOf
noncomputable def code : Code := Try.f221.body.getD .skip
abbrev live : Live := [(3, [0, 2, 3, 10])]
noncomputable def G (N : Nat) : Ctx E := gam [(222, [], impl_turned.sp N)]
noncomputable def loop3 : Code := codeAt code [1, 1, 0, 1, 0]
noncomputable def body3 : Code := codeAt loop3 [0]
noncomputable def K3 (N : Nat) (o0 : Orc E R) : KT E R := kAt T (G N) live [] o0 code [1, 1, 0, 1, 0] (kfin T Try.f221 (sp N))
noncomputable def St3 (a0 : ByteArray) : (Int × (List Int) × (List Int)) → St E
  | (v1, v2, v3) => { ρ := [(0, .c (.at (.str a0))), (2, .c (.at (.ptr 0 0))), (3, .c (.at (.ptr 1 0))), (10, .c (.at (.int .i64 v1)))], H := [(0, .arr 211 .u32 64 v2), (1, .arr 211 .u32 64 v3)], nx := 2, n := 87, pin := [] }
noncomputable def m0 (N : Nat) (a0 : ByteArray) (lp3 : Int × (List Int) × (List Int) → Option R) : Option R :=
  lp3 ((0:Int), (List.replicate 64 (0:Int)), (List.replicate 64 (0:Int)))
theorem run (N : Nat) (o0 : Orc E R) (a0 : ByteArray) : runF T (G N) live [] Try.f221 code (sp N) o0 (a0, ()) = m0 N a0 (fun a => o0 loop3 (K3 N o0) (St3 a0 a)) := by kernel_rfl
theorem body3_0 (N : Nat) (o0 : Orc E R) (o1 : Orc E R) (q1 : St E → Option R) (a0 : ByteArray) (v1 : Int) (v2 : List Int) (v3 : List Int) : runA T (G N) live [] o1 body3 (St3 a0 (v1, v2, v3)) (kloop [0, 2, 3, 10] q1 (K3 N o0)) = step3 N a0 (fun a => q1 (St3 a0 a)) (v1, v2, v3) := by kernel_rfl
theorem lp3_eq (N : Nat) (a0 : ByteArray) (a : Int × (List Int) × (List Int)) : (orc T (G N) live [] N 2) loop3 (K3 N (orc T (G N) live [] N 2)) (St3 a0 a) = lp3 N a0 a :=
  (orc_loop (b := body3) (live := [0, 2, 3, 10]) (by kernel_rfl)).trans (iter_eq (St3 a0) _ _ (fun q1 a => by
    have hc := congrFun (congrFun (rfl : (step3 N a0) = (step3 N a0)) (fun a => q1 (St3 a0 a))) a
    obtain ⟨u0, u1, u2⟩ := a
    exact (body3_0 N (orc T (G N) live [] N 2) (orc T (G N) live [] N 1) q1 a0 u0 u1 u2).trans hc) N a)
theorem G_ok (N : Nat) : GamOK Try.prog (G N) := gam_ok (l := [(222, [], impl_turned.sp N)]) (⟨impl_turned.snd N, trivial⟩)
theorem snd (N : Nat) : Sound Try.prog E 221 (sp N) :=
  Mir.sound T_OK (G_ok N) mixed Try.func221 (c := code) (by kernel_rfl) (by kernel_rfl) (sp N) (Nat.le_of_ble_eq_true (by kernel_rfl)) live [] (by
    rintro ⟨a0, _⟩ r h
    exact ⟨N, 2, ((run N _ a0).trans (congrArg (m0 N a0) (funext fun a => lp3_eq N a0 a))).trans h⟩)
end impl_wordsOf
namespace impl_blockHash
noncomputable def code : Code := Try.f181.body.getD .skip
abbrev live : Live := [(11, [3, 6, 7, 100]), (3, [3, 4, 6, 7, 8, 22])]
noncomputable def G (N : Nat) : Ctx E := gam [(221, [], impl_wordsOf.sp N), (222, [], impl_turned.sp N)]
noncomputable def loop3 : Code := codeAt code [1, 1, 0, 1, 0]
noncomputable def body3 : Code := codeAt loop3 [0]
noncomputable def loop11 : Code := codeAt code [1, 1, 1, 0, 1, 0]
noncomputable def body11 : Code := codeAt loop11 [0]
noncomputable def K3 (N : Nat) (o0 : Orc E R) : KT E R := kAt T (G N) live [] o0 code [1, 1, 0, 1, 0] (kfin T Try.f181 (sp N))
noncomputable def St3 (a0 : List Int) (a1 : List Int) (a2 : ByteArray) : (Int × (List Int) × (List Int) × (List Int)) → St E
  | (v0, v3, v4, v5) => { ρ := [(3, .c (.at (.ptr 0 0))), (4, .c (.at (.ptr 1 0))), (6, .c (.at (.ptr 2 0))), (7, .c (.at (.ptr 3 0))), (8, .c (.at (.ptr 4 0))), (22, .c (.at (.int .i64 v0)))], H := [(0, .arr 209 .u32 8 a0), (1, .arr 211 .u32 64 a1), (2, .arr 209 .u32 8 v3), (3, .arr 209 .u32 8 v4), (4, .arr 211 .u32 64 v5)], nx := 5, n := 113, pin := [] }
noncomputable def K11 (N : Nat) (o0 : Orc E R) : KT E R := kAt T (G N) live [] o0 code [1, 1, 1, 0, 1, 0] (kfin T Try.f181 (sp N))
noncomputable def St11 (a0 : List Int) (a1 : List Int) (a2 : ByteArray) : (Int × (List Int) × (List Int)) → St E
  | (v0, v2, v3) => { ρ := [(3, .c (.at (.ptr 0 0))), (6, .c (.at (.ptr 1 0))), (7, .c (.at (.ptr 2 0))), (100, .c (.at (.int .i64 v0)))], H := [(0, .arr 209 .u32 8 a0), (1, .arr 209 .u32 8 v2), (2, .arr 209 .u32 8 v3)], nx := 3, n := 113, pin := [] }
noncomputable def m0 (N : Nat) (a0 : List Int) (a1 : List Int) (a2 : ByteArray) (lp3 : Int × (List Int) × (List Int) × (List Int) → Option R) : Option R :=
  ob (impl_wordsOf.m N a2) fun y1 =>
  lp3 ((0:Int), (List.replicate 8 (0:Int)), a0, y1)
theorem run (N : Nat) (o0 : Orc E R) (a0 : List Int) (a1 : List Int) (a2 : ByteArray) : runF T (G N) live [] Try.f181 code (sp N) o0 (a0, a1, a2, ()) = m0 N a0 a1 a2 (fun a => o0 loop3 (K3 N o0) (St3 a0 a1 a2 a)) := by kernel_rfl
theorem body3_0 (N : Nat) (o0 : Orc E R) (o1 : Orc E R) (q1 : St E → Option R) (a0 : List Int) (a1 : List Int) (a2 : ByteArray) (v0 : Int) (v3 : List Int) (v4 : List Int) (v5 : List Int) : runA T (G N) live [] o1 body3 (St3 a0 a1 a2 (v0, v3, v4, v5)) (kloop [3, 4, 6, 7, 8, 22] q1 (K3 N o0)) = step3 N a0 a1 a2 (fun a => o0 loop11 (K11 N o0) (St11 a0 a1 a2 a)) (fun a => q1 (St3 a0 a1 a2 a)) (v0, v3, v4, v5) := by kernel_rfl
theorem body11_0 (N : Nat) (o0 : Orc E R) (o1 : Orc E R) (q1 : St E → Option R) (a0 : List Int) (a1 : List Int) (a2 : ByteArray) (v0 : Int) (v2 : List Int) (v3 : List Int) : runA T (G N) live [] o1 body11 (St11 a0 a1 a2 (v0, v2, v3)) (kloop [3, 6, 7, 100] q1 (K11 N o0)) = step11 N a0 a1 a2 (fun a => q1 (St11 a0 a1 a2 a)) (v0, v2, v3) := by kernel_rfl
theorem lp11_eq (N : Nat) (a0 : List Int) (a1 : List Int) (a2 : ByteArray) (a : Int × (List Int) × (List Int)) : (orc T (G N) live [] N 2) loop11 (K11 N (orc T (G N) live [] N 2)) (St11 a0 a1 a2 a) = lp11 N a0 a1 a2 a :=
  (orc_loop (b := body11) (live := [3, 6, 7, 100]) (by kernel_rfl)).trans (iter_eq (St11 a0 a1 a2) _ _ (fun q1 a => by
    have hc := congrFun (congrFun (rfl : (step11 N a0 a1 a2) = (step11 N a0 a1 a2)) (fun a => q1 (St11 a0 a1 a2 a))) a
    obtain ⟨u0, u1, u2⟩ := a
    exact (body11_0 N (orc T (G N) live [] N 2) (orc T (G N) live [] N 1) q1 a0 a1 a2 u0 u1 u2).trans hc) N a)
theorem lp3_eq (N : Nat) (a0 : List Int) (a1 : List Int) (a2 : ByteArray) (a : Int × (List Int) × (List Int) × (List Int)) : (orc T (G N) live [] N 2) loop3 (K3 N (orc T (G N) live [] N 2)) (St3 a0 a1 a2 a) = lp3 N a0 a1 a2 a :=
  (orc_loop (b := body3) (live := [3, 4, 6, 7, 8, 22]) (by kernel_rfl)).trans (iter_eq (St3 a0 a1 a2) _ _ (fun q1 a => by
    have hc := congrFun (congrFun (congrArg (step3 N a0 a1 a2) (funext fun a => lp11_eq N a0 a1 a2 a)) (fun a => q1 (St3 a0 a1 a2 a))) a
    obtain ⟨u0, u1, u2, u3⟩ := a
    exact (body3_0 N (orc T (G N) live [] N 2) (orc T (G N) live [] N 1) q1 a0 a1 a2 u0 u1 u2 u3).trans hc) N a)
theorem G_ok (N : Nat) : GamOK Try.prog (G N) := gam_ok (l := [(221, [], impl_wordsOf.sp N), (222, [], impl_turned.sp N)]) (⟨impl_wordsOf.snd N, impl_turned.snd N, trivial⟩)
theorem snd (N : Nat) : Sound Try.prog E 181 (sp N) :=
  Mir.sound T_OK (G_ok N) mixed Try.func181 (c := code) (by kernel_rfl) (by kernel_rfl) (sp N) (Nat.le_of_ble_eq_true (by kernel_rfl)) live [] (by
    rintro ⟨a0, a1, a2, _⟩ r h
    exact ⟨N, 2, ((run N _ a0 a1 a2).trans (congrArg (m0 N a0 a1 a2) (funext fun a => lp3_eq N a0 a1 a2 a))).trans h⟩)
end impl_blockHash
namespace impl_hash
noncomputable def code : Code := Try.f114.body.getD .skip
abbrev live : Live := [(9, [7, 40, 41]), (4, [3, 4, 5, 6])]
noncomputable def G (N : Nat) : Ctx E := gam [(177, [], strings_Repeat.sp N), (178, [], impl_number.sp N), (179, [], impl_hashWords.sp N), (180, [], impl_roundWords.sp N), (181, [], impl_blockHash.sp N)]
noncomputable def loop4 : Code := codeAt code [1, 1, 1, 0, 1, 0]
noncomputable def body4 : Code := codeAt loop4 [0]
noncomputable def loop9 : Code := codeAt code [1, 1, 1, 1, 1, 0, 1, 0]
noncomputable def body9 : Code := codeAt loop9 [0]
noncomputable def K4 (N : Nat) (o0 : Orc E R) : KT E R := kAt T (G N) live [] o0 code [1, 1, 1, 0, 1, 0] (kfin T Try.f114 (sp N))
noncomputable def St4 (a0 : ByteArray) : (ByteArray × Int × (List Int) × (List Int)) → St E
  | (v0, v1, v2, v3) => { ρ := [(3, .c (.at (.str v0))), (4, .c (.at (.ptr 0 0))), (5, .c (.at (.ptr 1 0))), (6, .c (.at (.int .i64 v1)))], H := [(0, .arr 209 .u32 8 v2), (1, .arr 211 .u32 64 v3)], nx := 2, n := 51, pin := [] }
noncomputable def K9 (N : Nat) (o0 : Orc E R) : KT E R := kAt T (G N) live [] o0 code [1, 1, 1, 1, 1, 0, 1, 0] (kfin T Try.f114 (sp N))
noncomputable def St9 (a0 : ByteArray) : (ByteArray × (List Int) × Int) → St E
  | (v0, v1, v2) => { ρ := [(7, .c (.at (.str v0))), (40, .c (.arr .u32 8 v1)), (41, .c (.at (.int .i64 v2)))], H := [], nx := 0, n := 51, pin := [] }
noncomputable def m0 (N : Nat) (a0 : ByteArray) (lp4 : ByteArray × Int × (List Int) × (List Int) → Option R) : Option R :=
  bif (decide (a0.size + (⟨#[128]⟩ : ByteArray).size ≤ 9223372036854775807)) then
  bif (!decide ((64:Int) = 0)) then
  bif (!decide ((64:Int) = 0)) then
  ob (strings_Repeat.m N (⟨#[0]⟩ : ByteArray) (Int.tmod (w64 ((119:Int) - (Int.tmod (a0.size : Int) (64:Int)))) (64:Int))) fun y1 =>
  bif (decide ((a0 ++ (⟨#[128]⟩ : ByteArray)).size + y1.size ≤ 9223372036854775807)) then
  ob (impl_number.m N (w64 ((8:Int) * (a0.size : Int))) (8:Int)) fun y2 =>
  bif (decide (((a0 ++ (⟨#[128]⟩ : ByteArray)) ++ y1).size + y2.size ≤ 9223372036854775807)) then
  ob (impl_hashWords.m N) fun y3 =>
  ob (impl_roundWords.m N) fun y4 =>
  lp4 ((((a0 ++ (⟨#[128]⟩ : ByteArray)) ++ y1) ++ y2), (0:Int), y3, y4)
  else none
  else none
  else none
  else none
  else none
theorem run (N : Nat) (o0 : Orc E R) (a0 : ByteArray) : runF T (G N) live [] Try.f114 code (sp N) o0 (a0, ()) = m0 N a0 (fun a => o0 loop4 (K4 N o0) (St4 a0 a)) := by kernel_rfl
theorem body4_0 (N : Nat) (o0 : Orc E R) (o1 : Orc E R) (q1 : St E → Option R) (a0 : ByteArray) (v0 : ByteArray) (v1 : Int) (v2 : List Int) (v3 : List Int) : runA T (G N) live [] o1 body4 (St4 a0 (v0, v1, v2, v3)) (kloop [3, 4, 5, 6] q1 (K4 N o0)) = step4 N a0 (fun a => o0 loop9 (K9 N o0) (St9 a0 a)) (fun a => q1 (St4 a0 a)) (v0, v1, v2, v3) := by kernel_rfl
theorem body9_0 (N : Nat) (o0 : Orc E R) (o1 : Orc E R) (q1 : St E → Option R) (a0 : ByteArray) (v0 : ByteArray) (v1 : List Int) (v2 : Int) : runA T (G N) live [] o1 body9 (St9 a0 (v0, v1, v2)) (kloop [7, 40, 41] q1 (K9 N o0)) = step9 N a0 (fun a => q1 (St9 a0 a)) (v0, v1, v2) := by kernel_rfl
theorem lp9_eq (N : Nat) (a0 : ByteArray) (a : ByteArray × (List Int) × Int) : (orc T (G N) live [] N 2) loop9 (K9 N (orc T (G N) live [] N 2)) (St9 a0 a) = lp9 N a0 a :=
  (orc_loop (b := body9) (live := [7, 40, 41]) (by kernel_rfl)).trans (iter_eq (St9 a0) _ _ (fun q1 a => by
    have hc := congrFun (congrFun (rfl : (step9 N a0) = (step9 N a0)) (fun a => q1 (St9 a0 a))) a
    obtain ⟨u0, u1, u2⟩ := a
    exact (body9_0 N (orc T (G N) live [] N 2) (orc T (G N) live [] N 1) q1 a0 u0 u1 u2).trans hc) N a)
theorem lp4_eq (N : Nat) (a0 : ByteArray) (a : ByteArray × Int × (List Int) × (List Int)) : (orc T (G N) live [] N 2) loop4 (K4 N (orc T (G N) live [] N 2)) (St4 a0 a) = lp4 N a0 a :=
  (orc_loop (b := body4) (live := [3, 4, 5, 6]) (by kernel_rfl)).trans (iter_eq (St4 a0) _ _ (fun q1 a => by
    have hc := congrFun (congrFun (congrArg (step4 N a0) (funext fun a => lp9_eq N a0 a)) (fun a => q1 (St4 a0 a))) a
    obtain ⟨u0, u1, u2, u3⟩ := a
    exact (body4_0 N (orc T (G N) live [] N 2) (orc T (G N) live [] N 1) q1 a0 u0 u1 u2 u3).trans hc) N a)
theorem G_ok (N : Nat) : GamOK Try.prog (G N) := gam_ok (l := [(177, [], strings_Repeat.sp N), (178, [], impl_number.sp N), (179, [], impl_hashWords.sp N), (180, [], impl_roundWords.sp N), (181, [], impl_blockHash.sp N)]) (⟨strings_Repeat.snd N, impl_number.snd N, impl_hashWords.snd N, impl_roundWords.snd N, impl_blockHash.snd N, trivial⟩)
theorem snd (N : Nat) : Sound Try.prog E 114 (sp N) :=
  Mir.sound T_OK (G_ok N) mixed Try.func114 (c := code) (by kernel_rfl) (by kernel_rfl) (sp N) (Nat.le_of_ble_eq_true (by kernel_rfl)) live [] (by
    rintro ⟨a0, _⟩ r h
    exact ⟨N, 2, ((run N _ a0).trans (congrArg (m0 N a0) (funext fun a => lp4_eq N a0 a))).trans h⟩)
end impl_hash
namespace impl_Branch_isFork
noncomputable def code : Code := Try.f224.body.getD .skip
abbrev live : Live := []
noncomputable def G (N : Nat) : Ctx E := gam [(81, [], impl_within.sp N)]
noncomputable def m0 (N : Nat) (a0 : Branch) : Option R :=
  bif (seq a0.Key ByteArray.empty) then
    bif (bif true then (seq a0.Value ByteArray.empty) else false) then
      ob (impl_within.m N a0.At (0:Int) (255:Int)) fun y1 =>
      bif (bif true then y1 else false) then
        some (bif true then ((a0.Kids.length : Int) == (2:Int)) else false)
      else
      some false
    else
    some false
  else
  some false
theorem run (N : Nat) (o0 : Orc E R) (a0 : Branch) : runF T (G N) live [] Try.f224 code (sp N) o0 (a0, ()) = m0 N a0 := by kernel_rfl
theorem G_ok (N : Nat) : GamOK Try.prog (G N) := gam_ok (l := [(81, [], impl_within.sp N)]) (⟨impl_within.snd N, trivial⟩)
theorem snd (N : Nat) : Sound Try.prog E 224 (sp N) :=
  Mir.sound T_OK (G_ok N) mixed Try.func224 (c := code) (by kernel_rfl) (by kernel_rfl) (sp N) (Nat.le_of_ble_eq_true (by kernel_rfl)) live [] (by
    rintro ⟨a0, _⟩ r h
    exact ⟨N, 2, ((run N _ a0).trans rfl).trans h⟩)
end impl_Branch_isFork
namespace impl_bit
noncomputable def code : Code := Try.f116.body.getD .skip
abbrev live : Live := []
noncomputable def G (N : Nat) : Ctx E := gam []
noncomputable def m0 (N : Nat) (a0 : ByteArray) (a1 : Int) : Option R :=
  bif (!decide ((8:Int) = 0)) then
  bif (decide (0 ≤ (w64 (Int.tdiv a1 (8:Int))))) then
  bif (decide ((w64 (Int.tdiv a1 (8:Int))) < (a0.size : Int))) then
  bif (!decide ((8:Int) = 0)) then
  bif (!decide ((w64 ((7:Int) - (Int.tmod a1 (8:Int)))) < 0)) then
  (let w1 : Int := (ibit .and .i64 (w64 (Int.fdiv (sb a0 (w64 (Int.tdiv a1 (8:Int)))) (2 ^ (min (Int.toNat (w64 ((7:Int) - (Int.tmod a1 (8:Int))))) 8)))) (1:Int))
  some w1)
  else none
  else none
  else none
  else none
  else none
theorem run (N : Nat) (o0 : Orc E R) (a0 : ByteArray) (a1 : Int) : runF T (G N) live [] Try.f116 code (sp N) o0 (a0, a1, ()) = m0 N a0 a1 := by kernel_rfl
theorem G_ok (N : Nat) : GamOK Try.prog (G N) := gam_ok (l := []) (trivial)
theorem snd (N : Nat) : Sound Try.prog E 116 (sp N) :=
  Mir.sound T_OK (G_ok N) mixed Try.func116 (c := code) (by kernel_rfl) (by kernel_rfl) (sp N) (Nat.le_of_ble_eq_true (by kernel_rfl)) live [] (by
    rintro ⟨a0, a1, _⟩ r h
    exact ⟨N, 2, ((run N _ a0 a1).trans rfl).trans h⟩)
end impl_bit
namespace impl_Branch_pairs_1
noncomputable def code : Code := Try.f226.body.getD .skip
abbrev live : Live := []
noncomputable def G (N : Nat) : Ctx E := gam [(116, [], impl_bit.sp N)]
noncomputable def m0 (N : Nat) (a0 : pairOf) (a1 : Branch) (a2 : Int) : Option R :=
  ob (impl_bit.m N a0.hash a1.At) fun y1 =>
  some (y1 != a2)
theorem run (N : Nat) (o0 : Orc E R) (a0 : pairOf) (a1 : Branch) (a2 : Int) : runF T (G N) live [] Try.f226 code (sp N) o0 (a0, a1, a2, ()) = m0 N a0 a1 a2 := by kernel_rfl
theorem G_ok (N : Nat) : GamOK Try.prog (G N) := gam_ok (l := [(116, [], impl_bit.sp N)]) (⟨impl_bit.snd N, trivial⟩)
theorem snd (N : Nat) : Sound Try.prog E 226 (sp N) :=
  Mir.sound T_OK (G_ok N) mixed Try.func226 (c := code) (by kernel_rfl) (by kernel_rfl) (sp N) (Nat.le_of_ble_eq_true (by kernel_rfl)) live [] (by
    rintro ⟨a0, a1, a2, _⟩ r h
    exact ⟨N, 2, ((run N _ a0 a1 a2).trans rfl).trans h⟩)
end impl_Branch_pairs_1
namespace slices_IndexFunc_impl_pairOf_impl_pairOf__impl_Branch_pairs_1
noncomputable def code : Code := Try.f169.body.getD .skip
abbrev live : Live := [(2, [0, 1, 7, 8])]
noncomputable def G (N : Nat) : Ctx E := gam [(226, [], impl_Branch_pairs_1.sp N)]
noncomputable def loop2 : Code := codeAt code [1, 0, 1, 0]
noncomputable def body2 : Code := codeAt loop2 [0]
noncomputable def K2 (N : Nat) (o0 : Orc E R) : KT E R := kAt T (G N) live [] o0 code [1, 0, 1, 0] (kfin T Try.f169 (sp N))
noncomputable def St2 (a0 : List pairOf) (a1_0 : Branch) (a1_1 : Int) : (Int × Int) → St E
  | (v1, v2) => { ρ := [(0, .c (.at (.ro 146 (.st 146) a0))), (1, .clo 226 [.at (.ptr 0 0), .at (.ptr 1 0)]), (7, .c (.at (.int .i64 v1))), (8, .c (.at (.int .i64 v2)))], H := [(0, .rbx [.str a1_0.Key, .str a1_0.Value, .int .i64 a1_0.At, .ro 71 (.st 71) a1_0.Kids]), (1, .rbx [.int .i64 a1_1])], nx := 2, n := 19, pin := [] }
noncomputable def m0 (N : Nat) (a0 : List pairOf) (a1_0 : Branch) (a1_1 : Int) (lp2 : Int × Int → Option R) : Option R :=
  lp2 ((a0.length : Int), (0:Int))
theorem run (N : Nat) (o0 : Orc E R) (a0 : List pairOf) (a1_0 : Branch) (a1_1 : Int) : runF T (G N) live [] Try.f169 code (sp N) o0 (a0, (a1_0, a1_1, ()), ()) = m0 N a0 a1_0 a1_1 (fun a => o0 loop2 (K2 N o0) (St2 a0 a1_0 a1_1 a)) := by kernel_rfl
theorem body2_0 (N : Nat) (o0 : Orc E R) (o1 : Orc E R) (q1 : St E → Option R) (a0 : List pairOf) (a1_0 : Branch) (a1_1 : Int) (v1 : Int) (v2 : Int) : runA T (G N) live [] o1 body2 (St2 a0 a1_0 a1_1 (v1, v2)) (kloop [0, 1, 7, 8] q1 (K2 N o0)) = step2 N a0 a1_0 a1_1 (fun a => q1 (St2 a0 a1_0 a1_1 a)) (v1, v2) := by kernel_rfl
theorem lp2_eq (N : Nat) (a0 : List pairOf) (a1_0 : Branch) (a1_1 : Int) (a : Int × Int) : (orc T (G N) live [] N 2) loop2 (K2 N (orc T (G N) live [] N 2)) (St2 a0 a1_0 a1_1 a) = lp2 N a0 a1_0 a1_1 a :=
  (orc_loop (b := body2) (live := [0, 1, 7, 8]) (by kernel_rfl)).trans (iter_eq (St2 a0 a1_0 a1_1) _ _ (fun q1 a => by
    have hc := congrFun (congrFun (rfl : (step2 N a0 a1_0 a1_1) = (step2 N a0 a1_0 a1_1)) (fun a => q1 (St2 a0 a1_0 a1_1 a))) a
    obtain ⟨u0, u1⟩ := a
    exact (body2_0 N (orc T (G N) live [] N 2) (orc T (G N) live [] N 1) q1 a0 a1_0 a1_1 u0 u1).trans hc) N a)
theorem G_ok (N : Nat) : GamOK Try.prog (G N) := gam_ok (l := [(226, [], impl_Branch_pairs_1.sp N)]) (⟨impl_Branch_pairs_1.snd N, trivial⟩)
theorem snd (N : Nat) : Sound Try.prog E 169 (sp N) :=
  Mir.sound T_OK (G_ok N) mixed Try.func169 (c := code) (by kernel_rfl) (by kernel_rfl) (sp N) (Nat.le_of_ble_eq_true (by kernel_rfl)) live [] (by
    rintro ⟨a0, ⟨a1_0, a1_1, _⟩, _⟩ r h
    exact ⟨N, 2, ((run N _ a0 a1_0 a1_1).trans (congrArg (m0 N a0 a1_0 a1_1) (funext fun a => lp2_eq N a0 a1_0 a1_1 a))).trans h⟩)
end slices_IndexFunc_impl_pairOf_impl_pairOf__impl_Branch_pairs_1
namespace slices_ContainsFunc_impl_pairOf_impl_pairOf__impl_Branch_pairs_1
noncomputable def code : Code := Try.f225.body.getD .skip
abbrev live : Live := []
noncomputable def G (N : Nat) : Ctx E := gam [(169, [226], slices_IndexFunc_impl_pairOf_impl_pairOf__impl_Branch_pairs_1.sp N)]
noncomputable def m0 (N : Nat) (a0 : List pairOf) (a1_0 : Branch) (a1_1 : Int) : Option R :=
  ob (slices_IndexFunc_impl_pairOf_impl_pairOf__impl_Branch_pairs_1.m N a0 (Branch.mk a1_0.Key a1_0.Value a1_0.At a1_0.Kids) a1_1) fun y1 =>
  some (decide (y1 ≥ (0:Int)))
theorem run (N : Nat) (o0 : Orc E R) (a0 : List pairOf) (a1_0 : Branch) (a1_1 : Int) : runF T (G N) live [] Try.f225 code (sp N) o0 (a0, (a1_0, a1_1, ()), ()) = m0 N a0 a1_0 a1_1 := by kernel_rfl
theorem G_ok (N : Nat) : GamOK Try.prog (G N) := gam_ok (l := [(169, [226], slices_IndexFunc_impl_pairOf_impl_pairOf__impl_Branch_pairs_1.sp N)]) (⟨slices_IndexFunc_impl_pairOf_impl_pairOf__impl_Branch_pairs_1.snd N, trivial⟩)
theorem snd (N : Nat) : Sound Try.prog E 225 (sp N) :=
  Mir.sound T_OK (G_ok N) mixed Try.func225 (c := code) (by kernel_rfl) (by kernel_rfl) (sp N) (Nat.le_of_ble_eq_true (by kernel_rfl)) live [] (by
    rintro ⟨a0, ⟨a1_0, a1_1, _⟩, _⟩ r h
    exact ⟨N, 2, ((run N _ a0 a1_0 a1_1).trans rfl).trans h⟩)
end slices_ContainsFunc_impl_pairOf_impl_pairOf__impl_Branch_pairs_1
namespace impl_sameAhead
noncomputable def code : Code := Try.f228.body.getD .skip
abbrev live : Live := [(2, [0, 1, 8, 9])]
noncomputable def G (N : Nat) : Ctx E := gam [(116, [], impl_bit.sp N)]
noncomputable def loop2 : Code := codeAt code [1, 0, 1, 0]
noncomputable def body2 : Code := codeAt loop2 [0]
noncomputable def K2 (N : Nat) (o0 : Orc E R) : KT E R := kAt T (G N) live [] o0 code [1, 0, 1, 0] (kfin T Try.f228 (sp N))
noncomputable def St2 (a0 : ByteArray) (a1 : ByteArray) (a2 : Int) : Int → St E
  | v3 => { ρ := [(0, .c (.at (.str a0))), (1, .c (.at (.str a1))), (8, .c (.at (.int .i64 a2))), (9, .c (.at (.int .i64 v3)))], H := [], nx := 0, n := 20, pin := [] }
noncomputable def m0 (N : Nat) (a0 : ByteArray) (a1 : ByteArray) (a2 : Int) (lp2 : Int → Option R) : Option R :=
  lp2 (0:Int)
theorem run (N : Nat) (o0 : Orc E R) (a0 : ByteArray) (a1 : ByteArray) (a2 : Int) : runF T (G N) live [] Try.f228 code (sp N) o0 (a0, a1, a2, ()) = m0 N a0 a1 a2 (fun a => o0 loop2 (K2 N o0) (St2 a0 a1 a2 a)) := by kernel_rfl
theorem body2_0 (N : Nat) (o0 : Orc E R) (o1 : Orc E R) (q1 : St E → Option R) (a0 : ByteArray) (a1 : ByteArray) (a2 : Int) (v3 : Int) : runA T (G N) live [] o1 body2 (St2 a0 a1 a2 v3) (kloop [0, 1, 8, 9] q1 (K2 N o0)) = step2 N a0 a1 a2 (fun a => q1 (St2 a0 a1 a2 a)) v3 := by kernel_rfl
theorem lp2_eq (N : Nat) (a0 : ByteArray) (a1 : ByteArray) (a2 : Int) (a : Int) : (orc T (G N) live [] N 2) loop2 (K2 N (orc T (G N) live [] N 2)) (St2 a0 a1 a2 a) = lp2 N a0 a1 a2 a :=
  (orc_loop (b := body2) (live := [0, 1, 8, 9]) (by kernel_rfl)).trans (iter_eq (St2 a0 a1 a2) _ _ (fun q1 a => by
    have hc := congrFun (congrFun (rfl : (step2 N a0 a1 a2) = (step2 N a0 a1 a2)) (fun a => q1 (St2 a0 a1 a2 a))) a
    exact (body2_0 N (orc T (G N) live [] N 2) (orc T (G N) live [] N 1) q1 a0 a1 a2 a).trans hc) N a)
theorem G_ok (N : Nat) : GamOK Try.prog (G N) := gam_ok (l := [(116, [], impl_bit.sp N)]) (⟨impl_bit.snd N, trivial⟩)
theorem snd (N : Nat) : Sound Try.prog E 228 (sp N) :=
  Mir.sound T_OK (G_ok N) mixed Try.func228 (c := code) (by kernel_rfl) (by kernel_rfl) (sp N) (Nat.le_of_ble_eq_true (by kernel_rfl)) live [] (by
    rintro ⟨a0, a1, a2, _⟩ r h
    exact ⟨N, 2, ((run N _ a0 a1 a2).trans (congrArg (m0 N a0 a1 a2) (funext fun a => lp2_eq N a0 a1 a2 a))).trans h⟩)
end impl_sameAhead
namespace impl_Branch_pairs_2
noncomputable def code : Code := Try.f227.body.getD .skip
abbrev live : Live := []
noncomputable def G (N : Nat) : Ctx E := gam [(228, [], impl_sameAhead.sp N)]
noncomputable def m0 (N : Nat) (a0 : pairOf) (a1 : List pairOf) (a2 : Branch) : Option R :=
  bif (decide (0 ≤ (0:Int))) then
  bif (decide ((0:Int) < (a1.length : Int))) then
  ob (impl_sameAhead.m N a0.hash ((a1.getD 0 pairOf.dz).hash) a2.At) fun y1 =>
  some (!y1)
  else none
  else none
theorem run (N : Nat) (o0 : Orc E R) (a0 : pairOf) (a1 : List pairOf) (a2 : Branch) : runF T (G N) live [] Try.f227 code (sp N) o0 (a0, a1, a2, ()) = m0 N a0 a1 a2 := by kernel_rfl
theorem G_ok (N : Nat) : GamOK Try.prog (G N) := gam_ok (l := [(228, [], impl_sameAhead.sp N)]) (⟨impl_sameAhead.snd N, trivial⟩)
theorem snd (N : Nat) : Sound Try.prog E 227 (sp N) :=
  Mir.sound T_OK (G_ok N) mixed Try.func227 (c := code) (by kernel_rfl) (by kernel_rfl) (sp N) (Nat.le_of_ble_eq_true (by kernel_rfl)) live [] (by
    rintro ⟨a0, a1, a2, _⟩ r h
    exact ⟨N, 2, ((run N _ a0 a1 a2).trans rfl).trans h⟩)
end impl_Branch_pairs_2
namespace slices_IndexFunc_impl_pairOf_impl_pairOf__impl_Branch_pairs_2
noncomputable def code : Code := Try.f169.body.getD .skip
abbrev live : Live := [(2, [0, 1, 7, 8])]
noncomputable def G (N : Nat) : Ctx E := gam [(227, [], impl_Branch_pairs_2.sp N)]
noncomputable def loop2 : Code := codeAt code [1, 0, 1, 0]
noncomputable def body2 : Code := codeAt loop2 [0]
noncomputable def K2 (N : Nat) (o0 : Orc E R) : KT E R := kAt T (G N) live [] o0 code [1, 0, 1, 0] (kfin T Try.f169 (sp N))
noncomputable def St2 (a0 : List pairOf) (a1_0 : List pairOf) (a1_1 : Branch) : (Int × Int) → St E
  | (v1, v2) => { ρ := [(0, .c (.at (.ro 146 (.st 146) a0))), (1, .clo 227 [.at (.ptr 0 0), .at (.ptr 1 0)]), (7, .c (.at (.int .i64 v1))), (8, .c (.at (.int .i64 v2)))], H := [(0, .rbx [.ro 146 (.st 146) a1_0]), (1, .rbx [.str a1_1.Key, .str a1_1.Value, .int .i64 a1_1.At, .ro 71 (.st 71) a1_1.Kids])], nx := 2, n := 19, pin := [] }
noncomputable def m0 (N : Nat) (a0 : List pairOf) (a1_0 : List pairOf) (a1_1 : Branch) (lp2 : Int × Int → Option R) : Option R :=
  lp2 ((a0.length : Int), (0:Int))
theorem run (N : Nat) (o0 : Orc E R) (a0 : List pairOf) (a1_0 : List pairOf) (a1_1 : Branch) : runF T (G N) live [] Try.f169 code (sp N) o0 (a0, (a1_0, a1_1, ()), ()) = m0 N a0 a1_0 a1_1 (fun a => o0 loop2 (K2 N o0) (St2 a0 a1_0 a1_1 a)) := by kernel_rfl
theorem body2_0 (N : Nat) (o0 : Orc E R) (o1 : Orc E R) (q1 : St E → Option R) (a0 : List pairOf) (a1_0 : List pairOf) (a1_1 : Branch) (v1 : Int) (v2 : Int) : runA T (G N) live [] o1 body2 (St2 a0 a1_0 a1_1 (v1, v2)) (kloop [0, 1, 7, 8] q1 (K2 N o0)) = step2 N a0 a1_0 a1_1 (fun a => q1 (St2 a0 a1_0 a1_1 a)) (v1, v2) := by kernel_rfl
theorem lp2_eq (N : Nat) (a0 : List pairOf) (a1_0 : List pairOf) (a1_1 : Branch) (a : Int × Int) : (orc T (G N) live [] N 2) loop2 (K2 N (orc T (G N) live [] N 2)) (St2 a0 a1_0 a1_1 a) = lp2 N a0 a1_0 a1_1 a :=
  (orc_loop (b := body2) (live := [0, 1, 7, 8]) (by kernel_rfl)).trans (iter_eq (St2 a0 a1_0 a1_1) _ _ (fun q1 a => by
    have hc := congrFun (congrFun (rfl : (step2 N a0 a1_0 a1_1) = (step2 N a0 a1_0 a1_1)) (fun a => q1 (St2 a0 a1_0 a1_1 a))) a
    obtain ⟨u0, u1⟩ := a
    exact (body2_0 N (orc T (G N) live [] N 2) (orc T (G N) live [] N 1) q1 a0 a1_0 a1_1 u0 u1).trans hc) N a)
theorem G_ok (N : Nat) : GamOK Try.prog (G N) := gam_ok (l := [(227, [], impl_Branch_pairs_2.sp N)]) (⟨impl_Branch_pairs_2.snd N, trivial⟩)
theorem snd (N : Nat) : Sound Try.prog E 169 (sp N) :=
  Mir.sound T_OK (G_ok N) mixed Try.func169 (c := code) (by kernel_rfl) (by kernel_rfl) (sp N) (Nat.le_of_ble_eq_true (by kernel_rfl)) live [] (by
    rintro ⟨a0, ⟨a1_0, a1_1, _⟩, _⟩ r h
    exact ⟨N, 2, ((run N _ a0 a1_0 a1_1).trans (congrArg (m0 N a0 a1_0 a1_1) (funext fun a => lp2_eq N a0 a1_0 a1_1 a))).trans h⟩)
end slices_IndexFunc_impl_pairOf_impl_pairOf__impl_Branch_pairs_2
namespace slices_ContainsFunc_impl_pairOf_impl_pairOf__impl_Branch_pairs_2
noncomputable def code : Code := Try.f225.body.getD .skip
abbrev live : Live := []
noncomputable def G (N : Nat) : Ctx E := gam [(169, [227], slices_IndexFunc_impl_pairOf_impl_pairOf__impl_Branch_pairs_2.sp N)]
noncomputable def m0 (N : Nat) (a0 : List pairOf) (a1_0 : List pairOf) (a1_1 : Branch) : Option R :=
  ob (slices_IndexFunc_impl_pairOf_impl_pairOf__impl_Branch_pairs_2.m N a0 a1_0 (Branch.mk a1_1.Key a1_1.Value a1_1.At a1_1.Kids)) fun y1 =>
  some (decide (y1 ≥ (0:Int)))
theorem run (N : Nat) (o0 : Orc E R) (a0 : List pairOf) (a1_0 : List pairOf) (a1_1 : Branch) : runF T (G N) live [] Try.f225 code (sp N) o0 (a0, (a1_0, a1_1, ()), ()) = m0 N a0 a1_0 a1_1 := by kernel_rfl
theorem G_ok (N : Nat) : GamOK Try.prog (G N) := gam_ok (l := [(169, [227], slices_IndexFunc_impl_pairOf_impl_pairOf__impl_Branch_pairs_2.sp N)]) (⟨slices_IndexFunc_impl_pairOf_impl_pairOf__impl_Branch_pairs_2.snd N, trivial⟩)
theorem snd (N : Nat) : Sound Try.prog E 225 (sp N) :=
  Mir.sound T_OK (G_ok N) mixed Try.func225 (c := code) (by kernel_rfl) (by kernel_rfl) (sp N) (Nat.le_of_ble_eq_true (by kernel_rfl)) live [] (by
    rintro ⟨a0, ⟨a1_0, a1_1, _⟩, _⟩ r h
    exact ⟨N, 2, ((run N _ a0 a1_0 a1_1).trans rfl).trans h⟩)
end slices_ContainsFunc_impl_pairOf_impl_pairOf__impl_Branch_pairs_2
namespace impl_Branch_pairs
noncomputable def code : Code := Try.f185.body.getD .skip
abbrev live : Live := [(8, [2, 3, 8, 44, 45, 46])]
noncomputable def G (N : Nat) (slf : Branch → Int → Int → Option R) : Ctx E := gam [(223, [], impl_Branch_isLeaf.sp N), (114, [], impl_hash.sp N), (224, [], impl_Branch_isFork.sp N), (185, [], spf slf), (225, [226], slices_ContainsFunc_impl_pairOf_impl_pairOf__impl_Branch_pairs_1.sp N), (225, [227], slices_ContainsFunc_impl_pairOf_impl_pairOf__impl_Branch_pairs_2.sp N)]
noncomputable def loop8 : Code := codeAt code [1, 1, 1, 1, 0, 1, 0]
noncomputable def body8 : Code := codeAt loop8 [0]
noncomputable def K8 (N : Nat) (slf : Branch → Int → Int → Option R) (o0 : Orc E R) : KT E R := kAt T (G N slf) live [] o0 code [1, 1, 1, 1, 0, 1, 0] (kfin T Try.f185 (spf (mb N slf)))
noncomputable def St8 (slf : Branch → Int → Int → Option R) (a0 : Branch) (a1 : Int) (a2 : Int) : (Int × Int × Int × (List pairOf)) → St E
  | (v1, v2, v3, v8) => { ρ := [(2, .c (.at (.ptr 0 0))), (3, .c (.at (.ptr 1 0))), (8, .c (.at (.ptr 2 0))), (44, .c (.at (.ro 71 (.st 71) a0.Kids))), (45, .c (.at (.int .i64 v1))), (46, .c (.at (.int .i64 v2)))], H := [(0, .box 3 [.int .i64 v3]), (1, .box 71 [.str a0.Key, .str a0.Value, .int .i64 a0.At, .ro 71 (.st 71) a0.Kids]), (2, .box 139 [.own 3]), (3, .row 146 (.st 146) v8 false)], nx := 4, n := 75, pin := [2] }
noncomputable def m0 (N : Nat) (slf : Branch → Int → Int → Option R) (a0 : Branch) (a1 : Int) (a2 : Int) (lp8 : Int × Int × Int × (List pairOf) → Option R) : Option R :=
  ob (impl_Branch_isLeaf.m N (Branch.mk a0.Key a0.Value a0.At a0.Kids)) fun y1 =>
  bif y1 then
    ob (impl_hash.m N a0.Key) fun y2 =>
    some ([(pairOf.mk a0.Key a0.Value y2)], (decide ((w64 (a2 - (1:Int))) ≥ (0:Int))), (w64 (a2 - (1:Int))))
  else
  ob (impl_Branch_isFork.m N (Branch.mk a0.Key a0.Value a0.At a0.Kids)) fun y3 =>
  bif (!y3) then
    some (([] : List pairOf), false, a2)
  else
  bif (bif false then true else (decide (a0.At ≤ a1))) then
    some (([] : List pairOf), false, a2)
  else
  lp8 ((a0.Kids.length : Int), (0:Int), a2, ([] : List pairOf))
theorem run (N : Nat) (o0 : Orc E R) (slf : Branch → Int → Int → Option R) (a0 : Branch) (a1 : Int) (a2 : Int) : runF T (G N slf) live [] Try.f185 code (spf (mb N slf)) o0 (a0, a1, a2, ()) = m0 N slf a0 a1 a2 (fun a => o0 loop8 (K8 N slf o0) (St8 slf a0 a1 a2 a)) := by kernel_rfl
theorem body8_0 (N : Nat) (o0 : Orc E R) (o1 : Orc E R) (q1 : St E → Option R) (slf : Branch → Int → Int → Option R) (a0 : Branch) (a1 : Int) (a2 : Int) (v1 : Int) (v2 : Int) (v3 : Int) (v8 : List pairOf) : runA T (G N slf) live [] o1 body8 (St8 slf a0 a1 a2 (v1, v2, v3, v8)) (kloop [2, 3, 8, 44, 45, 46] q1 (K8 N slf o0)) = step8 N slf a0 a1 a2 (fun a => q1 (St8 slf a0 a1 a2 a)) (v1, v2, v3, v8) := by kernel_rfl
theorem lp8_eq (N : Nat) (slf : Branch → Int → Int → Option R) (a0 : Branch) (a1 : Int) (a2 : Int) (a : Int × Int × Int × (List pairOf)) : (orc T (G N slf) live [] N 2) loop8 (K8 N slf (orc T (G N slf) live [] N 2)) (St8 slf a0 a1 a2 a) = lp8 N slf a0 a1 a2 a :=
  (orc_loop (b := body8) (live := [2, 3, 8, 44, 45, 46]) (by kernel_rfl)).trans (iter_eq (St8 slf a0 a1 a2) _ _ (fun q1 a => by
    have hc := congrFun (congrFun (rfl : (step8 N slf a0 a1 a2) = (step8 N slf a0 a1 a2)) (fun a => q1 (St8 slf a0 a1 a2 a))) a
    obtain ⟨u0, u1, u2, u3⟩ := a
    exact (body8_0 N (orc T (G N slf) live [] N 2) (orc T (G N slf) live [] N 1) q1 slf a0 a1 a2 u0 u1 u2 u3).trans hc) N a)
theorem G_ok (N : Nat) (slf : Branch → Int → Int → Option R) (hs : Sound Try.prog E 185 (spf slf)) : GamOK Try.prog (G N slf) := gam_ok (l := [(223, [], impl_Branch_isLeaf.sp N), (114, [], impl_hash.sp N), (224, [], impl_Branch_isFork.sp N), (185, [], spf slf), (225, [226], slices_ContainsFunc_impl_pairOf_impl_pairOf__impl_Branch_pairs_1.sp N), (225, [227], slices_ContainsFunc_impl_pairOf_impl_pairOf__impl_Branch_pairs_2.sp N)]) (⟨impl_Branch_isLeaf.snd N, impl_hash.snd N, impl_Branch_isFork.snd N, hs, slices_ContainsFunc_impl_pairOf_impl_pairOf__impl_Branch_pairs_1.snd N, slices_ContainsFunc_impl_pairOf_impl_pairOf__impl_Branch_pairs_2.snd N, trivial⟩)
theorem sndF (N : Nat) : ∀ n, Sound Try.prog E 185 (spf (mF N n))
  | 0 => sound_none Try.func185 (c := code) (by kernel_rfl) (by kernel_rfl) (spf (mF N 0)) (fun _ => rfl)
  | n + 1 => by
    have hr := fun (a0 : Branch) (a1 : Int) (a2 : Int) => (run N (orc T (G N (mF N n)) live [] N 2) (mF N n) a0 a1 a2).trans (congrArg (m0 N (mF N n) a0 a1 a2) (funext fun a => lp8_eq N (mF N n) a0 a1 a2 a))
    exact Mir.sound T_OK (G_ok N (mF N n) (sndF N n)) mixed Try.func185 (c := code) (by kernel_rfl) (by kernel_rfl) (spf (mF N (n + 1))) (Nat.le_of_ble_eq_true (by kernel_rfl)) live [] (by
      rintro ⟨a0, a1, a2, _⟩ r h
      exact ⟨N, 2, (hr a0 a1 a2).trans h⟩)
theorem snd (N : Nat) : Sound Try.prog E 185 (sp N) := sndF N N
end impl_Branch_pairs
end Mir.Y
