/- The models are what the functions do. -/
import Derived.Test.YtojpcjbdehoibaaJP3
import Derived.Test.YtojpcjbdehoibaaJDel105
namespace Mir.Y
set_option linter.unusedVariables false
set_option maxRecDepth 10000
open Go Go.Proofs Mir
namespace spec_l00Digits
noncomputable def code : Code := Try.f190.body.getD .skip
abbrev live : Live := []
noncomputable def G (N : Nat) (slf : Int → Option R) : Ctx E := gam [(190, [], spf slf)]
noncomputable def m0 (N : Nat) (slf : Int → Option R) (a0 : Int) : Option R :=
  bif (a0 == (-9223372036854775808:Int)) then
    some (⟨#[45, 57, 50, 50, 51, 51, 55, 50, 48, 51, 54, 56, 53, 52, 55, 55, 53, 56, 48, 56]⟩ : ByteArray)
  else
  bif (decide (a0 < (0:Int))) then
    ob (slf (w64 (0 - a0))) fun y1 =>
    bif (decide ((⟨#[45]⟩ : ByteArray).size + y1.size ≤ 9223372036854775807)) then
    some ((⟨#[45]⟩ : ByteArray) ++ y1)
    else none
  else
  bif (decide (a0 < (10:Int))) then
    some (strOf ([(wu8 (w64 ((48:Int) + a0)))]))
  else
  bif (!decide ((10:Int) = 0)) then
  ob (slf (w64 (Int.tdiv a0 (10:Int)))) fun y2 =>
  bif (!decide ((10:Int) = 0)) then
  bif (decide (y2.size + (strOf ([(wu8 (w64 ((48:Int) + (Int.tmod a0 (10:Int)))))])).size ≤ 9223372036854775807)) then
  some (y2 ++ (strOf ([(wu8 (w64 ((48:Int) + (Int.tmod a0 (10:Int)))))])))
  else none
  else none
  else none
theorem run (N : Nat) (o0 : Orc E R) (slf : Int → Option R) (a0 : Int) : runF T (G N slf) live [] Try.f190 code (spf (mb N slf)) o0 (a0, ()) = m0 N slf a0 := by kernel_rfl
theorem G_ok (N : Nat) (slf : Int → Option R) (hs : Sound Try.prog E 190 (spf slf)) : GamOK Try.prog (G N slf) := gam_ok (l := [(190, [], spf slf)]) (⟨hs, trivial⟩)
theorem sndF (N : Nat) : ∀ n, Sound Try.prog E 190 (spf (mF N n))
  | 0 => sound_none Try.func190 (c := code) (by kernel_rfl) (by kernel_rfl) (spf (mF N 0)) (fun _ => rfl)
  | n + 1 => by
    have hr := fun (a0 : Int) => (run N (orc T (G N (mF N n)) live [] N 2) (mF N n) a0).trans rfl
    exact Mir.sound T_OK (G_ok N (mF N n) (sndF N n)) mixed Try.func190 (c := code) (by kernel_rfl) (by kernel_rfl) (spf (mF N (n + 1))) (Nat.le_of_ble_eq_true (by kernel_rfl)) live [] (by
      rintro ⟨a0, _⟩ r h
      exact ⟨N, 2, (hr a0).trans h⟩)
theorem snd (N : Nat) : Sound Try.prog E 190 (sp N) := sndF N N
end spec_l00Digits
namespace spec_l00Src_branch
noncomputable def code : Code := Try.f125.body.getD .skip
abbrev live : Live := [(8, [0, 2, 3, 5]), (3, [0, 2, 3, 4])]
noncomputable def G (N : Nat) : Ctx E := gam [(142, [], spec_l00Src_size_.sp N), (141, [], spec_l00Src_next_.sp N), (110, [], spec_l07Size.sp N), (121, [], spec_l00Src_mapKey.sp N), (188, [], spec_l00Src_datum.sp N), (109, [], spec_l07Put.sp N), (189, [], spec_l00Src_chance.sp N), (98, [], spec_l07Own.sp N), (190, [], spec_l00Digits.sp N)]
noncomputable def loop3 : Code := codeAt code [1, 1, 0, 1, 0]
noncomputable def body3 : Code := codeAt loop3 [0]
noncomputable def loop8 : Code := codeAt code [1, 1, 1, 0, 1, 0, 1, 0]
noncomputable def body8 : Code := codeAt loop8 [0]
noncomputable def K3 (N : Nat) (o0 : Orc E R) : KT E R := kAt T (G N) live [] o0 code [1, 1, 0, 1, 0] (kfin T Try.f125 (sp N))
noncomputable def St3 (a0 : l00Src) : A3 → St E
  | .s0 v0 v1 v2 v3 v4 v5 v6 v7 v8 v9 => { ρ := [(0, .c (.at (.ptr 0 0))), (2, .c (.at (.ptr 1 0))), (3, .c (.at (.ptr 2 0))), (4, .c (.at (.int .i64 v0)))], H := [(0, .box 179 [.ro 5 (.int .u8) v1, .int .i64 v2, .int .i64 v3]), (1, .box 71 [.str v4, .str v5, .int .i64 v6, .nils]), (2, .box 71 [.str v7, .str v8, .int .i64 v9, .nils])], nx := 3, n := 41, pin := [0] }
  | .s1 v0 v1 v2 v3 v4 v5 v6 v7 v8 v9 v10 => { ρ := [(0, .c (.at (.ptr 0 0))), (2, .c (.at (.ptr 1 0))), (3, .c (.at (.ptr 2 0))), (4, .c (.at (.int .i64 v0)))], H := [(0, .box 179 [.ro 5 (.int .u8) v1, .int .i64 v2, .int .i64 v3]), (1, .box 71 [.str v4, .str v5, .int .i64 v6, .nils]), (2, .box 71 [.str v7, .str v8, .int .i64 v9, .ro 71 (.st 71) v10])], nx := 3, n := 41, pin := [0] }
noncomputable def K8 (N : Nat) (o0 : Orc E R) : KT E R := kAt T (G N) live [] o0 code [1, 1, 1, 0, 1, 0, 1, 0] (kfin T Try.f125 (sp N))
noncomputable def St8 (a0 : l00Src) : A8 → St E
  | .s0 v0 v1 v2 v3 v4 v5 v6 v7 v8 v9 => { ρ := [(0, .c (.at (.ptr 0 0))), (2, .c (.at (.ptr 1 0))), (3, .c (.at (.ptr 2 0))), (5, .c (.at (.int .i64 v0)))], H := [(0, .box 179 [.ro 5 (.int .u8) v1, .int .i64 v2, .int .i64 v3]), (1, .box 71 [.str v4, .str v5, .int .i64 v6, .nils]), (2, .box 71 [.str v7, .str v8, .int .i64 v9, .nils])], nx := 3, n := 41, pin := [0] }
  | .s1 v0 v1 v2 v3 v4 v5 v6 v7 v8 v9 v10 => { ρ := [(0, .c (.at (.ptr 0 0))), (2, .c (.at (.ptr 1 0))), (3, .c (.at (.ptr 2 0))), (5, .c (.at (.int .i64 v0)))], H := [(0, .box 179 [.ro 5 (.int .u8) v1, .int .i64 v2, .int .i64 v3]), (1, .box 71 [.str v4, .str v5, .int .i64 v6, .nils]), (2, .box 71 [.str v7, .str v8, .int .i64 v9, .ro 71 (.st 71) v10])], nx := 3, n := 41, pin := [0] }
noncomputable def m0 (N : Nat) (a0 : l00Src) (lp3 : A3 → Option R) : Option R :=
  ob (spec_l00Src_size_.m N a0 (12:Int)) fun y1 =>
  ob (spec_l00Src_next_.m N a0 (w64 (y1 + (3:Int)))) fun y2 =>
  lp3 (.s0 y2.1 y2.2.code y2.2.«at» y2.2.seed ByteArray.empty ByteArray.empty (0:Int) ByteArray.empty ByteArray.empty (0:Int))
theorem run (N : Nat) (o0 : Orc E R) (a0 : l00Src) : runF T (G N) live [] Try.f125 code (sp N) o0 (a0, ()) = m0 N a0 (fun a => o0 loop3 (K3 N o0) (St3 a0 a)) := by kernel_rfl
theorem body3_0 (N : Nat) (o0 : Orc E R) (o1 : Orc E R) (q1 : St E → Option R) (a0 : l00Src) (v0 : Int) (v1 : List Int) (v2 : Int) (v3 : Int) (v4 : ByteArray) (v5 : ByteArray) (v6 : Int) (v7 : ByteArray) (v8 : ByteArray) (v9 : Int) : runA T (G N) live [] o1 body3 (St3 a0 (.s0 v0 v1 v2 v3 v4 v5 v6 v7 v8 v9)) (kloop [0, 2, 3, 4] q1 (K3 N o0)) = step3 N a0 (fun a => o0 loop8 (K8 N o0) (St8 a0 a)) (fun a => q1 (St3 a0 a)) (.s0 v0 v1 v2 v3 v4 v5 v6 v7 v8 v9) := by kernel_rfl
theorem body3_1 (N : Nat) (o0 : Orc E R) (o1 : Orc E R) (q1 : St E → Option R) (a0 : l00Src) (v0 : Int) (v1 : List Int) (v2 : Int) (v3 : Int) (v4 : ByteArray) (v5 : ByteArray) (v6 : Int) (v7 : ByteArray) (v8 : ByteArray) (v9 : Int) (v10 : List Branch) : runA T (G N) live [] o1 body3 (St3 a0 (.s1 v0 v1 v2 v3 v4 v5 v6 v7 v8 v9 v10)) (kloop [0, 2, 3, 4] q1 (K3 N o0)) = step3 N a0 (fun a => o0 loop8 (K8 N o0) (St8 a0 a)) (fun a => q1 (St3 a0 a)) (.s1 v0 v1 v2 v3 v4 v5 v6 v7 v8 v9 v10) := by kernel_rfl
theorem body8_0 (N : Nat) (o0 : Orc E R) (o1 : Orc E R) (q1 : St E → Option R) (a0 : l00Src) (v0 : Int) (v1 : List Int) (v2 : Int) (v3 : Int) (v4 : ByteArray) (v5 : ByteArray) (v6 : Int) (v7 : ByteArray) (v8 : ByteArray) (v9 : Int) : runA T (G N) live [] o1 body8 (St8 a0 (.s0 v0 v1 v2 v3 v4 v5 v6 v7 v8 v9)) (kloop [0, 2, 3, 5] q1 (K8 N o0)) = step8 N a0 (fun a => q1 (St8 a0 a)) (.s0 v0 v1 v2 v3 v4 v5 v6 v7 v8 v9) := by kernel_rfl
theorem body8_1 (N : Nat) (o0 : Orc E R) (o1 : Orc E R) (q1 : St E → Option R) (a0 : l00Src) (v0 : Int) (v1 : List Int) (v2 : Int) (v3 : Int) (v4 : ByteArray) (v5 : ByteArray) (v6 : Int) (v7 : ByteArray) (v8 : ByteArray) (v9 : Int) (v10 : List Branch) : runA T (G N) live [] o1 body8 (St8 a0 (.s1 v0 v1 v2 v3 v4 v5 v6 v7 v8 v9 v10)) (kloop [0, 2, 3, 5] q1 (K8 N o0)) = step8 N a0 (fun a => q1 (St8 a0 a)) (.s1 v0 v1 v2 v3 v4 v5 v6 v7 v8 v9 v10) := by kernel_rfl
theorem lp8_eq (N : Nat) (a0 : l00Src) (a : A8) : (orc T (G N) live [] N 2) loop8 (K8 N (orc T (G N) live [] N 2)) (St8 a0 a) = lp8 N a0 a :=
  (orc_loop (b := body8) (live := [0, 2, 3, 5]) (by kernel_rfl)).trans (iter_eq (St8 a0) _ _ (fun q1 a => by
    have hc := congrFun (congrFun (rfl : (step8 N a0) = (step8 N a0)) (fun a => q1 (St8 a0 a))) a
    cases a with
    | s0 u0 u1 u2 u3 u4 u5 u6 u7 u8 u9 => exact (body8_0 N (orc T (G N) live [] N 2) (orc T (G N) live [] N 1) q1 a0 u0 u1 u2 u3 u4 u5 u6 u7 u8 u9).trans hc
    | s1 u0 u1 u2 u3 u4 u5 u6 u7 u8 u9 u10 => exact (body8_1 N (orc T (G N) live [] N 2) (orc T (G N) live [] N 1) q1 a0 u0 u1 u2 u3 u4 u5 u6 u7 u8 u9 u10).trans hc) N a)
theorem lp3_eq (N : Nat) (a0 : l00Src) (a : A3) : (orc T (G N) live [] N 2) loop3 (K3 N (orc T (G N) live [] N 2)) (St3 a0 a) = lp3 N a0 a :=
  (orc_loop (b := body3) (live := [0, 2, 3, 4]) (by kernel_rfl)).trans (iter_eq (St3 a0) _ _ (fun q1 a => by
    have hc := congrFun (congrFun (congrArg (step3 N a0) (funext fun a => lp8_eq N a0 a)) (fun a => q1 (St3 a0 a))) a
    cases a with
    | s0 u0 u1 u2 u3 u4 u5 u6 u7 u8 u9 => exact (body3_0 N (orc T (G N) live [] N 2) (orc T (G N) live [] N 1) q1 a0 u0 u1 u2 u3 u4 u5 u6 u7 u8 u9).trans hc
    | s1 u0 u1 u2 u3 u4 u5 u6 u7 u8 u9 u10 => exact (body3_1 N (orc T (G N) live [] N 2) (orc T (G N) live [] N 1) q1 a0 u0 u1 u2 u3 u4 u5 u6 u7 u8 u9 u10).trans hc) N a)
theorem G_ok (N : Nat) : GamOK Try.prog (G N) := gam_ok (l := [(142, [], spec_l00Src_size_.sp N), (141, [], spec_l00Src_next_.sp N), (110, [], spec_l07Size.sp N), (121, [], spec_l00Src_mapKey.sp N), (188, [], spec_l00Src_datum.sp N), (109, [], spec_l07Put.sp N), (189, [], spec_l00Src_chance.sp N), (98, [], spec_l07Own.sp N), (190, [], spec_l00Digits.sp N)]) (⟨spec_l00Src_size_.snd N, spec_l00Src_next_.snd N, spec_l07Size.snd N, spec_l00Src_mapKey.snd N, spec_l00Src_datum.snd N, spec_l07Put.snd N, spec_l00Src_chance.snd N, spec_l07Own.snd N, spec_l00Digits.snd N, trivial⟩)
theorem snd (N : Nat) : Sound Try.prog E 125 (sp N) :=
  Mir.sound T_OK (G_ok N) mixed Try.func125 (c := code) (by kernel_rfl) (by kernel_rfl) (sp N) (Nat.le_of_ble_eq_true (by kernel_rfl)) live [] (by
    rintro ⟨a0, _⟩ r h
    exact ⟨N, 2, ((run N _ a0).trans (congrArg (m0 N a0) (funext fun a => lp3_eq N a0 a))).trans h⟩)
end spec_l00Src_branch
namespace spec_MapOf
noncomputable def code : Code := Try.f62.body.getD .skip
abbrev live : Live := []
noncomputable def G (N : Nat) : Ctx E := gam [(72, [], spec_l00Source.sp N), (125, [], spec_l00Src_branch.sp N)]
noncomputable def m0 (N : Nat) (a0 : List Int) : Option R :=
  ob (spec_l00Source.m N a0) fun y1 =>
  ob (spec_l00Src_branch.m N (l00Src.mk y1.code y1.«at» y1.seed)) fun y2 =>
  some (Branch.mk y2.1.Key y2.1.Value y2.1.At y2.1.Kids)
theorem run (N : Nat) (o0 : Orc E R) (a0 : List Int) : runF T (G N) live [] Try.f62 code (sp N) o0 (a0, ()) = m0 N a0 := by kernel_rfl
theorem G_ok (N : Nat) : GamOK Try.prog (G N) := gam_ok (l := [(72, [], spec_l00Source.sp N), (125, [], spec_l00Src_branch.sp N)]) (⟨spec_l00Source.snd N, spec_l00Src_branch.snd N, trivial⟩)
theorem snd (N : Nat) : Sound Try.prog E 62 (sp N) :=
  Mir.sound T_OK (G_ok N) mixed Try.func62 (c := code) (by kernel_rfl) (by kernel_rfl) (sp N) (Nat.le_of_ble_eq_true (by kernel_rfl)) live [] (by
    rintro ⟨a0, _⟩ r h
    exact ⟨N, 2, ((run N _ a0).trans rfl).trans h⟩)
end spec_MapOf
namespace spec_MapPut
noncomputable def code : Code := Try.f48.body.getD .skip
abbrev live : Live := []
noncomputable def G (N : Nat) : Ctx E := gam [(95, [], spec_MapOK.sp N), (96, [], spec_l02Key.sp N), (109, [], spec_l07Put.sp N), (110, [], spec_l07Size.sp N), (98, [], spec_l07Own.sp N)]
noncomputable def m0 (N : Nat) (a0 : Branch) (a1 : ByteArray) (a2 : ByteArray) : Option R :=
  bif (decide ((a1.size : Int) > (65536:Int))) then
    some ((Branch.mk ByteArray.empty ByteArray.empty (0:Int) ([] : List Branch)), (2:Int))
  else
  bif (bif false then true else (decide ((a2.size : Int) > (65536:Int)))) then
    some ((Branch.mk ByteArray.empty ByteArray.empty (0:Int) ([] : List Branch)), (2:Int))
  else
  ob (spec_MapOK.m N (Branch.mk a0.Key a0.Value a0.At a0.Kids)) fun y1 =>
  bif (!y1) then
    some ((Branch.mk ByteArray.empty ByteArray.empty (0:Int) ([] : List Branch)), (1:Int))
  else
  ob (spec_l02Key.m N a1) fun y2 =>
  bif (bif false then true else (!y2)) then
    some ((Branch.mk ByteArray.empty ByteArray.empty (0:Int) ([] : List Branch)), (1:Int))
  else
  bif (bif false then true else (decide ((a2.size : Int) > (60:Int)))) then
    some ((Branch.mk ByteArray.empty ByteArray.empty (0:Int) ([] : List Branch)), (1:Int))
  else
  ob (spec_l07Put.m N (Branch.mk a0.Key a0.Value a0.At a0.Kids) a1 a2) fun y3 =>
  ob (spec_l07Size.m N (Branch.mk y3.Key y3.Value y3.At y3.Kids)) fun y4 =>
  bif (decide (y4 > (40:Int))) then
    some ((Branch.mk ByteArray.empty ByteArray.empty (0:Int) ([] : List Branch)), (7:Int))
  else
  ob (spec_l07Own.m N (Branch.mk y3.Key y3.Value y3.At y3.Kids)) fun y5 =>
  some ((Branch.mk y5.Key y5.Value y5.At y5.Kids), (0:Int))
theorem run (N : Nat) (o0 : Orc E R) (a0 : Branch) (a1 : ByteArray) (a2 : ByteArray) : runF T (G N) live [] Try.f48 code (sp N) o0 (a0, a1, a2, ()) = m0 N a0 a1 a2 := by kernel_rfl
theorem G_ok (N : Nat) : GamOK Try.prog (G N) := gam_ok (l := [(95, [], spec_MapOK.sp N), (96, [], spec_l02Key.sp N), (109, [], spec_l07Put.sp N), (110, [], spec_l07Size.sp N), (98, [], spec_l07Own.sp N)]) (⟨spec_MapOK.snd N, spec_l02Key.snd N, spec_l07Put.snd N, spec_l07Size.snd N, spec_l07Own.snd N, trivial⟩)
theorem snd (N : Nat) : Sound Try.prog E 48 (sp N) :=
  Mir.sound T_OK (G_ok N) mixed Try.func48 (c := code) (by kernel_rfl) (by kernel_rfl) (sp N) (Nat.le_of_ble_eq_true (by kernel_rfl)) live [] (by
    rintro ⟨a0, a1, a2, _⟩ r h
    exact ⟨N, 2, ((run N _ a0 a1 a2).trans rfl).trans h⟩)
end spec_MapPut
namespace slices_Delete_impl_pairOf
theorem snd (N : Nat) : Sound Try.prog E 105 (sp N) :=
  delete_sound (E := E) (ty := (.st 146)) (fun args W => run_callFunc_go Try.func105 (c := Try.f105.body.getD .skip) (by kernel_rfl) (by kernel_rfl) args W) Try.underlying139 (i := Try.t146) (by kernel_rfl) (z := Try.t146.zero.getD undef) (by kernel_rfl) (by kernel_rfl) (by kernel_rfl) (fun v hv => List.all_eq_true.1 (show (Try.t146.zero.getD undef).cells.toList.all Value.oneCell' = true by kernel_rfl) v hv) Go.Proofs.DelW105.del
end slices_Delete_impl_pairOf
namespace impl_MapDrop
noncomputable def code : Code := Try.f44.body.getD .skip
abbrev live : Live := []
noncomputable def G (N : Nat) : Ctx E := gam [(102, [], impl_mapCode.sp N), (103, [], impl_pairAt.sp N), (105, [], slices_Delete_impl_pairOf.sp N), (104, [], impl_mapOf.sp N)]
noncomputable def m0 (N : Nat) (a0 : Branch) (a1 : ByteArray) : Option R :=
  ob (impl_mapCode.m N (Branch.mk a0.Key a0.Value a0.At a0.Kids) a1) fun y1 =>
  bif (y1.2 != (0:Int)) then
    some ((Branch.mk ByteArray.empty ByteArray.empty (0:Int) ([] : List Branch)), y1.2)
  else
  ob (impl_pairAt.m N y1.1 a1) fun y2 =>
  bif (!y2.2) then
    some ((Branch.mk ByteArray.empty ByteArray.empty (0:Int) ([] : List Branch)), (5:Int))
  else
  ob (slices_Delete_impl_pairOf.m N y1.1 y2.1 (w64 (y2.1 + (1:Int)))) fun y3 =>
  ob (impl_mapOf.m N y3 (0:Int)) fun y4 =>
  some ((Branch.mk y4.Key y4.Value y4.At y4.Kids), (0:Int))
theorem run (N : Nat) (o0 : Orc E R) (a0 : Branch) (a1 : ByteArray) : runF T (G N) live [] Try.f44 code (sp N) o0 (a0, a1, ()) = m0 N a0 a1 := by kernel_rfl
theorem G_ok (N : Nat) : GamOK Try.prog (G N) := gam_ok (l := [(102, [], impl_mapCode.sp N), (103, [], impl_pairAt.sp N), (105, [], slices_Delete_impl_pairOf.sp N), (104, [], impl_mapOf.sp N)]) (⟨impl_mapCode.snd N, impl_pairAt.snd N, slices_Delete_impl_pairOf.snd N, impl_mapOf.snd N, trivial⟩)
theorem snd (N : Nat) : Sound Try.prog E 44 (sp N) :=
  Mir.sound T_OK (G_ok N) mixed Try.func44 (c := code) (by kernel_rfl) (by kernel_rfl) (sp N) (Nat.le_of_ble_eq_true (by kernel_rfl)) live [] (by
    rintro ⟨a0, a1, _⟩ r h
    exact ⟨N, 2, ((run N _ a0 a1).trans rfl).trans h⟩)
end impl_MapDrop
namespace laws_FnMapDrops
noncomputable def code : Code := Try.f10.body.getD .skip
abbrev live : Live := []
noncomputable def G (N : Nat) : Ctx E := gam [(62, [], spec_MapOf.sp N), (55, [], spec_MapKeyOf.sp N), (60, [], impl_MapGet.sp N), (57, [], impl_MapRoot.sp N), (49, [], impl_MapPut.sp N), (48, [], spec_MapPut.sp N), (44, [], impl_MapDrop.sp N), (56, [], impl_MapOK.sp N)]
noncomputable def m0 (N : Nat) (a0 : List Int) (a1 : List Int) : Option R :=
  bif (decide ((a0.length : Int) > (1048576:Int))) then
    some true
  else
  bif (bif false then true else (decide ((a1.length : Int) > (1048576:Int)))) then
    some true
  else
  ob (spec_MapOf.m N a0) fun y1 =>
  ob (spec_MapKeyOf.m N a1) fun y2 =>
  ob (impl_MapGet.m N (Branch.mk y1.Key y1.Value y1.At y1.Kids) y2) fun y3 =>
  ob (impl_MapRoot.m N (Branch.mk y1.Key y1.Value y1.At y1.Kids)) fun y4 =>
  ob (impl_MapPut.m N (Branch.mk y1.Key y1.Value y1.At y1.Kids) y2 (⟨#[110, 101, 119]⟩ : ByteArray)) fun y5 =>
  ob (spec_MapPut.m N (Branch.mk y1.Key y1.Value y1.At y1.Kids) y2 (⟨#[110, 101, 119]⟩ : ByteArray)) fun y6 =>
  bif (y4.2 != (0:Int)) then
    some false
  else
  bif (bif false then true else (y5.2 != y6.2)) then
    some false
  else
  bif (y5.2 != (0:Int)) then
    some (y5.2 == (7:Int))
  else
  ob (impl_MapDrop.m N (Branch.mk y5.1.Key y5.1.Value y5.1.At y5.1.Kids) y2) fun y7 =>
  ob (impl_MapRoot.m N (Branch.mk y7.1.Key y7.1.Value y7.1.At y7.1.Kids)) fun y8 =>
  ob (impl_MapDrop.m N (Branch.mk y7.1.Key y7.1.Value y7.1.At y7.1.Kids) y2) fun y9 =>
  bif (y7.2 == (0:Int)) then
    bif (bif true then (y8.2 == (0:Int)) else false) then
      bif (bif true then (y9.2 == (5:Int)) else false) then
        ob (impl_MapOK.m N (Branch.mk y7.1.Key y7.1.Value y7.1.At y7.1.Kids)) fun y10 =>
        bif (bif true then y10 else false) then
          bif (y3.2 == (0:Int)) then
            some (bif true then true else false)
          else
          some (bif true then (bif false then true else (seq y8.1 y4.1)) else false)
        else
        some false
      else
      some false
    else
    some false
  else
  some false
theorem run (N : Nat) (o0 : Orc E R) (a0 : List Int) (a1 : List Int) : runF T (G N) live [] Try.f10 code (sp N) o0 (a0, a1, ()) = m0 N a0 a1 := by kernel_rfl
theorem G_ok (N : Nat) : GamOK Try.prog (G N) := gam_ok (l := [(62, [], spec_MapOf.sp N), (55, [], spec_MapKeyOf.sp N), (60, [], impl_MapGet.sp N), (57, [], impl_MapRoot.sp N), (49, [], impl_MapPut.sp N), (48, [], spec_MapPut.sp N), (44, [], impl_MapDrop.sp N), (56, [], impl_MapOK.sp N)]) (⟨spec_MapOf.snd N, spec_MapKeyOf.snd N, impl_MapGet.snd N, impl_MapRoot.snd N, impl_MapPut.snd N, spec_MapPut.snd N, impl_MapDrop.snd N, impl_MapOK.snd N, trivial⟩)
theorem snd (N : Nat) : Sound Try.prog E 10 (sp N) :=
  Mir.sound T_OK (G_ok N) mixed Try.func10 (c := code) (by kernel_rfl) (by kernel_rfl) (sp N) (Nat.le_of_ble_eq_true (by kernel_rfl)) live [] (by
    rintro ⟨a0, a1, _⟩ r h
    exact ⟨N, 2, ((run N _ a0 a1).trans rfl).trans h⟩)
end laws_FnMapDrops
end Mir.Y
