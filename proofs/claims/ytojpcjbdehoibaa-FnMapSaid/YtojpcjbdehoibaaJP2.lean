/- The models are what the functions do. -/
import Derived.Test.YtojpcjbdehoibaaJP1
import Derived.Test.YtojpcjbdehoibaaJCmpLays
import Derived.Test.YtojpcjbdehoibaaJIns176
namespace Mir.Y
set_option linter.unusedVariables false
set_option maxRecDepth 10000
open Go Go.Proofs Mir
namespace impl_mapPairs
noncomputable def code : Code := Try.f122.body.getD .skip
abbrev live : Live := []
noncomputable def G (N : Nat) : Ctx E := gam [(115, [], impl_Branch_isEmpty.sp N), (185, [], impl_Branch_pairs.sp N)]
noncomputable def m0 (N : Nat) (a0 : Branch) : Option R :=
  ob (impl_Branch_isEmpty.m N (Branch.mk a0.Key a0.Value a0.At a0.Kids)) fun y1 =>
  bif y1 then
    some (([] : List pairOf), true)
  else
  ob (impl_Branch_pairs.m N (Branch.mk a0.Key a0.Value a0.At a0.Kids) (-1:Int) (40:Int)) fun y2 =>
  some (y2.1, y2.2.1)
theorem run (N : Nat) (o0 : Orc E R) (a0 : Branch) : runF T (G N) live [] Try.f122 code (sp N) o0 (a0, ()) = m0 N a0 := by kernel_rfl
theorem G_ok (N : Nat) : GamOK Try.prog (G N) := gam_ok (l := [(115, [], impl_Branch_isEmpty.sp N), (185, [], impl_Branch_pairs.sp N)]) (⟨impl_Branch_isEmpty.snd N, impl_Branch_pairs.snd N, trivial⟩)
theorem snd (N : Nat) : Sound Try.prog E 122 (sp N) :=
  Mir.sound T_OK (G_ok N) mixed Try.func122 (c := code) (by kernel_rfl) (by kernel_rfl) (sp N) (Nat.le_of_ble_eq_true (by kernel_rfl)) live [] (by
    rintro ⟨a0, _⟩ r h
    exact ⟨N, 2, ((run N _ a0).trans rfl).trans h⟩)
end impl_mapPairs
namespace impl_mapCode
noncomputable def code : Code := Try.f102.body.getD .skip
abbrev live : Live := []
noncomputable def G (N : Nat) : Ctx E := gam [(83, [], impl_isText.sp N), (122, [], impl_mapPairs.sp N), (124, [], impl_isKey.sp N)]
noncomputable def m0 (N : Nat) (a0 : Branch) (a1 : ByteArray) : Option R :=
  ob (impl_isText.m N ([a1])) fun y1 =>
  bif (!y1) then
    some (([] : List pairOf), (2:Int))
  else
  ob (impl_mapPairs.m N (Branch.mk a0.Key a0.Value a0.At a0.Kids)) fun y2 =>
  bif (!y2.2) then
    some (([] : List pairOf), (1:Int))
  else
  ob (impl_isKey.m N a1) fun y3 =>
  bif (bif false then true else (!y3)) then
    some (([] : List pairOf), (1:Int))
  else
  some (y2.1, (0:Int))
theorem run (N : Nat) (o0 : Orc E R) (a0 : Branch) (a1 : ByteArray) : runF T (G N) live [] Try.f102 code (sp N) o0 (a0, a1, ()) = m0 N a0 a1 := by kernel_rfl
theorem G_ok (N : Nat) : GamOK Try.prog (G N) := gam_ok (l := [(83, [], impl_isText.sp N), (122, [], impl_mapPairs.sp N), (124, [], impl_isKey.sp N)]) (⟨impl_isText.snd N, impl_mapPairs.snd N, impl_isKey.snd N, trivial⟩)
theorem snd (N : Nat) : Sound Try.prog E 102 (sp N) :=
  Mir.sound T_OK (G_ok N) mixed Try.func102 (c := code) (by kernel_rfl) (by kernel_rfl) (sp N) (Nat.le_of_ble_eq_true (by kernel_rfl)) live [] (by
    rintro ⟨a0, a1, _⟩ r h
    exact ⟨N, 2, ((run N _ a0 a1).trans rfl).trans h⟩)
end impl_mapCode
namespace slices_Clone_impl_pairOf_impl_pairOf
noncomputable def code : Code := Try.f175.body.getD .skip
abbrev live : Live := []
noncomputable def G (N : Nat) : Ctx E := gam []
noncomputable def m0 (N : Nat) (a0 : List pairOf) : Option R :=
  amb (a0.isEmpty) true
    (some ([] : List pairOf))
    (bif (room (([] : List pairOf).length + a0.length) 48) then
    some (([] : List pairOf) ++ a0)
    else none)
theorem run (N : Nat) (o0 : Orc E R) (a0 : List pairOf) : runF T (G N) live [] Try.f175 code (sp N) o0 (a0, ()) = m0 N a0 := by kernel_rfl
theorem G_ok (N : Nat) : GamOK Try.prog (G N) := gam_ok (l := []) (trivial)
theorem snd (N : Nat) : Sound Try.prog E 175 (sp N) :=
  Mir.sound T_OK (G_ok N) mixed Try.func175 (c := code) (by kernel_rfl) (by kernel_rfl) (sp N) (Nat.le_of_ble_eq_true (by kernel_rfl)) live [] (by
    rintro ⟨a0, _⟩ r h
    exact ⟨N, 2, ((run N _ a0).trans rfl).trans h⟩)
end slices_Clone_impl_pairOf_impl_pairOf
namespace strings_Compare
theorem str_of {W : World} {F : Nat → Prop} {s : ByteArray} {v : Value} (h : RoV E W F .str s v) : v = .string s := by
  obtain ⟨d, h⟩ := h; cases d <;> exact h
theorem snd (N : Nat) : Sound Try.prog E 157 (sp N) := by
  refine ⟨fun args W => run_callFunc_go Try.func157 (c := Try.f157.body.getD .skip) (by kernel_rfl) (by kernel_rfl) args W, ?_⟩
  rintro W F ⟨a0, a1, _⟩ r args fp hfn ⟨v, vs, f1, f2, rfl, rfl, ⟨h0, rfl⟩, ⟨w, ws, g1, g2, rfl, rfl, ⟨h1, rfl⟩, ⟨rfl, rfl⟩⟩⟩ _ _ hF
  obtain rfl := str_of h0
  obtain rfl := str_of h1
  cases hfn
  have hcall := Go.Proofs.Any.strings_Compare Try.cmpLays a0 a1 W
  refine (show Calls Try.prog 157 #[.string a0, .string a1] W _ from hcall).mono ?_
  rintro e W' ⟨rfl, rfl⟩
  exact ⟨_, rfl, ⟨F, [.int .i64 (Go.Lib.compareBytes a0.data.toList a1.data.toList)], [], [], rfl, fun b h => h, fun b h => ⟨.inl h, hF b h⟩, ⟨_, [], [], [], rfl, rfl, ⟨rfl, rfl⟩, ⟨rfl, rfl⟩⟩, ⟨_, _, [], [], rfl, rfl, rfl, ⟨_, _, [], [], rfl, rfl, rfl, ⟨rfl, rfl⟩⟩⟩, List.nodup_nil, fun b h => by cases h⟩, rfl, rfl, rfl, Nat.le_refl _, fun b h _ => rfl⟩
end strings_Compare
namespace impl_pairAt_1
noncomputable def code : Code := Try.f168.body.getD .skip
abbrev live : Live := []
noncomputable def G (N : Nat) : Ctx E := gam [(157, [], strings_Compare.sp N)]
noncomputable def m0 (N : Nat) (a0 : pairOf) (a1 : ByteArray) : Option R :=
  ob (strings_Compare.m N a0.hash a1) fun y1 =>
  some y1
theorem run (N : Nat) (o0 : Orc E R) (a0 : pairOf) (a1 : ByteArray) : runF T (G N) live [] Try.f168 code (sp N) o0 (a0, a1, ()) = m0 N a0 a1 := by kernel_rfl
theorem G_ok (N : Nat) : GamOK Try.prog (G N) := gam_ok (l := [(157, [], strings_Compare.sp N)]) (⟨strings_Compare.snd N, trivial⟩)
theorem snd (N : Nat) : Sound Try.prog E 168 (sp N) :=
  Mir.sound T_OK (G_ok N) mixed Try.func168 (c := code) (by kernel_rfl) (by kernel_rfl) (sp N) (Nat.le_of_ble_eq_true (by kernel_rfl)) live [] (by
    rintro ⟨a0, a1, _⟩ r h
    exact ⟨N, 2, ((run N _ a0 a1).trans rfl).trans h⟩)
end impl_pairAt_1
namespace slices_BinarySearchFunc_impl_pairOf_impl_pairOf_string__impl_pairAt_1
noncomputable def code : Code := Try.f167.body.getD .skip
abbrev live : Live := [(3, [0, 1, 2, 8, 9, 10])]
noncomputable def G (N : Nat) : Ctx E := gam [(168, [], impl_pairAt_1.sp N)]
noncomputable def loop3 : Code := codeAt code [1, 1, 1, 0, 0]
noncomputable def body3 : Code := codeAt loop3 [0]
noncomputable def K3 (N : Nat) (o0 : Orc E R) : KT E R := kAt T (G N) live [] o0 code [1, 1, 1, 0, 0] (kfin T Try.f167 (sp N))
noncomputable def St3 (a0 : List pairOf) (a1 : ByteArray) : (Int × Int × Int) → St E
  | (v2, v3, v4) => { ρ := [(0, .c (.at (.ro 146 (.st 146) a0))), (1, .c (.at (.str a1))), (2, .clo 168 []), (8, .c (.at (.int .i64 v2))), (9, .c (.at (.int .i64 v3))), (10, .c (.at (.int .i64 v4)))], H := [], nx := 0, n := 49, pin := [] }
noncomputable def m0 (N : Nat) (a0 : List pairOf) (a1 : ByteArray) (lp3 : Int × Int × Int → Option R) : Option R :=
  lp3 ((a0.length : Int), (0:Int), (a0.length : Int))
theorem run (N : Nat) (o0 : Orc E R) (a0 : List pairOf) (a1 : ByteArray) : runF T (G N) live [] Try.f167 code (sp N) o0 (a0, a1, (), ()) = m0 N a0 a1 (fun a => o0 loop3 (K3 N o0) (St3 a0 a1 a)) := by kernel_rfl
theorem body3_0 (N : Nat) (o0 : Orc E R) (o1 : Orc E R) (q1 : St E → Option R) (a0 : List pairOf) (a1 : ByteArray) (v2 : Int) (v3 : Int) (v4 : Int) : runA T (G N) live [] o1 body3 (St3 a0 a1 (v2, v3, v4)) (kloop [0, 1, 2, 8, 9, 10] q1 (K3 N o0)) = step3 N a0 a1 (fun a => q1 (St3 a0 a1 a)) (v2, v3, v4) := by kernel_rfl
theorem lp3_eq (N : Nat) (a0 : List pairOf) (a1 : ByteArray) (a : Int × Int × Int) : (orc T (G N) live [] N 2) loop3 (K3 N (orc T (G N) live [] N 2)) (St3 a0 a1 a) = lp3 N a0 a1 a :=
  (orc_loop (b := body3) (live := [0, 1, 2, 8, 9, 10]) (by kernel_rfl)).trans (iter_eq (St3 a0 a1) _ _ (fun q1 a => by
    have hc := congrFun (congrFun (rfl : (step3 N a0 a1) = (step3 N a0 a1)) (fun a => q1 (St3 a0 a1 a))) a
    obtain ⟨u0, u1, u2⟩ := a
    exact (body3_0 N (orc T (G N) live [] N 2) (orc T (G N) live [] N 1) q1 a0 a1 u0 u1 u2).trans hc) N a)
theorem G_ok (N : Nat) : GamOK Try.prog (G N) := gam_ok (l := [(168, [], impl_pairAt_1.sp N)]) (⟨impl_pairAt_1.snd N, trivial⟩)
theorem snd (N : Nat) : Sound Try.prog E 167 (sp N) :=
  Mir.sound T_OK (G_ok N) mixed Try.func167 (c := code) (by kernel_rfl) (by kernel_rfl) (sp N) (Nat.le_of_ble_eq_true (by kernel_rfl)) live [] (by
    rintro ⟨a0, a1, _, _⟩ r h
    exact ⟨N, 2, ((run N _ a0 a1).trans (congrArg (m0 N a0 a1) (funext fun a => lp3_eq N a0 a1 a))).trans h⟩)
end slices_BinarySearchFunc_impl_pairOf_impl_pairOf_string__impl_pairAt_1
namespace impl_pairAt
noncomputable def code : Code := Try.f103.body.getD .skip
abbrev live : Live := []
noncomputable def G (N : Nat) : Ctx E := gam [(114, [], impl_hash.sp N), (167, [168], slices_BinarySearchFunc_impl_pairOf_impl_pairOf_string__impl_pairAt_1.sp N)]
noncomputable def m0 (N : Nat) (a0 : List pairOf) (a1 : ByteArray) : Option R :=
  ob (impl_hash.m N a1) fun y1 =>
  ob (slices_BinarySearchFunc_impl_pairOf_impl_pairOf_string__impl_pairAt_1.m N a0 y1) fun y2 =>
  some (y2.1, y2.2)
theorem run (N : Nat) (o0 : Orc E R) (a0 : List pairOf) (a1 : ByteArray) : runF T (G N) live [] Try.f103 code (sp N) o0 (a0, a1, ()) = m0 N a0 a1 := by kernel_rfl
theorem G_ok (N : Nat) : GamOK Try.prog (G N) := gam_ok (l := [(114, [], impl_hash.sp N), (167, [168], slices_BinarySearchFunc_impl_pairOf_impl_pairOf_string__impl_pairAt_1.sp N)]) (⟨impl_hash.snd N, slices_BinarySearchFunc_impl_pairOf_impl_pairOf_string__impl_pairAt_1.snd N, trivial⟩)
theorem snd (N : Nat) : Sound Try.prog E 103 (sp N) :=
  Mir.sound T_OK (G_ok N) mixed Try.func103 (c := code) (by kernel_rfl) (by kernel_rfl) (sp N) (Nat.le_of_ble_eq_true (by kernel_rfl)) live [] (by
    rintro ⟨a0, a1, _⟩ r h
    exact ⟨N, 2, ((run N _ a0 a1).trans rfl).trans h⟩)
end impl_pairAt
namespace slices_Insert_impl_pairOf
theorem snd (N : Nat) : Sound Try.prog E 176 (sp N) :=
  insert_sound (E := E) (ty := (.st 146)) rfl (fun args W => run_callFunc_go Try.func176 (c := Try.f176.body.getD .skip) (by kernel_rfl) (by kernel_rfl) args W) Try.underlying139 (i := Try.t146) (by kernel_rfl) (z := Try.t146.zero.getD undef) (by kernel_rfl) (by kernel_rfl) (by kernel_rfl) (Nat.le_of_ble_eq_true (by kernel_rfl)) Go.Proofs.InsW176.ov Go.Proofs.InsW176.at_end Go.Proofs.InsW176.grow (by kernel_rfl) Go.Proofs.InsW176.shift
end slices_Insert_impl_pairOf
namespace impl_mapPut
noncomputable def code : Code := Try.f112.body.getD .skip
abbrev live : Live := []
noncomputable def G (N : Nat) : Ctx E := gam [(175, [], slices_Clone_impl_pairOf_impl_pairOf.sp N), (114, [], impl_hash.sp N), (103, [], impl_pairAt.sp N), (176, [], slices_Insert_impl_pairOf.sp N)]
noncomputable def m0 (N : Nat) (a0 : List pairOf) (a1 : ByteArray) (a2 : ByteArray) : Option R :=
  ob (slices_Clone_impl_pairOf_impl_pairOf.m N a0) fun y1 =>
  ob (impl_hash.m N a1) fun y2 =>
  ob (impl_pairAt.m N y1 a1) fun y3 =>
  bif y3.2 then
    bif (decide (0 ≤ y3.1)) then
    bif (decide (y3.1 < (y1.length : Int))) then
    some ((y1.set (Int.toNat y3.1) (pairOf.mk a1 a2 y2)), (0:Int))
    else none
    else none
  else
  bif ((y1.length : Int) == (40:Int)) then
    some (([] : List pairOf), (7:Int))
  else
  ob (slices_Insert_impl_pairOf.m N y1 y3.1 ([(pairOf.mk a1 a2 y2)])) fun y4 =>
  some (y4, (0:Int))
theorem run (N : Nat) (o0 : Orc E R) (a0 : List pairOf) (a1 : ByteArray) (a2 : ByteArray) : runF T (G N) live [] Try.f112 code (sp N) o0 (a0, a1, a2, ()) = m0 N a0 a1 a2 := by kernel_rfl
theorem G_ok (N : Nat) : GamOK Try.prog (G N) := gam_ok (l := [(175, [], slices_Clone_impl_pairOf_impl_pairOf.sp N), (114, [], impl_hash.sp N), (103, [], impl_pairAt.sp N), (176, [], slices_Insert_impl_pairOf.sp N)]) (⟨slices_Clone_impl_pairOf_impl_pairOf.snd N, impl_hash.snd N, impl_pairAt.snd N, slices_Insert_impl_pairOf.snd N, trivial⟩)
theorem snd (N : Nat) : Sound Try.prog E 112 (sp N) :=
  Mir.sound T_OK (G_ok N) mixed Try.func112 (c := code) (by kernel_rfl) (by kernel_rfl) (sp N) (Nat.le_of_ble_eq_true (by kernel_rfl)) live [] (by
    rintro ⟨a0, a1, a2, _⟩ r h
    exact ⟨N, 2, ((run N _ a0 a1 a2).trans rfl).trans h⟩)
end impl_mapPut
namespace impl_mapOf_1
noncomputable def code : Code := Try.f170.body.getD .skip
abbrev live : Live := []
noncomputable def G (N : Nat) : Ctx E := gam [(116, [], impl_bit.sp N)]
noncomputable def m0 (N : Nat) (a0 : pairOf) (a1 : Int) : Option R :=
  ob (impl_bit.m N a0.hash a1) fun y1 =>
  some (y1 == (1:Int))
theorem run (N : Nat) (o0 : Orc E R) (a0 : pairOf) (a1 : Int) : runF T (G N) live [] Try.f170 code (sp N) o0 (a0, a1, ()) = m0 N a0 a1 := by kernel_rfl
theorem G_ok (N : Nat) : GamOK Try.prog (G N) := gam_ok (l := [(116, [], impl_bit.sp N)]) (⟨impl_bit.snd N, trivial⟩)
theorem snd (N : Nat) : Sound Try.prog E 170 (sp N) :=
  Mir.sound T_OK (G_ok N) mixed Try.func170 (c := code) (by kernel_rfl) (by kernel_rfl) (sp N) (Nat.le_of_ble_eq_true (by kernel_rfl)) live [] (by
    rintro ⟨a0, a1, _⟩ r h
    exact ⟨N, 2, ((run N _ a0 a1).trans rfl).trans h⟩)
end impl_mapOf_1
namespace slices_IndexFunc_impl_pairOf_impl_pairOf__impl_mapOf_1
noncomputable def code : Code := Try.f169.body.getD .skip
abbrev live : Live := [(2, [0, 1, 7, 8])]
noncomputable def G (N : Nat) : Ctx E := gam [(170, [], impl_mapOf_1.sp N)]
noncomputable def loop2 : Code := codeAt code [1, 0, 1, 0]
noncomputable def body2 : Code := codeAt loop2 [0]
noncomputable def K2 (N : Nat) (o0 : Orc E R) : KT E R := kAt T (G N) live [] o0 code [1, 0, 1, 0] (kfin T Try.f169 (sp N))
noncomputable def St2 (a0 : List pairOf) (a1_0 : Int) : (Int × Int) → St E
  | (v1, v2) => { ρ := [(0, .c (.at (.ro 146 (.st 146) a0))), (1, .clo 170 [.at (.ptr 0 0)]), (7, .c (.at (.int .i64 v1))), (8, .c (.at (.int .i64 v2)))], H := [(0, .rbx [.int .i64 a1_0])], nx := 1, n := 19, pin := [] }
noncomputable def m0 (N : Nat) (a0 : List pairOf) (a1_0 : Int) (lp2 : Int × Int → Option R) : Option R :=
  lp2 ((a0.length : Int), (0:Int))
theorem run (N : Nat) (o0 : Orc E R) (a0 : List pairOf) (a1_0 : Int) : runF T (G N) live [] Try.f169 code (sp N) o0 (a0, (a1_0, ()), ()) = m0 N a0 a1_0 (fun a => o0 loop2 (K2 N o0) (St2 a0 a1_0 a)) := by kernel_rfl
theorem body2_0 (N : Nat) (o0 : Orc E R) (o1 : Orc E R) (q1 : St E → Option R) (a0 : List pairOf) (a1_0 : Int) (v1 : Int) (v2 : Int) : runA T (G N) live [] o1 body2 (St2 a0 a1_0 (v1, v2)) (kloop [0, 1, 7, 8] q1 (K2 N o0)) = step2 N a0 a1_0 (fun a => q1 (St2 a0 a1_0 a)) (v1, v2) := by kernel_rfl
theorem lp2_eq (N : Nat) (a0 : List pairOf) (a1_0 : Int) (a : Int × Int) : (orc T (G N) live [] N 2) loop2 (K2 N (orc T (G N) live [] N 2)) (St2 a0 a1_0 a) = lp2 N a0 a1_0 a :=
  (orc_loop (b := body2) (live := [0, 1, 7, 8]) (by kernel_rfl)).trans (iter_eq (St2 a0 a1_0) _ _ (fun q1 a => by
    have hc := congrFun (congrFun (rfl : (step2 N a0 a1_0) = (step2 N a0 a1_0)) (fun a => q1 (St2 a0 a1_0 a))) a
    obtain ⟨u0, u1⟩ := a
    exact (body2_0 N (orc T (G N) live [] N 2) (orc T (G N) live [] N 1) q1 a0 a1_0 u0 u1).trans hc) N a)
theorem G_ok (N : Nat) : GamOK Try.prog (G N) := gam_ok (l := [(170, [], impl_mapOf_1.sp N)]) (⟨impl_mapOf_1.snd N, trivial⟩)
theorem snd (N : Nat) : Sound Try.prog E 169 (sp N) :=
  Mir.sound T_OK (G_ok N) mixed Try.func169 (c := code) (by kernel_rfl) (by kernel_rfl) (sp N) (Nat.le_of_ble_eq_true (by kernel_rfl)) live [] (by
    rintro ⟨a0, ⟨a1_0, _⟩, _⟩ r h
    exact ⟨N, 2, ((run N _ a0 a1_0).trans (congrArg (m0 N a0 a1_0) (funext fun a => lp2_eq N a0 a1_0 a))).trans h⟩)
end slices_IndexFunc_impl_pairOf_impl_pairOf__impl_mapOf_1
namespace impl_mapOf
noncomputable def code : Code := Try.f104.body.getD .skip
abbrev live : Live := [(6, [0, 3, 4])]
noncomputable def G (N : Nat) (slf : (List pairOf) → Int → Option R) : Ctx E := gam [(116, [], impl_bit.sp N), (169, [170], slices_IndexFunc_impl_pairOf_impl_pairOf__impl_mapOf_1.sp N), (104, [], spf slf)]
noncomputable def loop6 : Code := codeAt code [1, 1, 0, 0]
noncomputable def body6 : Code := codeAt loop6 [0]
noncomputable def K6 (N : Nat) (slf : (List pairOf) → Int → Option R) (o0 : Orc E R) : KT E R := kAt T (G N slf) live [] o0 code [1, 1, 0, 0] (kfin T Try.f104 (spf (mb N slf)))
noncomputable def St6 (slf : (List pairOf) → Int → Option R) (a0 : List pairOf) (a1 : Int) : (Int × ByteArray × ByteArray × Int) → St E
  | (v1, v2, v3, v4) => { ρ := [(0, .c (.at (.ro 146 (.st 146) a0))), (3, .c (.at (.ptr 0 0))), (4, .c (.at (.ptr 1 0)))], H := [(0, .box 3 [.int .i64 v1]), (1, .box 71 [.str v2, .str v3, .int .i64 v4, .nils])], nx := 2, n := 58, pin := [] }
noncomputable def m0 (N : Nat) (slf : (List pairOf) → Int → Option R) (a0 : List pairOf) (a1 : Int) (lp6 : Int × ByteArray × ByteArray × Int → Option R) : Option R :=
  bif ((a0.length : Int) == (0:Int)) then
    some (Branch.mk ByteArray.empty ByteArray.empty (0:Int) ([] : List Branch))
  else
  bif ((a0.length : Int) == (1:Int)) then
    bif (decide (0 ≤ (0:Int))) then
    bif (decide ((0:Int) < (a0.length : Int))) then
    bif (decide (0 ≤ (0:Int))) then
    bif (decide ((0:Int) < (a0.length : Int))) then
    some (Branch.mk ((a0.getD 0 pairOf.dz).key) ((a0.getD 0 pairOf.dz).value) (256:Int) ([] : List Branch))
    else none
    else none
    else none
    else none
  else
  lp6 (a1, ByteArray.empty, ByteArray.empty, (0:Int))
theorem run (N : Nat) (o0 : Orc E R) (slf : (List pairOf) → Int → Option R) (a0 : List pairOf) (a1 : Int) : runF T (G N slf) live [] Try.f104 code (spf (mb N slf)) o0 (a0, a1, ()) = m0 N slf a0 a1 (fun a => o0 loop6 (K6 N slf o0) (St6 slf a0 a1 a)) := by kernel_rfl
theorem body6_0 (N : Nat) (o0 : Orc E R) (o1 : Orc E R) (q1 : St E → Option R) (slf : (List pairOf) → Int → Option R) (a0 : List pairOf) (a1 : Int) (v1 : Int) (v2 : ByteArray) (v3 : ByteArray) (v4 : Int) : runA T (G N slf) live [] o1 body6 (St6 slf a0 a1 (v1, v2, v3, v4)) (kloop [0, 3, 4] q1 (K6 N slf o0)) = step6 N slf a0 a1 (fun a => q1 (St6 slf a0 a1 a)) (v1, v2, v3, v4) := by kernel_rfl
theorem lp6_eq (N : Nat) (slf : (List pairOf) → Int → Option R) (a0 : List pairOf) (a1 : Int) (a : Int × ByteArray × ByteArray × Int) : (orc T (G N slf) live [] N 2) loop6 (K6 N slf (orc T (G N slf) live [] N 2)) (St6 slf a0 a1 a) = lp6 N slf a0 a1 a :=
  (orc_loop (b := body6) (live := [0, 3, 4]) (by kernel_rfl)).trans (iter_eq (St6 slf a0 a1) _ _ (fun q1 a => by
    have hc := congrFun (congrFun (rfl : (step6 N slf a0 a1) = (step6 N slf a0 a1)) (fun a => q1 (St6 slf a0 a1 a))) a
    obtain ⟨u0, u1, u2, u3⟩ := a
    exact (body6_0 N (orc T (G N slf) live [] N 2) (orc T (G N slf) live [] N 1) q1 slf a0 a1 u0 u1 u2 u3).trans hc) N a)
theorem G_ok (N : Nat) (slf : (List pairOf) → Int → Option R) (hs : Sound Try.prog E 104 (spf slf)) : GamOK Try.prog (G N slf) := gam_ok (l := [(116, [], impl_bit.sp N), (169, [170], slices_IndexFunc_impl_pairOf_impl_pairOf__impl_mapOf_1.sp N), (104, [], spf slf)]) (⟨impl_bit.snd N, slices_IndexFunc_impl_pairOf_impl_pairOf__impl_mapOf_1.snd N, hs, trivial⟩)
theorem sndF (N : Nat) : ∀ n, Sound Try.prog E 104 (spf (mF N n))
  | 0 => sound_none Try.func104 (c := code) (by kernel_rfl) (by kernel_rfl) (spf (mF N 0)) (fun _ => rfl)
  | n + 1 => by
    have hr := fun (a0 : List pairOf) (a1 : Int) => (run N (orc T (G N (mF N n)) live [] N 2) (mF N n) a0 a1).trans (congrArg (m0 N (mF N n) a0 a1) (funext fun a => lp6_eq N (mF N n) a0 a1 a))
    exact Mir.sound T_OK (G_ok N (mF N n) (sndF N n)) mixed Try.func104 (c := code) (by kernel_rfl) (by kernel_rfl) (spf (mF N (n + 1))) (Nat.le_of_ble_eq_true (by kernel_rfl)) live [] (by
      rintro ⟨a0, a1, _⟩ r h
      exact ⟨N, 2, (hr a0 a1).trans h⟩)
theorem snd (N : Nat) : Sound Try.prog E 104 (sp N) := sndF N N
end impl_mapOf
namespace impl_MapPut
noncomputable def code : Code := Try.f49.body.getD .skip
abbrev live : Live := []
noncomputable def G (N : Nat) : Ctx E := gam [(83, [], impl_isText.sp N), (102, [], impl_mapCode.sp N), (111, [], impl_isValue.sp N), (112, [], impl_mapPut.sp N), (104, [], impl_mapOf.sp N)]
noncomputable def m0 (N : Nat) (a0 : Branch) (a1 : ByteArray) (a2 : ByteArray) : Option R :=
  ob (impl_isText.m N ([a2])) fun y1 =>
  bif (!y1) then
    some ((Branch.mk ByteArray.empty ByteArray.empty (0:Int) ([] : List Branch)), (2:Int))
  else
  ob (impl_mapCode.m N (Branch.mk a0.Key a0.Value a0.At a0.Kids) a1) fun y2 =>
  bif (y2.2 != (0:Int)) then
    some ((Branch.mk ByteArray.empty ByteArray.empty (0:Int) ([] : List Branch)), y2.2)
  else
  ob (impl_isValue.m N a2) fun y3 =>
  bif (!y3) then
    some ((Branch.mk ByteArray.empty ByteArray.empty (0:Int) ([] : List Branch)), (1:Int))
  else
  ob (impl_mapPut.m N y2.1 a1 a2) fun y4 =>
  ob (impl_mapOf.m N y4.1 (0:Int)) fun y5 =>
  some ((Branch.mk y5.Key y5.Value y5.At y5.Kids), y4.2)
theorem run (N : Nat) (o0 : Orc E R) (a0 : Branch) (a1 : ByteArray) (a2 : ByteArray) : runF T (G N) live [] Try.f49 code (sp N) o0 (a0, a1, a2, ()) = m0 N a0 a1 a2 := by kernel_rfl
theorem G_ok (N : Nat) : GamOK Try.prog (G N) := gam_ok (l := [(83, [], impl_isText.sp N), (102, [], impl_mapCode.sp N), (111, [], impl_isValue.sp N), (112, [], impl_mapPut.sp N), (104, [], impl_mapOf.sp N)]) (⟨impl_isText.snd N, impl_mapCode.snd N, impl_isValue.snd N, impl_mapPut.snd N, impl_mapOf.snd N, trivial⟩)
theorem snd (N : Nat) : Sound Try.prog E 49 (sp N) :=
  Mir.sound T_OK (G_ok N) mixed Try.func49 (c := code) (by kernel_rfl) (by kernel_rfl) (sp N) (Nat.le_of_ble_eq_true (by kernel_rfl)) live [] (by
    rintro ⟨a0, a1, a2, _⟩ r h
    exact ⟨N, 2, ((run N _ a0 a1 a2).trans rfl).trans h⟩)
end impl_MapPut
namespace impl_MapOK
noncomputable def code : Code := Try.f56.body.getD .skip
abbrev live : Live := []
noncomputable def G (N : Nat) : Ctx E := gam [(122, [], impl_mapPairs.sp N)]
noncomputable def m0 (N : Nat) (a0 : Branch) : Option R :=
  ob (impl_mapPairs.m N (Branch.mk a0.Key a0.Value a0.At a0.Kids)) fun y1 =>
  some y1.2
theorem run (N : Nat) (o0 : Orc E R) (a0 : Branch) : runF T (G N) live [] Try.f56 code (sp N) o0 (a0, ()) = m0 N a0 := by kernel_rfl
theorem G_ok (N : Nat) : GamOK Try.prog (G N) := gam_ok (l := [(122, [], impl_mapPairs.sp N)]) (⟨impl_mapPairs.snd N, trivial⟩)
theorem snd (N : Nat) : Sound Try.prog E 56 (sp N) :=
  Mir.sound T_OK (G_ok N) mixed Try.func56 (c := code) (by kernel_rfl) (by kernel_rfl) (sp N) (Nat.le_of_ble_eq_true (by kernel_rfl)) live [] (by
    rintro ⟨a0, _⟩ r h
    exact ⟨N, 2, ((run N _ a0).trans rfl).trans h⟩)
end impl_MapOK
namespace impl_counted
noncomputable def code : Code := Try.f200.body.getD .skip
abbrev live : Live := []
noncomputable def G (N : Nat) : Ctx E := gam [(178, [], impl_number.sp N)]
noncomputable def m0 (N : Nat) (a0 : ByteArray) : Option R :=
  ob (impl_number.m N (a0.size : Int) (1:Int)) fun y1 =>
  bif (decide (y1.size + a0.size ≤ 9223372036854775807)) then
  some (y1 ++ a0)
  else none
theorem run (N : Nat) (o0 : Orc E R) (a0 : ByteArray) : runF T (G N) live [] Try.f200 code (sp N) o0 (a0, ()) = m0 N a0 := by kernel_rfl
theorem G_ok (N : Nat) : GamOK Try.prog (G N) := gam_ok (l := [(178, [], impl_number.sp N)]) (⟨impl_number.snd N, trivial⟩)
theorem snd (N : Nat) : Sound Try.prog E 200 (sp N) :=
  Mir.sound T_OK (G_ok N) mixed Try.func200 (c := code) (by kernel_rfl) (by kernel_rfl) (sp N) (Nat.le_of_ble_eq_true (by kernel_rfl)) live [] (by
    rintro ⟨a0, _⟩ r h
    exact ⟨N, 2, ((run N _ a0).trans rfl).trans h⟩)
end impl_counted
namespace impl_leafRoot
noncomputable def code : Code := Try.f182.body.getD .skip
abbrev live : Live := []
noncomputable def G (N : Nat) : Ctx E := gam [(200, [], impl_counted.sp N), (114, [], impl_hash.sp N)]
noncomputable def m0 (N : Nat) (a0 : ByteArray) (a1 : ByteArray) : Option R :=
  ob (impl_counted.m N a0) fun y1 =>
  bif (decide ((⟨#[0]⟩ : ByteArray).size + y1.size ≤ 9223372036854775807)) then
  bif (decide (((⟨#[0]⟩ : ByteArray) ++ y1).size + a1.size ≤ 9223372036854775807)) then
  ob (impl_hash.m N (((⟨#[0]⟩ : ByteArray) ++ y1) ++ a1)) fun y2 =>
  some y2
  else none
  else none
theorem run (N : Nat) (o0 : Orc E R) (a0 : ByteArray) (a1 : ByteArray) : runF T (G N) live [] Try.f182 code (sp N) o0 (a0, a1, ()) = m0 N a0 a1 := by kernel_rfl
theorem G_ok (N : Nat) : GamOK Try.prog (G N) := gam_ok (l := [(200, [], impl_counted.sp N), (114, [], impl_hash.sp N)]) (⟨impl_counted.snd N, impl_hash.snd N, trivial⟩)
theorem snd (N : Nat) : Sound Try.prog E 182 (sp N) :=
  Mir.sound T_OK (G_ok N) mixed Try.func182 (c := code) (by kernel_rfl) (by kernel_rfl) (sp N) (Nat.le_of_ble_eq_true (by kernel_rfl)) live [] (by
    rintro ⟨a0, a1, _⟩ r h
    exact ⟨N, 2, ((run N _ a0 a1).trans rfl).trans h⟩)
end impl_leafRoot
namespace impl_forkRoot
noncomputable def code : Code := Try.f183.body.getD .skip
abbrev live : Live := []
noncomputable def G (N : Nat) : Ctx E := gam [(178, [], impl_number.sp N), (114, [], impl_hash.sp N)]
noncomputable def m0 (N : Nat) (a0 : Int) (a1 : ByteArray) (a2 : ByteArray) : Option R :=
  ob (impl_number.m N a0 (1:Int)) fun y1 =>
  bif (decide ((⟨#[1]⟩ : ByteArray).size + y1.size ≤ 9223372036854775807)) then
  bif (decide (((⟨#[1]⟩ : ByteArray) ++ y1).size + a1.size ≤ 9223372036854775807)) then
  bif (decide ((((⟨#[1]⟩ : ByteArray) ++ y1) ++ a1).size + a2.size ≤ 9223372036854775807)) then
  ob (impl_hash.m N ((((⟨#[1]⟩ : ByteArray) ++ y1) ++ a1) ++ a2)) fun y2 =>
  some y2
  else none
  else none
  else none
theorem run (N : Nat) (o0 : Orc E R) (a0 : Int) (a1 : ByteArray) (a2 : ByteArray) : runF T (G N) live [] Try.f183 code (sp N) o0 (a0, a1, a2, ()) = m0 N a0 a1 a2 := by kernel_rfl
theorem G_ok (N : Nat) : GamOK Try.prog (G N) := gam_ok (l := [(178, [], impl_number.sp N), (114, [], impl_hash.sp N)]) (⟨impl_number.snd N, impl_hash.snd N, trivial⟩)
theorem snd (N : Nat) : Sound Try.prog E 183 (sp N) :=
  Mir.sound T_OK (G_ok N) mixed Try.func183 (c := code) (by kernel_rfl) (by kernel_rfl) (sp N) (Nat.le_of_ble_eq_true (by kernel_rfl)) live [] (by
    rintro ⟨a0, a1, a2, _⟩ r h
    exact ⟨N, 2, ((run N _ a0 a1 a2).trans rfl).trans h⟩)
end impl_forkRoot
namespace impl_mapRoot
noncomputable def code : Code := Try.f117.body.getD .skip
abbrev live : Live := []
noncomputable def G (N : Nat) (slf : Branch → Option R) : Ctx E := gam [(115, [], impl_Branch_isEmpty.sp N), (114, [], impl_hash.sp N), (182, [], impl_leafRoot.sp N), (117, [], spf slf), (183, [], impl_forkRoot.sp N)]
noncomputable def m0 (N : Nat) (slf : Branch → Option R) (a0 : Branch) : Option R :=
  ob (impl_Branch_isEmpty.m N (Branch.mk a0.Key a0.Value a0.At a0.Kids)) fun y1 =>
  bif y1 then
    ob (impl_hash.m N (⟨#[2]⟩ : ByteArray)) fun y2 =>
    some y2
  else
  bif (a0.At == (256:Int)) then
    ob (impl_leafRoot.m N a0.Key a0.Value) fun y3 =>
    some y3
  else
  bif (decide (0 ≤ (0:Int))) then
  bif (decide ((0:Int) < (a0.Kids.length : Int))) then
  ob (slf (Branch.mk ((a0.Kids.getD 0 Branch.dz).Key) ((a0.Kids.getD 0 Branch.dz).Value) ((a0.Kids.getD 0 Branch.dz).At) ((a0.Kids.getD 0 Branch.dz).Kids))) fun y4 =>
  bif (decide (0 ≤ (1:Int))) then
  bif (decide ((1:Int) < (a0.Kids.length : Int))) then
  ob (slf (Branch.mk ((a0.Kids.getD 1 Branch.dz).Key) ((a0.Kids.getD 1 Branch.dz).Value) ((a0.Kids.getD 1 Branch.dz).At) ((a0.Kids.getD 1 Branch.dz).Kids))) fun y5 =>
  ob (impl_forkRoot.m N a0.At y4 y5) fun y6 =>
  some y6
  else none
  else none
  else none
  else none
theorem run (N : Nat) (o0 : Orc E R) (slf : Branch → Option R) (a0 : Branch) : runF T (G N slf) live [] Try.f117 code (spf (mb N slf)) o0 (a0, ()) = m0 N slf a0 := by kernel_rfl
theorem G_ok (N : Nat) (slf : Branch → Option R) (hs : Sound Try.prog E 117 (spf slf)) : GamOK Try.prog (G N slf) := gam_ok (l := [(115, [], impl_Branch_isEmpty.sp N), (114, [], impl_hash.sp N), (182, [], impl_leafRoot.sp N), (117, [], spf slf), (183, [], impl_forkRoot.sp N)]) (⟨impl_Branch_isEmpty.snd N, impl_hash.snd N, impl_leafRoot.snd N, hs, impl_forkRoot.snd N, trivial⟩)
theorem sndF (N : Nat) : ∀ n, Sound Try.prog E 117 (spf (mF N n))
  | 0 => sound_none Try.func117 (c := code) (by kernel_rfl) (by kernel_rfl) (spf (mF N 0)) (fun _ => rfl)
  | n + 1 => by
    have hr := fun (a0 : Branch) => (run N (orc T (G N (mF N n)) live [] N 2) (mF N n) a0).trans rfl
    exact Mir.sound T_OK (G_ok N (mF N n) (sndF N n)) mixed Try.func117 (c := code) (by kernel_rfl) (by kernel_rfl) (spf (mF N (n + 1))) (Nat.le_of_ble_eq_true (by kernel_rfl)) live [] (by
      rintro ⟨a0, _⟩ r h
      exact ⟨N, 2, (hr a0).trans h⟩)
theorem snd (N : Nat) : Sound Try.prog E 117 (sp N) := sndF N N
end impl_mapRoot
namespace impl_MapRoot
noncomputable def code : Code := Try.f57.body.getD .skip
abbrev live : Live := []
noncomputable def G (N : Nat) : Ctx E := gam [(56, [], impl_MapOK.sp N), (117, [], impl_mapRoot.sp N)]
noncomputable def m0 (N : Nat) (a0 : Branch) : Option R :=
  ob (impl_MapOK.m N (Branch.mk a0.Key a0.Value a0.At a0.Kids)) fun y1 =>
  bif (!y1) then
    some (ByteArray.empty, (1:Int))
  else
  ob (impl_mapRoot.m N (Branch.mk a0.Key a0.Value a0.At a0.Kids)) fun y2 =>
  some (y2, (0:Int))
theorem run (N : Nat) (o0 : Orc E R) (a0 : Branch) : runF T (G N) live [] Try.f57 code (sp N) o0 (a0, ()) = m0 N a0 := by kernel_rfl
theorem G_ok (N : Nat) : GamOK Try.prog (G N) := gam_ok (l := [(56, [], impl_MapOK.sp N), (117, [], impl_mapRoot.sp N)]) (⟨impl_MapOK.snd N, impl_mapRoot.snd N, trivial⟩)
theorem snd (N : Nat) : Sound Try.prog E 57 (sp N) :=
  Mir.sound T_OK (G_ok N) mixed Try.func57 (c := code) (by kernel_rfl) (by kernel_rfl) (sp N) (Nat.le_of_ble_eq_true (by kernel_rfl)) live [] (by
    rintro ⟨a0, _⟩ r h
    exact ⟨N, 2, ((run N _ a0).trans rfl).trans h⟩)
end impl_MapRoot
namespace spec_l07Empty
noncomputable def code : Code := Try.f162.body.getD .skip
abbrev live : Live := []
noncomputable def G (N : Nat) : Ctx E := gam []
noncomputable def m0 (N : Nat) (a0 : Branch) : Option R :=
  bif (seq a0.Key ByteArray.empty) then
    bif (bif true then (seq a0.Value ByteArray.empty) else false) then
      bif (bif true then (a0.At == (0:Int)) else false) then
        some (bif true then ((a0.Kids.length : Int) == (0:Int)) else false)
      else
      some false
    else
    some false
  else
  some false
theorem run (N : Nat) (o0 : Orc E R) (a0 : Branch) : runF T (G N) live [] Try.f162 code (sp N) o0 (a0, ()) = m0 N a0 := by kernel_rfl
theorem G_ok (N : Nat) : GamOK Try.prog (G N) := gam_ok (l := []) (trivial)
theorem snd (N : Nat) : Sound Try.prog E 162 (sp N) :=
  Mir.sound T_OK (G_ok N) mixed Try.func162 (c := code) (by kernel_rfl) (by kernel_rfl) (sp N) (Nat.le_of_ble_eq_true (by kernel_rfl)) live [] (by
    rintro ⟨a0, _⟩ r h
    exact ⟨N, 2, ((run N _ a0).trans rfl).trans h⟩)
end spec_l07Empty
namespace spec_l07Leaf
noncomputable def code : Code := Try.f164.body.getD .skip
abbrev live : Live := []
noncomputable def G (N : Nat) : Ctx E := gam []
noncomputable def m0 (N : Nat) (a0 : Branch) : Option R :=
  some ((a0.Kids.length : Int) == (0:Int))
theorem run (N : Nat) (o0 : Orc E R) (a0 : Branch) : runF T (G N) live [] Try.f164 code (sp N) o0 (a0, ()) = m0 N a0 := by kernel_rfl
theorem G_ok (N : Nat) : GamOK Try.prog (G N) := gam_ok (l := []) (trivial)
theorem snd (N : Nat) : Sound Try.prog E 164 (sp N) :=
  Mir.sound T_OK (G_ok N) mixed Try.func164 (c := code) (by kernel_rfl) (by kernel_rfl) (sp N) (Nat.le_of_ble_eq_true (by kernel_rfl)) live [] (by
    rintro ⟨a0, _⟩ r h
    exact ⟨N, 2, ((run N _ a0).trans rfl).trans h⟩)
end spec_l07Leaf
namespace spec_l02Key
noncomputable def code : Code := Try.f96.body.getD .skip
abbrev live : Live := []
noncomputable def G (N : Nat) : Ctx E := gam []
noncomputable def m0 (N : Nat) (a0 : ByteArray) : Option R :=
  bif (decide ((a0.size : Int) ≥ (1:Int))) then
    some (bif true then (decide ((a0.size : Int) ≤ (24:Int))) else false)
  else
  some false
theorem run (N : Nat) (o0 : Orc E R) (a0 : ByteArray) : runF T (G N) live [] Try.f96 code (sp N) o0 (a0, ()) = m0 N a0 := by kernel_rfl
theorem G_ok (N : Nat) : GamOK Try.prog (G N) := gam_ok (l := []) (trivial)
theorem snd (N : Nat) : Sound Try.prog E 96 (sp N) :=
  Mir.sound T_OK (G_ok N) mixed Try.func96 (c := code) (by kernel_rfl) (by kernel_rfl) (sp N) (Nat.le_of_ble_eq_true (by kernel_rfl)) live [] (by
    rintro ⟨a0, _⟩ r h
    exact ⟨N, 2, ((run N _ a0).trans rfl).trans h⟩)
end spec_l02Key
namespace spec_l01Consts
noncomputable def code : Code := Try.f211.body.getD .skip
abbrev live : Live := []
noncomputable def G (N : Nat) : Ctx E := gam []
noncomputable def m0 (N : Nat) : Option R :=
  (let w1 : List Int := [(1116352408:Int), (1899447441:Int), (3049323471:Int), (3921009573:Int), (961987163:Int), (1508970993:Int), (2453635748:Int), (2870763221:Int), (3624381080:Int), (310598401:Int), (607225278:Int), (1426881987:Int), (1925078388:Int), (2162078206:Int), (2614888103:Int), (3248222580:Int), (3835390401:Int), (4022224774:Int), (264347078:Int), (604807628:Int), (770255983:Int), (1249150122:Int), (1555081692:Int), (1996064986:Int), (2554220882:Int), (2821834349:Int), (2952996808:Int), (3210313671:Int), (3336571891:Int), (3584528711:Int), (113926993:Int), (338241895:Int), (666307205:Int), (773529912:Int), (1294757372:Int), (1396182291:Int), (1695183700:Int), (1986661051:Int), (2177026350:Int), (2456956037:Int), (2730485921:Int), (2820302411:Int), (3259730800:Int), (3345764771:Int), (3516065817:Int), (3600352804:Int), (4094571909:Int), (275423344:Int), (430227734:Int), (506948616:Int), (659060556:Int), (883997877:Int), (958139571:Int), (1322822218:Int), (1537002063:Int), (1747873779:Int), (1955562222:Int), (2024104815:Int), (2227730452:Int), (2361852424:Int), (2428436474:Int), (2756734187:Int), (3204031479:Int), (3329325298:Int)]
  some w1)
theorem run (N : Nat) (o0 : Orc E R) : runF T (G N) live [] Try.f211 code (sp N) o0 () = m0 N := by kernel_rfl
theorem G_ok (N : Nat) : GamOK Try.prog (G N) := gam_ok (l := []) (trivial)
theorem snd (N : Nat) : Sound Try.prog E 211 (sp N) :=
  Mir.sound T_OK (G_ok N) mixed Try.func211 (c := code) (by kernel_rfl) (by kernel_rfl) (sp N) (Nat.le_of_ble_eq_true (by kernel_rfl)) live [] (by
    rintro _ r h
    exact ⟨N, 2, ((run N _).trans rfl).trans h⟩)
end spec_l01Consts
namespace spec_l01Turn
noncomputable def code : Code := Try.f242.body.getD .skip
abbrev live : Live := []
noncomputable def G (N : Nat) : Ctx E := gam []
noncomputable def m0 (N : Nat) (a0 : Int) (a1 : Int) : Option R :=
  bif (!decide (a1 < 0)) then
  bif (!decide ((wu64 ((32:Int) - a1)) < 0)) then
  some (ibit .or .u32 (Int.fdiv a0 (2 ^ (min (Int.toNat a1) 32))) (wu32 (a0 * 2 ^ (min (Int.toNat (wu64 ((32:Int) - a1))) 32))))
  else none
  else none
theorem run (N : Nat) (o0 : Orc E R) (a0 : Int) (a1 : Int) : runF T (G N) live [] Try.f242 code (sp N) o0 (a0, a1, ()) = m0 N a0 a1 := by kernel_rfl
theorem G_ok (N : Nat) : GamOK Try.prog (G N) := gam_ok (l := []) (trivial)
theorem snd (N : Nat) : Sound Try.prog E 242 (sp N) :=
  Mir.sound T_OK (G_ok N) mixed Try.func242 (c := code) (by kernel_rfl) (by kernel_rfl) (sp N) (Nat.le_of_ble_eq_true (by kernel_rfl)) live [] (by
    rintro ⟨a0, a1, _⟩ r h
    exact ⟨N, 2, ((run N _ a0 a1).trans rfl).trans h⟩)
end spec_l01Turn
namespace spec_l01Block
noncomputable def code : Code := Try.f212.body.getD .skip
abbrev live : Live := [(21, [0, 11, 17]), (13, [0, 2, 6, 11, 12]), (6, [0, 2, 6, 8]), (2, [0, 1, 2, 6, 7])]
noncomputable def G (N : Nat) : Ctx E := gam [(242, [], spec_l01Turn.sp N)]
noncomputable def loop2 : Code := codeAt code [1, 0, 1, 0]
noncomputable def body2 : Code := codeAt loop2 [0]
noncomputable def loop6 : Code := codeAt code [1, 1, 0, 1, 0]
noncomputable def body6 : Code := codeAt loop6 [0]
noncomputable def loop13 : Code := codeAt code [1, 1, 1, 1, 0, 1, 0]
noncomputable def body13 : Code := codeAt loop13 [0]
noncomputable def loop21 : Code := codeAt code [1, 1, 1, 1, 1, 1, 0]
noncomputable def body21 : Code := codeAt loop21 [0]
noncomputable def K2 (N : Nat) (o0 : Orc E R) : KT E R := kAt T (G N) live [] o0 code [1, 0, 1, 0] (kfin T Try.f212 (sp N))
noncomputable def St2 (a0 : List Int) (a1 : List Int) (a2 : List Int) : (Int × (List Int)) → St E
  | (v2, v4) => { ρ := [(0, .c (.at (.own 0))), (1, .c (.at (.ro 5 (.int .u8) a1))), (2, .c (.at (.ro 208 (.int .u32) a2))), (6, .c (.at (.own 1))), (7, .c (.at (.int .i64 v2)))], H := [(0, .row 208 (.int .u32) a0 false), (1, .row 208 (.int .u32) v4 false)], nx := 2, n := 222, pin := [0] }
noncomputable def K6 (N : Nat) (o0 : Orc E R) : KT E R := kAt T (G N) live [] o0 code [1, 1, 0, 1, 0] (kfin T Try.f212 (sp N))
noncomputable def St6 (a0 : List Int) (a1 : List Int) (a2 : List Int) : (Int × (List Int)) → St E
  | (v1, v3) => { ρ := [(0, .c (.at (.own 0))), (2, .c (.at (.ro 208 (.int .u32) a2))), (6, .c (.at (.own 1))), (8, .c (.at (.int .i64 v1)))], H := [(0, .row 208 (.int .u32) a0 false), (1, .row 208 (.int .u32) v3 false)], nx := 2, n := 222, pin := [0] }
noncomputable def K13 (N : Nat) (o0 : Orc E R) : KT E R := kAt T (G N) live [] o0 code [1, 1, 1, 1, 0, 1, 0] (kfin T Try.f212 (sp N))
noncomputable def St13 (a0 : List Int) (a1 : List Int) (a2 : List Int) : (Int × (List Int) × (List Int)) → St E
  | (v1, v3, v4) => { ρ := [(0, .c (.at (.own 0))), (2, .c (.at (.ro 208 (.int .u32) a2))), (6, .c (.at (.own 1))), (11, .c (.at (.own 2))), (12, .c (.at (.int .i64 v1)))], H := [(0, .row 208 (.int .u32) a0 false), (1, .row 208 (.int .u32) v3 false), (2, .row 208 (.int .u32) v4 false)], nx := 3, n := 222, pin := [0] }
noncomputable def K21 (N : Nat) (o0 : Orc E R) : KT E R := kAt T (G N) live [] o0 code [1, 1, 1, 1, 1, 1, 0] (kfin T Try.f212 (sp N))
noncomputable def St21 (a0 : List Int) (a1 : List Int) (a2 : List Int) : (Int × (List Int) × (List Int)) → St E
  | (v0, v1, v2) => { ρ := [(0, .c (.at (.own 0))), (11, .c (.at (.own 1))), (17, .c (.at (.int .i64 v0)))], H := [(0, .row 208 (.int .u32) v1 false), (1, .row 208 (.int .u32) v2 false)], nx := 2, n := 222, pin := [0] }
noncomputable def m0 (N : Nat) (a0 : List Int) (a1 : List Int) (a2 : List Int) (lp2 : Int × (List Int) → Option R) : Option R :=
  bif (decide (0 ≤ (64:Int))) then
  bif (room 64 4) then
  lp2 ((0:Int), (List.replicate 64 (0:Int)))
  else none
  else none
theorem run (N : Nat) (o0 : Orc E R) (a0 : List Int) (a1 : List Int) (a2 : List Int) : runF T (G N) live [] Try.f212 code (sp N) o0 (a0, a1, a2, ()) = m0 N a0 a1 a2 (fun a => o0 loop2 (K2 N o0) (St2 a0 a1 a2 a)) := by kernel_rfl
theorem body2_0 (N : Nat) (o0 : Orc E R) (o1 : Orc E R) (q1 : St E → Option R) (a0 : List Int) (a1 : List Int) (a2 : List Int) (v2 : Int) (v4 : List Int) : runA T (G N) live [] o1 body2 (St2 a0 a1 a2 (v2, v4)) (kloop [0, 1, 2, 6, 7] q1 (K2 N o0)) = step2 N a0 a1 a2 (fun a => o0 loop6 (K6 N o0) (St6 a0 a1 a2 a)) (fun a => q1 (St2 a0 a1 a2 a)) (v2, v4) := by kernel_rfl
theorem body6_0 (N : Nat) (o0 : Orc E R) (o1 : Orc E R) (q1 : St E → Option R) (a0 : List Int) (a1 : List Int) (a2 : List Int) (v1 : Int) (v3 : List Int) : runA T (G N) live [] o1 body6 (St6 a0 a1 a2 (v1, v3)) (kloop [0, 2, 6, 8] q1 (K6 N o0)) = step6 N a0 a1 a2 (fun a => o0 loop13 (K13 N o0) (St13 a0 a1 a2 a)) (fun a => q1 (St6 a0 a1 a2 a)) (v1, v3) := by kernel_rfl
theorem body13_0 (N : Nat) (o0 : Orc E R) (o1 : Orc E R) (q1 : St E → Option R) (a0 : List Int) (a1 : List Int) (a2 : List Int) (v1 : Int) (v3 : List Int) (v4 : List Int) : runA T (G N) live [] o1 body13 (St13 a0 a1 a2 (v1, v3, v4)) (kloop [0, 2, 6, 11, 12] q1 (K13 N o0)) = step13 N a0 a1 a2 (fun a => o0 loop21 (K21 N o0) (St21 a0 a1 a2 a)) (fun a => q1 (St13 a0 a1 a2 a)) (v1, v3, v4) := by kernel_rfl
theorem body21_0 (N : Nat) (o0 : Orc E R) (o1 : Orc E R) (q1 : St E → Option R) (a0 : List Int) (a1 : List Int) (a2 : List Int) (v0 : Int) (v1 : List Int) (v2 : List Int) : runA T (G N) live [] o1 body21 (St21 a0 a1 a2 (v0, v1, v2)) (kloop [0, 11, 17] q1 (K21 N o0)) = step21 N a0 a1 a2 (fun a => q1 (St21 a0 a1 a2 a)) (v0, v1, v2) := by kernel_rfl
theorem lp21_eq (N : Nat) (a0 : List Int) (a1 : List Int) (a2 : List Int) (a : Int × (List Int) × (List Int)) : (orc T (G N) live [] N 2) loop21 (K21 N (orc T (G N) live [] N 2)) (St21 a0 a1 a2 a) = lp21 N a0 a1 a2 a :=
  (orc_loop (b := body21) (live := [0, 11, 17]) (by kernel_rfl)).trans (iter_eq (St21 a0 a1 a2) _ _ (fun q1 a => by
    have hc := congrFun (congrFun (rfl : (step21 N a0 a1 a2) = (step21 N a0 a1 a2)) (fun a => q1 (St21 a0 a1 a2 a))) a
    obtain ⟨u0, u1, u2⟩ := a
    exact (body21_0 N (orc T (G N) live [] N 2) (orc T (G N) live [] N 1) q1 a0 a1 a2 u0 u1 u2).trans hc) N a)
theorem lp13_eq (N : Nat) (a0 : List Int) (a1 : List Int) (a2 : List Int) (a : Int × (List Int) × (List Int)) : (orc T (G N) live [] N 2) loop13 (K13 N (orc T (G N) live [] N 2)) (St13 a0 a1 a2 a) = lp13 N a0 a1 a2 a :=
  (orc_loop (b := body13) (live := [0, 2, 6, 11, 12]) (by kernel_rfl)).trans (iter_eq (St13 a0 a1 a2) _ _ (fun q1 a => by
    have hc := congrFun (congrFun (congrArg (step13 N a0 a1 a2) (funext fun a => lp21_eq N a0 a1 a2 a)) (fun a => q1 (St13 a0 a1 a2 a))) a
    obtain ⟨u0, u1, u2⟩ := a
    exact (body13_0 N (orc T (G N) live [] N 2) (orc T (G N) live [] N 1) q1 a0 a1 a2 u0 u1 u2).trans hc) N a)
theorem lp6_eq (N : Nat) (a0 : List Int) (a1 : List Int) (a2 : List Int) (a : Int × (List Int)) : (orc T (G N) live [] N 2) loop6 (K6 N (orc T (G N) live [] N 2)) (St6 a0 a1 a2 a) = lp6 N a0 a1 a2 a :=
  (orc_loop (b := body6) (live := [0, 2, 6, 8]) (by kernel_rfl)).trans (iter_eq (St6 a0 a1 a2) _ _ (fun q1 a => by
    have hc := congrFun (congrFun (congrArg (step6 N a0 a1 a2) (funext fun a => lp13_eq N a0 a1 a2 a)) (fun a => q1 (St6 a0 a1 a2 a))) a
    obtain ⟨u0, u1⟩ := a
    exact (body6_0 N (orc T (G N) live [] N 2) (orc T (G N) live [] N 1) q1 a0 a1 a2 u0 u1).trans hc) N a)
theorem lp2_eq (N : Nat) (a0 : List Int) (a1 : List Int) (a2 : List Int) (a : Int × (List Int)) : (orc T (G N) live [] N 2) loop2 (K2 N (orc T (G N) live [] N 2)) (St2 a0 a1 a2 a) = lp2 N a0 a1 a2 a :=
  (orc_loop (b := body2) (live := [0, 1, 2, 6, 7]) (by kernel_rfl)).trans (iter_eq (St2 a0 a1 a2) _ _ (fun q1 a => by
    have hc := congrFun (congrFun (congrArg (step2 N a0 a1 a2) (funext fun a => lp6_eq N a0 a1 a2 a)) (fun a => q1 (St2 a0 a1 a2 a))) a
    obtain ⟨u0, u1⟩ := a
    exact (body2_0 N (orc T (G N) live [] N 2) (orc T (G N) live [] N 1) q1 a0 a1 a2 u0 u1).trans hc) N a)
theorem G_ok (N : Nat) : GamOK Try.prog (G N) := gam_ok (l := [(242, [], spec_l01Turn.sp N)]) (⟨spec_l01Turn.snd N, trivial⟩)
theorem snd (N : Nat) : Sound Try.prog E 212 (sp N) :=
  Mir.sound T_OK (G_ok N) mixed Try.func212 (c := code) (by kernel_rfl) (by kernel_rfl) (sp N) (Nat.le_of_ble_eq_true (by kernel_rfl)) live [] (by
    rintro ⟨a0, a1, a2, _⟩ r h
    exact ⟨N, 2, ((run N _ a0 a1 a2).trans (congrArg (m0 N a0 a1 a2) (funext fun a => lp2_eq N a0 a1 a2 a))).trans h⟩)
end spec_l01Block
namespace spec_l01Hash
noncomputable def code : Code := Try.f166.body.getD .skip
abbrev live : Live := [(16, [3, 8, 9]), (11, [3, 4, 6, 7]), (6, [0, 3, 4, 5]), (3, [0, 3, 4])]
noncomputable def G (N : Nat) : Ctx E := gam [(211, [], spec_l01Consts.sp N), (212, [], spec_l01Block.sp N)]
noncomputable def loop3 : Code := codeAt code [1, 1, 1, 0, 0]
noncomputable def body3 : Code := codeAt loop3 [0]
noncomputable def loop6 : Code := codeAt code [1, 1, 1, 1, 0, 1, 0]
noncomputable def body6 : Code := codeAt loop6 [0]
noncomputable def loop11 : Code := codeAt code [1, 1, 1, 1, 1, 1, 0, 1, 0]
noncomputable def body11 : Code := codeAt loop11 [0]
noncomputable def loop16 : Code := codeAt code [1, 1, 1, 1, 1, 1, 1, 1, 0, 1, 0]
noncomputable def body16 : Code := codeAt loop16 [0]
noncomputable def K3 (N : Nat) (o0 : Orc E R) : KT E R := kAt T (G N) live [] o0 code [1, 1, 1, 0, 0] (kfin T Try.f166 (sp N))
noncomputable def St3 (a0 : List Int) : ((List Int) × (List Int)) → St E
  | (v1, v2) => { ρ := [(0, .c (.at (.ro 5 (.int .u8) a0))), (3, .c (.at (.own 0))), (4, .c (.at (.own 1)))], H := [(0, .row 208 (.int .u32) v1 false), (1, .row 5 (.int .u8) v2 false)], nx := 2, n := 86, pin := [] }
noncomputable def K6 (N : Nat) (o0 : Orc E R) : KT E R := kAt T (G N) live [] o0 code [1, 1, 1, 1, 0, 1, 0] (kfin T Try.f166 (sp N))
noncomputable def St6 (a0 : List Int) : (Int × (List Int) × (List Int)) → St E
  | (v1, v2, v3) => { ρ := [(0, .c (.at (.ro 5 (.int .u8) a0))), (3, .c (.at (.own 0))), (4, .c (.at (.own 1))), (5, .c (.at (.int .i64 v1)))], H := [(0, .row 208 (.int .u32) v2 false), (1, .row 5 (.int .u8) v3 false)], nx := 2, n := 86, pin := [] }
noncomputable def K11 (N : Nat) (o0 : Orc E R) : KT E R := kAt T (G N) live [] o0 code [1, 1, 1, 1, 1, 1, 0, 1, 0] (kfin T Try.f166 (sp N))
noncomputable def St11 (a0 : List Int) : (Int × (List Int) × (List Int) × (List Int)) → St E
  | (v0, v1, v2, v3) => { ρ := [(3, .c (.at (.own 0))), (4, .c (.at (.own 1))), (6, .c (.at (.own 2))), (7, .c (.at (.int .i64 v0)))], H := [(0, .row 208 (.int .u32) v1 false), (1, .row 5 (.int .u8) v2 false), (2, .row 208 (.int .u32) v3 false)], nx := 3, n := 86, pin := [] }
noncomputable def K16 (N : Nat) (o0 : Orc E R) : KT E R := kAt T (G N) live [] o0 code [1, 1, 1, 1, 1, 1, 1, 1, 0, 1, 0] (kfin T Try.f166 (sp N))
noncomputable def St16 (a0 : List Int) : (Int × (List Int) × (List Int)) → St E
  | (v0, v1, v2) => { ρ := [(3, .c (.at (.own 0))), (8, .c (.at (.own 1))), (9, .c (.at (.int .i64 v0)))], H := [(0, .row 208 (.int .u32) v1 false), (1, .row 5 (.int .u8) v2 false)], nx := 2, n := 86, pin := [] }
noncomputable def m0 (N : Nat) (a0 : List Int) (lp3 : (List Int) × (List Int) → Option R) : Option R :=
  (let w1 : List Int := [(1779033703:Int), (3144134277:Int), (1013904242:Int), (2773480762:Int), (1359893119:Int), (2600822924:Int), (528734635:Int), (1541459225:Int)]
  bif (room (([] : List Int).length + a0.length) 1) then
  bif (room ((([] : List Int) ++ a0).length + ([(128:Int)]).length) 1) then
  lp3 (w1, ((([] : List Int) ++ a0) ++ [(128:Int)]))
  else none
  else none)
theorem run (N : Nat) (o0 : Orc E R) (a0 : List Int) : runF T (G N) live [] Try.f166 code (sp N) o0 (a0, ()) = m0 N a0 (fun a => o0 loop3 (K3 N o0) (St3 a0 a)) := by kernel_rfl
theorem body3_0 (N : Nat) (o0 : Orc E R) (o1 : Orc E R) (q1 : St E → Option R) (a0 : List Int) (v1 : List Int) (v2 : List Int) : runA T (G N) live [] o1 body3 (St3 a0 (v1, v2)) (kloop [0, 3, 4] q1 (K3 N o0)) = step3 N a0 (fun a => o0 loop6 (K6 N o0) (St6 a0 a)) (fun a => q1 (St3 a0 a)) (v1, v2) := by kernel_rfl
theorem body6_0 (N : Nat) (o0 : Orc E R) (o1 : Orc E R) (q1 : St E → Option R) (a0 : List Int) (v1 : Int) (v2 : List Int) (v3 : List Int) : runA T (G N) live [] o1 body6 (St6 a0 (v1, v2, v3)) (kloop [0, 3, 4, 5] q1 (K6 N o0)) = step6 N a0 (fun a => o0 loop11 (K11 N o0) (St11 a0 a)) (fun a => q1 (St6 a0 a)) (v1, v2, v3) := by kernel_rfl
theorem body11_0 (N : Nat) (o0 : Orc E R) (o1 : Orc E R) (q1 : St E → Option R) (a0 : List Int) (v0 : Int) (v1 : List Int) (v2 : List Int) (v3 : List Int) : runA T (G N) live [] o1 body11 (St11 a0 (v0, v1, v2, v3)) (kloop [3, 4, 6, 7] q1 (K11 N o0)) = step11 N a0 (fun a => o0 loop16 (K16 N o0) (St16 a0 a)) (fun a => q1 (St11 a0 a)) (v0, v1, v2, v3) := by kernel_rfl
theorem body16_0 (N : Nat) (o0 : Orc E R) (o1 : Orc E R) (q1 : St E → Option R) (a0 : List Int) (v0 : Int) (v1 : List Int) (v2 : List Int) : runA T (G N) live [] o1 body16 (St16 a0 (v0, v1, v2)) (kloop [3, 8, 9] q1 (K16 N o0)) = step16 N a0 (fun a => q1 (St16 a0 a)) (v0, v1, v2) := by kernel_rfl
theorem lp16_eq (N : Nat) (a0 : List Int) (a : Int × (List Int) × (List Int)) : (orc T (G N) live [] N 2) loop16 (K16 N (orc T (G N) live [] N 2)) (St16 a0 a) = lp16 N a0 a :=
  (orc_loop (b := body16) (live := [3, 8, 9]) (by kernel_rfl)).trans (iter_eq (St16 a0) _ _ (fun q1 a => by
    have hc := congrFun (congrFun (rfl : (step16 N a0) = (step16 N a0)) (fun a => q1 (St16 a0 a))) a
    obtain ⟨u0, u1, u2⟩ := a
    exact (body16_0 N (orc T (G N) live [] N 2) (orc T (G N) live [] N 1) q1 a0 u0 u1 u2).trans hc) N a)
theorem lp11_eq (N : Nat) (a0 : List Int) (a : Int × (List Int) × (List Int) × (List Int)) : (orc T (G N) live [] N 2) loop11 (K11 N (orc T (G N) live [] N 2)) (St11 a0 a) = lp11 N a0 a :=
  (orc_loop (b := body11) (live := [3, 4, 6, 7]) (by kernel_rfl)).trans (iter_eq (St11 a0) _ _ (fun q1 a => by
    have hc := congrFun (congrFun (congrArg (step11 N a0) (funext fun a => lp16_eq N a0 a)) (fun a => q1 (St11 a0 a))) a
    obtain ⟨u0, u1, u2, u3⟩ := a
    exact (body11_0 N (orc T (G N) live [] N 2) (orc T (G N) live [] N 1) q1 a0 u0 u1 u2 u3).trans hc) N a)
theorem lp6_eq (N : Nat) (a0 : List Int) (a : Int × (List Int) × (List Int)) : (orc T (G N) live [] N 2) loop6 (K6 N (orc T (G N) live [] N 2)) (St6 a0 a) = lp6 N a0 a :=
  (orc_loop (b := body6) (live := [0, 3, 4, 5]) (by kernel_rfl)).trans (iter_eq (St6 a0) _ _ (fun q1 a => by
    have hc := congrFun (congrFun (congrArg (step6 N a0) (funext fun a => lp11_eq N a0 a)) (fun a => q1 (St6 a0 a))) a
    obtain ⟨u0, u1, u2⟩ := a
    exact (body6_0 N (orc T (G N) live [] N 2) (orc T (G N) live [] N 1) q1 a0 u0 u1 u2).trans hc) N a)
theorem lp3_eq (N : Nat) (a0 : List Int) (a : (List Int) × (List Int)) : (orc T (G N) live [] N 2) loop3 (K3 N (orc T (G N) live [] N 2)) (St3 a0 a) = lp3 N a0 a :=
  (orc_loop (b := body3) (live := [0, 3, 4]) (by kernel_rfl)).trans (iter_eq (St3 a0) _ _ (fun q1 a => by
    have hc := congrFun (congrFun (congrArg (step3 N a0) (funext fun a => lp6_eq N a0 a)) (fun a => q1 (St3 a0 a))) a
    obtain ⟨u0, u1⟩ := a
    exact (body3_0 N (orc T (G N) live [] N 2) (orc T (G N) live [] N 1) q1 a0 u0 u1).trans hc) N a)
theorem G_ok (N : Nat) : GamOK Try.prog (G N) := gam_ok (l := [(211, [], spec_l01Consts.sp N), (212, [], spec_l01Block.sp N)]) (⟨spec_l01Consts.snd N, spec_l01Block.snd N, trivial⟩)
theorem snd (N : Nat) : Sound Try.prog E 166 (sp N) :=
  Mir.sound T_OK (G_ok N) mixed Try.func166 (c := code) (by kernel_rfl) (by kernel_rfl) (sp N) (Nat.le_of_ble_eq_true (by kernel_rfl)) live [] (by
    rintro ⟨a0, _⟩ r h
    exact ⟨N, 2, ((run N _ a0).trans (congrArg (m0 N a0) (funext fun a => lp3_eq N a0 a))).trans h⟩)
end spec_l01Hash
namespace spec_l07Hash
noncomputable def code : Code := Try.f100.body.getD .skip
abbrev live : Live := []
noncomputable def G (N : Nat) : Ctx E := gam [(166, [], spec_l01Hash.sp N)]
noncomputable def m0 (N : Nat) (a0 : ByteArray) : Option R :=
  bif (room a0.size 1) then
  ob (spec_l01Hash.m N (bytesOf a0)) fun y1 =>
  some y1
  else none
theorem run (N : Nat) (o0 : Orc E R) (a0 : ByteArray) : runF T (G N) live [] Try.f100 code (sp N) o0 (a0, ()) = m0 N a0 := by kernel_rfl
theorem G_ok (N : Nat) : GamOK Try.prog (G N) := gam_ok (l := [(166, [], spec_l01Hash.sp N)]) (⟨spec_l01Hash.snd N, trivial⟩)
theorem snd (N : Nat) : Sound Try.prog E 100 (sp N) :=
  Mir.sound T_OK (G_ok N) mixed Try.func100 (c := code) (by kernel_rfl) (by kernel_rfl) (sp N) (Nat.le_of_ble_eq_true (by kernel_rfl)) live [] (by
    rintro ⟨a0, _⟩ r h
    exact ⟨N, 2, ((run N _ a0).trans rfl).trans h⟩)
end spec_l07Hash
namespace spec_l01Bits
noncomputable def code : Code := Try.f210.body.getD .skip
abbrev live : Live := [(6, [0, 3, 4, 5]), (3, [0, 3, 4])]
noncomputable def G (N : Nat) : Ctx E := gam []
noncomputable def loop3 : Code := codeAt code [1, 1, 0, 1, 0]
noncomputable def body3 : Code := codeAt loop3 [0]
noncomputable def loop6 : Code := codeAt body3 [1, 0, 0, 1, 0]
noncomputable def body6 : Code := codeAt loop6 [0]
noncomputable def K3 (N : Nat) (o0 : Orc E R) : KT E R := kAt T (G N) live [] o0 code [1, 1, 0, 1, 0] (kfin T Try.f210 (sp N))
noncomputable def St3 (a0 : ByteArray) : (Int × (List Int)) → St E
  | (v1, v2) => { ρ := [(0, .c (.at (.str a0))), (3, .c (.at (.own 0))), (4, .c (.at (.int .i64 v1)))], H := [(0, .row 5 (.int .u8) v2 false)], nx := 1, n := 30, pin := [] }
noncomputable def K6 (N : Nat) (o0 : Orc E R) (o1 : Orc E R) (q1 : St E → Option R) : KT E R := kAt T (G N) live [] o1 body3 [1, 0, 0, 1, 0] (kloop [0, 3, 4] q1 (K3 N o0))
noncomputable def St6 (a0 : ByteArray) : (Int × Int × (List Int)) → St E
  | (v1, v2, v3) => { ρ := [(0, .c (.at (.str a0))), (3, .c (.at (.own 0))), (4, .c (.at (.int .i64 v1))), (5, .c (.at (.int .i64 v2)))], H := [(0, .row 5 (.int .u8) v3 false)], nx := 1, n := 30, pin := [] }
noncomputable def m0 (N : Nat) (a0 : ByteArray) (lp3 : Int × (List Int) → Option R) : Option R :=
  lp3 ((0:Int), ([] : List Int))
theorem run (N : Nat) (o0 : Orc E R) (a0 : ByteArray) : runF T (G N) live [] Try.f210 code (sp N) o0 (a0, ()) = m0 N a0 (fun a => o0 loop3 (K3 N o0) (St3 a0 a)) := by kernel_rfl
theorem body3_0 (N : Nat) (o0 : Orc E R) (o1 : Orc E R) (q1 : St E → Option R) (a0 : ByteArray) (v1 : Int) (v2 : List Int) : runA T (G N) live [] o1 body3 (St3 a0 (v1, v2)) (kloop [0, 3, 4] q1 (K3 N o0)) = step3 N a0 (fun a => o1 loop6 (K6 N o0 o1 q1) (St6 a0 a)) (fun a => q1 (St3 a0 a)) (v1, v2) := by kernel_rfl
theorem body6_0 (N : Nat) (o0 : Orc E R) (o1 : Orc E R) (o2 : Orc E R) (q1 : St E → Option R) (q2 : St E → Option R) (a0 : ByteArray) (v1 : Int) (v2 : Int) (v3 : List Int) : runA T (G N) live [] o2 body6 (St6 a0 (v1, v2, v3)) (kloop [0, 3, 4, 5] q2 (K6 N o0 o1 q1)) = step6 N a0 (fun a => q1 (St3 a0 a)) (fun a => q2 (St6 a0 a)) (v1, v2, v3) := by kernel_rfl
theorem lp6_eq (N : Nat) (a0 : ByteArray) (q1 : St E → Option R) (a : Int × Int × (List Int)) : (orc T (G N) live [] N 2) loop6 (K6 N (orc T (G N) live [] N 3) (orc T (G N) live [] N 2) q1) (St6 a0 a) = lp6 N a0 (fun a => q1 (St3 a0 a)) a :=
  (orc_loop (b := body6) (live := [0, 3, 4, 5]) (by kernel_rfl)).trans (iter_eq (St6 a0) _ _ (fun q2 a => by
    have hc := congrFun (congrFun (congrArg (step6 N a0) (Eq.refl (fun a => q1 (St3 a0 a)))) (fun a => q2 (St6 a0 a))) a
    obtain ⟨u0, u1, u2⟩ := a
    exact (body6_0 N (orc T (G N) live [] N 3) (orc T (G N) live [] N 2) (orc T (G N) live [] N 1) q1 q2 a0 u0 u1 u2).trans hc) N a)
theorem lp3_eq (N : Nat) (a0 : ByteArray) (a : Int × (List Int)) : (orc T (G N) live [] N 3) loop3 (K3 N (orc T (G N) live [] N 3)) (St3 a0 a) = lp3 N a0 a :=
  (orc_loop (b := body3) (live := [0, 3, 4]) (by kernel_rfl)).trans (iter_eq (St3 a0) _ _ (fun q1 a => by
    have hc := congrFun (congrFun (congrArg (step3 N a0) (funext fun a => lp6_eq N a0 q1 a)) (fun a => q1 (St3 a0 a))) a
    obtain ⟨u0, u1⟩ := a
    exact (body3_0 N (orc T (G N) live [] N 3) (orc T (G N) live [] N 2) q1 a0 u0 u1).trans hc) N a)
theorem G_ok (N : Nat) : GamOK Try.prog (G N) := gam_ok (l := []) (trivial)
theorem snd (N : Nat) : Sound Try.prog E 210 (sp N) :=
  Mir.sound T_OK (G_ok N) mixed Try.func210 (c := code) (by kernel_rfl) (by kernel_rfl) (sp N) (Nat.le_of_ble_eq_true (by kernel_rfl)) live [] (by
    rintro ⟨a0, _⟩ r h
    exact ⟨N, 3, ((run N _ a0).trans (congrArg (m0 N a0) (funext fun a => lp3_eq N a0 a))).trans h⟩)
end spec_l01Bits
namespace spec_l01In
noncomputable def code : Code := Try.f135.body.getD .skip
abbrev live : Live := []
noncomputable def G (N : Nat) : Ctx E := gam []
noncomputable def m0 (N : Nat) (a0 : Int) (a1 : Int) (a2 : Int) : Option R :=
  bif (decide (a0 ≥ a1)) then
    some (bif true then (decide (a0 ≤ a2)) else false)
  else
  some false
theorem run (N : Nat) (o0 : Orc E R) (a0 : Int) (a1 : Int) (a2 : Int) : runF T (G N) live [] Try.f135 code (sp N) o0 (a0, a1, a2, ()) = m0 N a0 a1 a2 := by kernel_rfl
theorem G_ok (N : Nat) : GamOK Try.prog (G N) := gam_ok (l := []) (trivial)
theorem snd (N : Nat) : Sound Try.prog E 135 (sp N) :=
  Mir.sound T_OK (G_ok N) mixed Try.func135 (c := code) (by kernel_rfl) (by kernel_rfl) (sp N) (Nat.le_of_ble_eq_true (by kernel_rfl)) live [] (by
    rintro ⟨a0, a1, a2, _⟩ r h
    exact ⟨N, 2, ((run N _ a0 a1 a2).trans rfl).trans h⟩)
end spec_l01In
end Mir.Y
