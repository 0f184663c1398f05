/- The models are what the functions do. -/
import Derived.Test.YtojpcjbdehoibaaHP2
import Derived.Test.YtojpcjbdehoibaaHCmpLays
import Derived.Test.YtojpcjbdehoibaaHIns176
namespace Mir.Y
set_option linter.unusedVariables false
set_option maxRecDepth 10000
open Go Go.Proofs Mir
namespace impl_mapPairs
noncomputable def code : Code := Try.f122.body.getD .skip
abbrev live : Live := []
noncomputable def G (N : Nat) : Ctx E := gam [(115, [], impl_Branch_isEmpty.sp N), (185, [], impl_Branch_pairs.sp N)]
noncomputable def m0 (N : Nat) (a0 : Branch) : Option R :=
  ob (impl_Branch_isEmpty.m N (Branch.mk a0.Key a0.Value a0.At a0.Kids)) fun y1 =>
  bif y1 then
    some (([] : List pairOf), true)
  else
  ob (impl_Branch_pairs.m N (Branch.mk a0.Key a0.Value a0.At a0.Kids) (-1:Int) (40:Int)) fun y2 =>
  some (y2.1, y2.2.1)
theorem run (N : Nat) (o0 : Orc E R) (a0 : Branch) : runF T (G N) live [] Try.f122 code (sp N) o0 (a0, ()) = m0 N a0 := by kernel_rfl
theorem G_ok (N : Nat) : GamOK Try.prog (G N) := gam_ok (l := [(115, [], impl_Branch_isEmpty.sp N), (185, [], impl_Branch_pairs.sp N)]) (⟨impl_Branch_isEmpty.snd N, impl_Branch_pairs.snd N, trivial⟩)
theorem snd (N : Nat) : Sound Try.prog E 122 (sp N) :=
  Mir.sound T_OK (G_ok N) mixed Try.func122 (c := code) (by kernel_rfl) (by kernel_rfl) (sp N) (Nat.le_of_ble_eq_true (by kernel_rfl)) live [] (by
    rintro ⟨a0, _⟩ r h
    exact ⟨N, 2, ((run N _ a0).trans rfl).trans h⟩)
end impl_mapPairs
namespace impl_mapCode
noncomputable def code : Code := Try.f102.body.getD .skip
abbrev live : Live := []
noncomputable def G (N : Nat) : Ctx E := gam [(83, [], impl_isText.sp N), (122, [], impl_mapPairs.sp N), (124, [], impl_isKey.sp N)]
noncomputable def m0 (N : Nat) (a0 : Branch) (a1 : ByteArray) : Option R :=
  ob (impl_isText.m N ([a1])) fun y1 =>
  bif (!y1) then
    some (([] : List pairOf), (2:Int))
  else
  ob (impl_mapPairs.m N (Branch.mk a0.Key a0.Value a0.At a0.Kids)) fun y2 =>
  bif (!y2.2) then
    some (([] : List pairOf), (1:Int))
  else
  ob (impl_isKey.m N a1) fun y3 =>
  bif (bif false then true else (!y3)) then
    some (([] : List pairOf), (1:Int))
  else
  some (y2.1, (0:Int))
theorem run (N : Nat) (o0 : Orc E R) (a0 : Branch) (a1 : ByteArray) : runF T (G N) live [] Try.f102 code (sp N) o0 (a0, a1, ()) = m0 N a0 a1 := by kernel_rfl
theorem G_ok (N : Nat) : GamOK Try.prog (G N) := gam_ok (l := [(83, [], impl_isText.sp N), (122, [], impl_mapPairs.sp N), (124, [], impl_isKey.sp N)]) (⟨impl_isText.snd N, impl_mapPairs.snd N, impl_isKey.snd N, trivial⟩)
theorem snd (N : Nat) : Sound Try.prog E 102 (sp N) :=
  Mir.sound T_OK (G_ok N) mixed Try.func102 (c := code) (by kernel_rfl) (by kernel_rfl) (sp N) (Nat.le_of_ble_eq_true (by kernel_rfl)) live [] (by
    rintro ⟨a0, a1, _⟩ r h
    exact ⟨N, 2, ((run N _ a0 a1).trans rfl).trans h⟩)
end impl_mapCode
namespace slices_Clone_impl_pairOf_impl_pairOf
noncomputable def code : Code := Try.f175.body.getD .skip
abbrev live : Live := []
noncomputable def G (N : Nat) : Ctx E := gam []
noncomputable def m0 (N : Nat) (a0 : List pairOf) : Option R :=
  amb (a0.isEmpty) true
    (some ([] : List pairOf))
    (bif (room (([] : List pairOf).length + a0.length) 48) then
    some (([] : List pairOf) ++ a0)
    else none)
theorem run (N : Nat) (o0 : Orc E R) (a0 : List pairOf) : runF T (G N) live [] Try.f175 code (sp N) o0 (a0, ()) = m0 N a0 := by kernel_rfl
theorem G_ok (N : Nat) : GamOK Try.prog (G N) := gam_ok (l := []) (trivial)
theorem snd (N : Nat) : Sound Try.prog E 175 (sp N) :=
  Mir.sound T_OK (G_ok N) mixed Try.func175 (c := code) (by kernel_rfl) (by kernel_rfl) (sp N) (Nat.le_of_ble_eq_true (by kernel_rfl)) live [] (by
    rintro ⟨a0, _⟩ r h
    exact ⟨N, 2, ((run N _ a0).trans rfl).trans h⟩)
end slices_Clone_impl_pairOf_impl_pairOf
namespace strings_Compare
theorem str_of {W : World} {F : Nat → Prop} {s : ByteArray} {v : Value} (h : RoV E W F .str s v) : v = .string s := by
  obtain ⟨d, h⟩ := h; cases d <;> exact h
theorem snd (N : Nat) : Sound Try.prog E 157 (sp N) := by
  refine ⟨fun args W => run_callFunc_go Try.func157 (c := Try.f157.body.getD .skip) (by kernel_rfl) (by kernel_rfl) args W, ?_⟩
  rintro W F ⟨a0, a1, _⟩ r args fp hfn ⟨v, vs, f1, f2, rfl, rfl, ⟨h0, rfl⟩, ⟨w, ws, g1, g2, rfl, rfl, ⟨h1, rfl⟩, ⟨rfl, rfl⟩⟩⟩ _ _ hF
  obtain rfl := str_of h0
  obtain rfl := str_of h1
  cases hfn
  have hcall := Go.Proofs.Any.strings_Compare Try.cmpLays a0 a1 W
  refine (show Calls Try.prog 157 #[.string a0, .string a1] W _ from hcall).mono ?_
  rintro e W' ⟨rfl, rfl⟩
  exact ⟨_, rfl, ⟨F, [.int .i64 (Go.Lib.compareBytes a0.data.toList a1.data.toList)], [], [], rfl, fun b h => h, fun b h => ⟨.inl h, hF b h⟩, ⟨_, [], [], [], rfl, rfl, ⟨rfl, rfl⟩, ⟨rfl, rfl⟩⟩, ⟨_, _, [], [], rfl, rfl, rfl, ⟨_, _, [], [], rfl, rfl, rfl, ⟨rfl, rfl⟩⟩⟩, List.nodup_nil, fun b h => by cases h⟩, rfl, rfl, rfl, Nat.le_refl _, fun b h _ => rfl⟩
end strings_Compare
namespace impl_pairAt_1
noncomputable def code : Code := Try.f168.body.getD .skip
abbrev live : Live := []
noncomputable def G (N : Nat) : Ctx E := gam [(157, [], strings_Compare.sp N)]
noncomputable def m0 (N : Nat) (a0 : pairOf) (a1 : ByteArray) : Option R :=
  ob (strings_Compare.m N a0.hash a1) fun y1 =>
  some y1
theorem run (N : Nat) (o0 : Orc E R) (a0 : pairOf) (a1 : ByteArray) : runF T (G N) live [] Try.f168 code (sp N) o0 (a0, a1, ()) = m0 N a0 a1 := by kernel_rfl
theorem G_ok (N : Nat) : GamOK Try.prog (G N) := gam_ok (l := [(157, [], strings_Compare.sp N)]) (⟨strings_Compare.snd N, trivial⟩)
theorem snd (N : Nat) : Sound Try.prog E 168 (sp N) :=
  Mir.sound T_OK (G_ok N) mixed Try.func168 (c := code) (by kernel_rfl) (by kernel_rfl) (sp N) (Nat.le_of_ble_eq_true (by kernel_rfl)) live [] (by
    rintro ⟨a0, a1, _⟩ r h
    exact ⟨N, 2, ((run N _ a0 a1).trans rfl).trans h⟩)
end impl_pairAt_1
namespace slices_BinarySearchFunc_impl_pairOf_impl_pairOf_string__impl_pairAt_1
noncomputable def code : Code := Try.f167.body.getD .skip
abbrev live : Live := [(3, [0, 1, 2, 8, 9, 10])]
noncomputable def G (N : Nat) : Ctx E := gam [(168, [], impl_pairAt_1.sp N)]
noncomputable def loop3 : Code := codeAt code [1, 1, 1, 0, 0]
noncomputable def body3 : Code := codeAt loop3 [0]
noncomputable def K3 (N : Nat) (o0 : Orc E R) : KT E R := kAt T (G N) live [] o0 code [1, 1, 1, 0, 0] (kfin T Try.f167 (sp N))
noncomputable def St3 (a0 : List pairOf) (a1 : ByteArray) : (Int × Int × Int) → St E
  | (v2, v3, v4) => { ρ := [(0, .c (.at (.ro 146 (.st 146) a0))), (1, .c (.at (.str a1))), (2, .clo 168 []), (8, .c (.at (.int .i64 v2))), (9, .c (.at (.int .i64 v3))), (10, .c (.at (.int .i64 v4)))], H := [], nx := 0, n := 49, pin := [] }
noncomputable def m0 (N : Nat) (a0 : List pairOf) (a1 : ByteArray) (lp3 : Int × Int × Int → Option R) : Option R :=
  lp3 ((a0.length : Int), (0:Int), (a0.length : Int))
theorem run (N : Nat) (o0 : Orc E R) (a0 : List pairOf) (a1 : ByteArray) : runF T (G N) live [] Try.f167 code (sp N) o0 (a0, a1, (), ()) = m0 N a0 a1 (fun a => o0 loop3 (K3 N o0) (St3 a0 a1 a)) := by kernel_rfl
theorem body3_0 (N : Nat) (o0 : Orc E R) (o1 : Orc E R) (q1 : St E → Option R) (a0 : List pairOf) (a1 : ByteArray) (v2 : Int) (v3 : Int) (v4 : Int) : runA T (G N) live [] o1 body3 (St3 a0 a1 (v2, v3, v4)) (kloop [0, 1, 2, 8, 9, 10] q1 (K3 N o0)) = step3 N a0 a1 (fun a => q1 (St3 a0 a1 a)) (v2, v3, v4) := by kernel_rfl
theorem lp3_eq (N : Nat) (a0 : List pairOf) (a1 : ByteArray) (a : Int × Int × Int) : (orc T (G N) live [] N 2) loop3 (K3 N (orc T (G N) live [] N 2)) (St3 a0 a1 a) = lp3 N a0 a1 a :=
  (orc_loop (b := body3) (live := [0, 1, 2, 8, 9, 10]) (by kernel_rfl)).trans (iter_eq (St3 a0 a1) _ _ (fun q1 a => by
    have hc := congrFun (congrFun (rfl : (step3 N a0 a1) = (step3 N a0 a1)) (fun a => q1 (St3 a0 a1 a))) a
    obtain ⟨u0, u1, u2⟩ := a
    exact (body3_0 N (orc T (G N) live [] N 2) (orc T (G N) live [] N 1) q1 a0 a1 u0 u1 u2).trans hc) N a)
theorem G_ok (N : Nat) : GamOK Try.prog (G N) := gam_ok (l := [(168, [], impl_pairAt_1.sp N)]) (⟨impl_pairAt_1.snd N, trivial⟩)
theorem snd (N : Nat) : Sound Try.prog E 167 (sp N) :=
  Mir.sound T_OK (G_ok N) mixed Try.func167 (c := code) (by kernel_rfl) (by kernel_rfl) (sp N) (Nat.le_of_ble_eq_true (by kernel_rfl)) live [] (by
    rintro ⟨a0, a1, _, _⟩ r h
    exact ⟨N, 2, ((run N _ a0 a1).trans (congrArg (m0 N a0 a1) (funext fun a => lp3_eq N a0 a1 a))).trans h⟩)
end slices_BinarySearchFunc_impl_pairOf_impl_pairOf_string__impl_pairAt_1
namespace impl_pairAt
noncomputable def code : Code := Try.f103.body.getD .skip
abbrev live : Live := []
noncomputable def G (N : Nat) : Ctx E := gam [(114, [], impl_hash.sp N), (167, [168], slices_BinarySearchFunc_impl_pairOf_impl_pairOf_string__impl_pairAt_1.sp N)]
noncomputable def m0 (N : Nat) (a0 : List pairOf) (a1 : ByteArray) : Option R :=
  ob (impl_hash.m N a1) fun y1 =>
  ob (slices_BinarySearchFunc_impl_pairOf_impl_pairOf_string__impl_pairAt_1.m N a0 y1) fun y2 =>
  some (y2.1, y2.2)
theorem run (N : Nat) (o0 : Orc E R) (a0 : List pairOf) (a1 : ByteArray) : runF T (G N) live [] Try.f103 code (sp N) o0 (a0, a1, ()) = m0 N a0 a1 := by kernel_rfl
theorem G_ok (N : Nat) : GamOK Try.prog (G N) := gam_ok (l := [(114, [], impl_hash.sp N), (167, [168], slices_BinarySearchFunc_impl_pairOf_impl_pairOf_string__impl_pairAt_1.sp N)]) (⟨impl_hash.snd N, slices_BinarySearchFunc_impl_pairOf_impl_pairOf_string__impl_pairAt_1.snd N, trivial⟩)
theorem snd (N : Nat) : Sound Try.prog E 103 (sp N) :=
  Mir.sound T_OK (G_ok N) mixed Try.func103 (c := code) (by kernel_rfl) (by kernel_rfl) (sp N) (Nat.le_of_ble_eq_true (by kernel_rfl)) live [] (by
    rintro ⟨a0, a1, _⟩ r h
    exact ⟨N, 2, ((run N _ a0 a1).trans rfl).trans h⟩)
end impl_pairAt
namespace slices_Insert_impl_pairOf
theorem snd (N : Nat) : Sound Try.prog E 176 (sp N) :=
  insert_sound (E := E) (ty := (.st 146)) rfl (fun args W => run_callFunc_go Try.func176 (c := Try.f176.body.getD .skip) (by kernel_rfl) (by kernel_rfl) args W) Try.underlying139 (i := Try.t146) (by kernel_rfl) (z := Try.t146.zero.getD undef) (by kernel_rfl) (by kernel_rfl) (by kernel_rfl) (Nat.le_of_ble_eq_true (by kernel_rfl)) Go.Proofs.InsW176.ov Go.Proofs.InsW176.at_end Go.Proofs.InsW176.grow (by kernel_rfl) Go.Proofs.InsW176.shift
end slices_Insert_impl_pairOf
namespace impl_mapPut
noncomputable def code : Code := Try.f112.body.getD .skip
abbrev live : Live := []
noncomputable def G (N : Nat) : Ctx E := gam [(175, [], slices_Clone_impl_pairOf_impl_pairOf.sp N), (114, [], impl_hash.sp N), (103, [], impl_pairAt.sp N), (176, [], slices_Insert_impl_pairOf.sp N)]
noncomputable def m0 (N : Nat) (a0 : List pairOf) (a1 : ByteArray) (a2 : ByteArray) : Option R :=
  ob (slices_Clone_impl_pairOf_impl_pairOf.m N a0) fun y1 =>
  ob (impl_hash.m N a1) fun y2 =>
  ob (impl_pairAt.m N y1 a1) fun y3 =>
  bif y3.2 then
    bif (decide (0 ≤ y3.1)) then
    bif (decide (y3.1 < (y1.length : Int))) then
    some ((y1.set (Int.toNat y3.1) (pairOf.mk a1 a2 y2)), (0:Int))
    else none
    else none
  else
  bif ((y1.length : Int) == (40:Int)) then
    some (([] : List pairOf), (7:Int))
  else
  ob (slices_Insert_impl_pairOf.m N y1 y3.1 ([(pairOf.mk a1 a2 y2)])) fun y4 =>
  some (y4, (0:Int))
theorem run (N : Nat) (o0 : Orc E R) (a0 : List pairOf) (a1 : ByteArray) (a2 : ByteArray) : runF T (G N) live [] Try.f112 code (sp N) o0 (a0, a1, a2, ()) = m0 N a0 a1 a2 := by kernel_rfl
theorem G_ok (N : Nat) : GamOK Try.prog (G N) := gam_ok (l := [(175, [], slices_Clone_impl_pairOf_impl_pairOf.sp N), (114, [], impl_hash.sp N), (103, [], impl_pairAt.sp N), (176, [], slices_Insert_impl_pairOf.sp N)]) (⟨slices_Clone_impl_pairOf_impl_pairOf.snd N, impl_hash.snd N, impl_pairAt.snd N, slices_Insert_impl_pairOf.snd N, trivial⟩)
theorem snd (N : Nat) : Sound Try.prog E 112 (sp N) :=
  Mir.sound T_OK (G_ok N) mixed Try.func112 (c := code) (by kernel_rfl) (by kernel_rfl) (sp N) (Nat.le_of_ble_eq_true (by kernel_rfl)) live [] (by
    rintro ⟨a0, a1, a2, _⟩ r h
    exact ⟨N, 2, ((run N _ a0 a1 a2).trans rfl).trans h⟩)
end impl_mapPut
namespace impl_mapOf_1
noncomputable def code : Code := Try.f170.body.getD .skip
abbrev live : Live := []
noncomputable def G (N : Nat) : Ctx E := gam [(116, [], impl_bit.sp N)]
noncomputable def m0 (N : Nat) (a0 : pairOf) (a1 : Int) : Option R :=
  ob (impl_bit.m N a0.hash a1) fun y1 =>
  some (y1 == (1:Int))
theorem run (N : Nat) (o0 : Orc E R) (a0 : pairOf) (a1 : Int) : runF T (G N) live [] Try.f170 code (sp N) o0 (a0, a1, ()) = m0 N a0 a1 := by kernel_rfl
theorem G_ok (N : Nat) : GamOK Try.prog (G N) := gam_ok (l := [(116, [], impl_bit.sp N)]) (⟨impl_bit.snd N, trivial⟩)
theorem snd (N : Nat) : Sound Try.prog E 170 (sp N) :=
  Mir.sound T_OK (G_ok N) mixed Try.func170 (c := code) (by kernel_rfl) (by kernel_rfl) (sp N) (Nat.le_of_ble_eq_true (by kernel_rfl)) live [] (by
    rintro ⟨a0, a1, _⟩ r h
    exact ⟨N, 2, ((run N _ a0 a1).trans rfl).trans h⟩)
end impl_mapOf_1
namespace slices_IndexFunc_impl_pairOf_impl_pairOf__impl_mapOf_1
noncomputable def code : Code := Try.f169.body.getD .skip
abbrev live : Live := [(2, [0, 1, 7, 8])]
noncomputable def G (N : Nat) : Ctx E := gam [(170, [], impl_mapOf_1.sp N)]
noncomputable def loop2 : Code := codeAt code [1, 0, 1, 0]
noncomputable def body2 : Code := codeAt loop2 [0]
noncomputable def K2 (N : Nat) (o0 : Orc E R) : KT E R := kAt T (G N) live [] o0 code [1, 0, 1, 0] (kfin T Try.f169 (sp N))
noncomputable def St2 (a0 : List pairOf) (a1_0 : Int) : (Int × Int) → St E
  | (v1, v2) => { ρ := [(0, .c (.at (.ro 146 (.st 146) a0))), (1, .clo 170 [.at (.ptr 0 0)]), (7, .c (.at (.int .i64 v1))), (8, .c (.at (.int .i64 v2)))], H := [(0, .rbx [.int .i64 a1_0])], nx := 1, n := 19, pin := [] }
noncomputable def m0 (N : Nat) (a0 : List pairOf) (a1_0 : Int) (lp2 : Int × Int → Option R) : Option R :=
  lp2 ((a0.length : Int), (0:Int))
theorem run (N : Nat) (o0 : Orc E R) (a0 : List pairOf) (a1_0 : Int) : runF T (G N) live [] Try.f169 code (sp N) o0 (a0, (a1_0, ()), ()) = m0 N a0 a1_0 (fun a => o0 loop2 (K2 N o0) (St2 a0 a1_0 a)) := by kernel_rfl
theorem body2_0 (N : Nat) (o0 : Orc E R) (o1 : Orc E R) (q1 : St E → Option R) (a0 : List pairOf) (a1_0 : Int) (v1 : Int) (v2 : Int) : runA T (G N) live [] o1 body2 (St2 a0 a1_0 (v1, v2)) (kloop [0, 1, 7, 8] q1 (K2 N o0)) = step2 N a0 a1_0 (fun a => q1 (St2 a0 a1_0 a)) (v1, v2) := by kernel_rfl
theorem lp2_eq (N : Nat) (a0 : List pairOf) (a1_0 : Int) (a : Int × Int) : (orc T (G N) live [] N 2) loop2 (K2 N (orc T (G N) live [] N 2)) (St2 a0 a1_0 a) = lp2 N a0 a1_0 a :=
  (orc_loop (b := body2) (live := [0, 1, 7, 8]) (by kernel_rfl)).trans (iter_eq (St2 a0 a1_0) _ _ (fun q1 a => by
    have hc := congrFun (congrFun (rfl : (step2 N a0 a1_0) = (step2 N a0 a1_0)) (fun a => q1 (St2 a0 a1_0 a))) a
    obtain ⟨u0, u1⟩ := a
    exact (body2_0 N (orc T (G N) live [] N 2) (orc T (G N) live [] N 1) q1 a0 a1_0 u0 u1).trans hc) N a)
theorem G_ok (N : Nat) : GamOK Try.prog (G N) := gam_ok (l := [(170, [], impl_mapOf_1.sp N)]) (⟨impl_mapOf_1.snd N, trivial⟩)
theorem snd (N : Nat) : Sound Try.prog E 169 (sp N) :=
  Mir.sound T_OK (G_ok N) mixed Try.func169 (c := code) (by kernel_rfl) (by kernel_rfl) (sp N) (Nat.le_of_ble_eq_true (by kernel_rfl)) live [] (by
    rintro ⟨a0, ⟨a1_0, _⟩, _⟩ r h
    exact ⟨N, 2, ((run N _ a0 a1_0).trans (congrArg (m0 N a0 a1_0) (funext fun a => lp2_eq N a0 a1_0 a))).trans h⟩)
end slices_IndexFunc_impl_pairOf_impl_pairOf__impl_mapOf_1
namespace impl_mapOf
noncomputable def code : Code := Try.f104.body.getD .skip
abbrev live : Live := [(6, [0, 3, 4])]
noncomputable def G (N : Nat) (slf : (List pairOf) → Int → Option R) : Ctx E := gam [(116, [], impl_bit.sp N), (169, [170], slices_IndexFunc_impl_pairOf_impl_pairOf__impl_mapOf_1.sp N), (104, [], spf slf)]
noncomputable def loop6 : Code := codeAt code [1, 1, 0, 0]
noncomputable def body6 : Code := codeAt loop6 [0]
noncomputable def K6 (N : Nat) (slf : (List pairOf) → Int → Option R) (o0 : Orc E R) : KT E R := kAt TD (G N slf) live [] o0 code [1, 1, 0, 0] (kfin TD Try.f104 (spf (mb N slf)))
noncomputable def St6 (slf : (List pairOf) → Int → Option R) (a0 : List pairOf) (a1 : Int) : (Int × ByteArray × ByteArray × Int) → St E
  | (v1, v2, v3, v4) => { ρ := [(0, .c (.at (.ro 146 (.st 146) a0))), (3, .c (.at (.ptr 0 0))), (4, .c (.at (.ptr 1 0)))], H := [(0, .box 3 [.int .i64 v1]), (1, .box 71 [.str v2, .str v3, .int .i64 v4, .nils])], nx := 2, n := 58, pin := [] }
noncomputable def m0 (N : Nat) (slf : (List pairOf) → Int → Option R) (a0 : List pairOf) (a1 : Int) (lp6 : Int × ByteArray × ByteArray × Int → Option R) : Option R :=
  bif ((a0.length : Int) == (0:Int)) then
    some (Branch.mk ByteArray.empty ByteArray.empty (0:Int) ([] : List Branch))
  else
  bif ((a0.length : Int) == (1:Int)) then
    bif (decide (0 ≤ (0:Int))) then
    bif (decide ((0:Int) < (a0.length : Int))) then
    bif (decide (0 ≤ (0:Int))) then
    bif (decide ((0:Int) < (a0.length : Int))) then
    some (Branch.mk ((a0.getD 0 pairOf.dz).key) ((a0.getD 0 pairOf.dz).value) (256:Int) ([] : List Branch))
    else none
    else none
    else none
    else none
  else
  lp6 (a1, ByteArray.empty, ByteArray.empty, (0:Int))
theorem run (N : Nat) (o0 : Orc E R) (slf : (List pairOf) → Int → Option R) (a0 : List pairOf) (a1 : Int) : runF TD (G N slf) live [] Try.f104 code (spf (mb N slf)) o0 (a0, a1, ()) = m0 N slf a0 a1 (fun a => o0 loop6 (K6 N slf o0) (St6 slf a0 a1 a)) := by kernel_rfl
theorem body6_0 (N : Nat) (o0 : Orc E R) (o1 : Orc E R) (q1 : St E → Option R) (slf : (List pairOf) → Int → Option R) (a0 : List pairOf) (a1 : Int) (v1 : Int) (v2 : ByteArray) (v3 : ByteArray) (v4 : Int) : runA TD (G N slf) live [] o1 body6 (St6 slf a0 a1 (v1, v2, v3, v4)) (kloop [0, 3, 4] q1 (K6 N slf o0)) = step6 N slf a0 a1 (fun a => q1 (St6 slf a0 a1 a)) (v1, v2, v3, v4) := by kernel_rfl
theorem lp6_eq (N : Nat) (slf : (List pairOf) → Int → Option R) (a0 : List pairOf) (a1 : Int) (a : Int × ByteArray × ByteArray × Int) : (orc TD (G N slf) live [] N 2) loop6 (K6 N slf (orc TD (G N slf) live [] N 2)) (St6 slf a0 a1 a) = lp6 N slf a0 a1 a :=
  (orc_loop (b := body6) (live := [0, 3, 4]) (by kernel_rfl)).trans (iter_eq (St6 slf a0 a1) _ _ (fun q1 a => by
    have hc := congrFun (congrFun (rfl : (step6 N slf a0 a1) = (step6 N slf a0 a1)) (fun a => q1 (St6 slf a0 a1 a))) a
    obtain ⟨u0, u1, u2, u3⟩ := a
    exact (body6_0 N (orc TD (G N slf) live [] N 2) (orc TD (G N slf) live [] N 1) q1 slf a0 a1 u0 u1 u2 u3).trans hc) N a)
theorem G_ok (N : Nat) (slf : (List pairOf) → Int → Option R) (hs : Sound Try.prog E 104 (spf slf)) : GamOK Try.prog (G N slf) := gam_ok (l := [(116, [], impl_bit.sp N), (169, [170], slices_IndexFunc_impl_pairOf_impl_pairOf__impl_mapOf_1.sp N), (104, [], spf slf)]) (⟨impl_bit.snd N, slices_IndexFunc_impl_pairOf_impl_pairOf__impl_mapOf_1.snd N, hs, trivial⟩)
theorem sndF (N : Nat) : ∀ n, Sound Try.prog E 104 (spf (mF N n))
  | 0 => sound_none Try.func104 (c := code) (by kernel_rfl) (by kernel_rfl) (spf (mF N 0)) (fun _ => rfl)
  | n + 1 => by
    have hr := fun (a0 : List pairOf) (a1 : Int) => (run N (orc TD (G N (mF N n)) live [] N 2) (mF N n) a0 a1).trans (congrArg (m0 N (mF N n) a0 a1) (funext fun a => lp6_eq N (mF N n) a0 a1 a))
    exact Mir.sound TD_OK (G_ok N (mF N n) (sndF N n)) mixed Try.func104 (c := code) (by kernel_rfl) (by kernel_rfl) (spf (mF N (n + 1))) (Nat.le_of_ble_eq_true (by kernel_rfl)) live [] (by
      rintro ⟨a0, a1, _⟩ r h
      exact ⟨N, 2, (hr a0 a1).trans h⟩)
theorem snd (N : Nat) : Sound Try.prog E 104 (sp N) := sndF N N
end impl_mapOf
namespace impl_MapPut
noncomputable def code : Code := Try.f49.body.getD .skip
abbrev live : Live := []
noncomputable def G (N : Nat) : Ctx E := gam [(83, [], impl_isText.sp N), (102, [], impl_mapCode.sp N), (111, [], impl_isValue.sp N), (112, [], impl_mapPut.sp N), (104, [], impl_mapOf.sp N)]
noncomputable def m0 (N : Nat) (a0 : Branch) (a1 : ByteArray) (a2 : ByteArray) : Option R :=
  ob (impl_isText.m N ([a2])) fun y1 =>
  bif (!y1) then
    some ((Branch.mk ByteArray.empty ByteArray.empty (0:Int) ([] : List Branch)), (2:Int))
  else
  ob (impl_mapCode.m N (Branch.mk a0.Key a0.Value a0.At a0.Kids) a1) fun y2 =>
  bif (y2.2 != (0:Int)) then
    some ((Branch.mk ByteArray.empty ByteArray.empty (0:Int) ([] : List Branch)), y2.2)
  else
  ob (impl_isValue.m N a2) fun y3 =>
  bif (!y3) then
    some ((Branch.mk ByteArray.empty ByteArray.empty (0:Int) ([] : List Branch)), (1:Int))
  else
  ob (impl_mapPut.m N y2.1 a1 a2) fun y4 =>
  ob (impl_mapOf.m N y4.1 (0:Int)) fun y5 =>
  some ((Branch.mk y5.Key y5.Value y5.At y5.Kids), y4.2)
theorem run (N : Nat) (o0 : Orc E R) (a0 : Branch) (a1 : ByteArray) (a2 : ByteArray) : runF TD (G N) live [] Try.f49 code (sp N) o0 (a0, a1, a2, ()) = m0 N a0 a1 a2 := by kernel_rfl
theorem G_ok (N : Nat) : GamOK Try.prog (G N) := gam_ok (l := [(83, [], impl_isText.sp N), (102, [], impl_mapCode.sp N), (111, [], impl_isValue.sp N), (112, [], impl_mapPut.sp N), (104, [], impl_mapOf.sp N)]) (⟨impl_isText.snd N, impl_mapCode.snd N, impl_isValue.snd N, impl_mapPut.snd N, impl_mapOf.snd N, trivial⟩)
theorem snd (N : Nat) : Sound Try.prog E 49 (sp N) :=
  Mir.sound TD_OK (G_ok N) mixed Try.func49 (c := code) (by kernel_rfl) (by kernel_rfl) (sp N) (Nat.le_of_ble_eq_true (by kernel_rfl)) live [] (by
    rintro ⟨a0, a1, a2, _⟩ r h
    exact ⟨N, 2, ((run N _ a0 a1 a2).trans rfl).trans h⟩)
end impl_MapPut
namespace laws_eqBranchS
noncomputable def code : Code := Try.f106.body.getD .skip
abbrev live : Live := [(4, [0, 1, 5])]
noncomputable def G (N : Nat) (x_laws_eqBranch : Branch → Branch → Option laws_eqBranch.R) : Ctx E := gam [(45, [], laws_eqBranch.spf x_laws_eqBranch)]
noncomputable def loop4 : Code := codeAt code [1, 1, 0, 1, 0]
noncomputable def body4 : Code := codeAt loop4 [0]
noncomputable def K4 (N : Nat) (x_laws_eqBranch : Branch → Branch → Option laws_eqBranch.R) (o0 : Orc E R) : KT E R := kAt T (G N x_laws_eqBranch) live [] o0 code [1, 1, 0, 1, 0] (kfin T Try.f106 (sp N x_laws_eqBranch))
noncomputable def St4 (x_laws_eqBranch : Branch → Branch → Option laws_eqBranch.R) (a0 : List Branch) (a1 : List Branch) : Int → St E
  | v2 => { ρ := [(0, .c (.at (.ro 71 (.st 71) a0))), (1, .c (.at (.ro 71 (.st 71) a1))), (5, .c (.at (.int .i64 v2)))], H := [], nx := 0, n := 27, pin := [] }
noncomputable def m0 (N : Nat) (x_laws_eqBranch : Branch → Branch → Option laws_eqBranch.R) (a0 : List Branch) (a1 : List Branch) (lp4 : Int → Option R) : Option R :=
  bif ((a0.length : Int) != (a1.length : Int)) then
    some false
  else
  lp4 (0:Int)
theorem run (N : Nat) (o0 : Orc E R) (x_laws_eqBranch : Branch → Branch → Option laws_eqBranch.R) (a0 : List Branch) (a1 : List Branch) : runF T (G N x_laws_eqBranch) live [] Try.f106 code (sp N x_laws_eqBranch) o0 (a0, a1, ()) = m0 N x_laws_eqBranch a0 a1 (fun a => o0 loop4 (K4 N x_laws_eqBranch o0) (St4 x_laws_eqBranch a0 a1 a)) := by kernel_rfl
theorem body4_0 (N : Nat) (o0 : Orc E R) (o1 : Orc E R) (q1 : St E → Option R) (x_laws_eqBranch : Branch → Branch → Option laws_eqBranch.R) (a0 : List Branch) (a1 : List Branch) (v2 : Int) : runA T (G N x_laws_eqBranch) live [] o1 body4 (St4 x_laws_eqBranch a0 a1 v2) (kloop [0, 1, 5] q1 (K4 N x_laws_eqBranch o0)) = step4 N x_laws_eqBranch a0 a1 (fun a => q1 (St4 x_laws_eqBranch a0 a1 a)) v2 := by kernel_rfl
theorem lp4_eq (N : Nat) (x_laws_eqBranch : Branch → Branch → Option laws_eqBranch.R) (a0 : List Branch) (a1 : List Branch) (a : Int) : (orc T (G N x_laws_eqBranch) live [] N 2) loop4 (K4 N x_laws_eqBranch (orc T (G N x_laws_eqBranch) live [] N 2)) (St4 x_laws_eqBranch a0 a1 a) = lp4 N x_laws_eqBranch a0 a1 a :=
  (orc_loop (b := body4) (live := [0, 1, 5]) (by kernel_rfl)).trans (iter_eq (St4 x_laws_eqBranch a0 a1) _ _ (fun q1 a => by
    have hc := congrFun (congrFun (rfl : (step4 N x_laws_eqBranch a0 a1) = (step4 N x_laws_eqBranch a0 a1)) (fun a => q1 (St4 x_laws_eqBranch a0 a1 a))) a
    exact (body4_0 N (orc T (G N x_laws_eqBranch) live [] N 2) (orc T (G N x_laws_eqBranch) live [] N 1) q1 x_laws_eqBranch a0 a1 a).trans hc) N a)
theorem G_ok (N : Nat) (x_laws_eqBranch : Branch → Branch → Option laws_eqBranch.R) (hx_laws_eqBranch : Sound Try.prog E 45 (laws_eqBranch.spf x_laws_eqBranch)) : GamOK Try.prog (G N x_laws_eqBranch) := gam_ok (l := [(45, [], laws_eqBranch.spf x_laws_eqBranch)]) (⟨hx_laws_eqBranch, trivial⟩)
theorem snd (N : Nat) (x_laws_eqBranch : Branch → Branch → Option laws_eqBranch.R) (hx_laws_eqBranch : Sound Try.prog E 45 (laws_eqBranch.spf x_laws_eqBranch)) : Sound Try.prog E 106 (sp N x_laws_eqBranch) :=
  Mir.sound T_OK (G_ok N x_laws_eqBranch hx_laws_eqBranch) mixed Try.func106 (c := code) (by kernel_rfl) (by kernel_rfl) (sp N x_laws_eqBranch) (Nat.le_of_ble_eq_true (by kernel_rfl)) live [] (by
    rintro ⟨a0, a1, _⟩ r h
    exact ⟨N, 2, ((run N _ x_laws_eqBranch a0 a1).trans (congrArg (m0 N x_laws_eqBranch a0 a1) (funext fun a => lp4_eq N x_laws_eqBranch a0 a1 a))).trans h⟩)
end laws_eqBranchS
namespace laws_eqBranch
noncomputable def code : Code := Try.f45.body.getD .skip
abbrev live : Live := []
noncomputable def G (N : Nat) (slf : Branch → Branch → Option R) : Ctx E := gam [(106, [], laws_eqBranchS.sp N slf)]
noncomputable def m0 (N : Nat) (slf : Branch → Branch → Option R) (a0 : Branch) (a1 : Branch) : Option R :=
  bif (!seq a0.Key a1.Key) then
    some false
  else
  bif (!seq a0.Value a1.Value) then
    some false
  else
  bif (a0.At != a1.At) then
    some false
  else
  ob (laws_eqBranchS.m N slf a0.Kids a1.Kids) fun y1 =>
  bif (!y1) then
    some false
  else
  some true
theorem run (N : Nat) (o0 : Orc E R) (slf : Branch → Branch → Option R) (a0 : Branch) (a1 : Branch) : runF T (G N slf) live [] Try.f45 code (spf (mb N slf)) o0 (a0, a1, ()) = m0 N slf a0 a1 := by kernel_rfl
theorem G_ok (N : Nat) (slf : Branch → Branch → Option R) (hs : Sound Try.prog E 45 (spf slf)) : GamOK Try.prog (G N slf) := gam_ok (l := [(106, [], laws_eqBranchS.sp N slf)]) (⟨laws_eqBranchS.snd N slf hs, trivial⟩)
theorem sndF (N : Nat) : ∀ n, Sound Try.prog E 45 (spf (mF N n))
  | 0 => sound_none Try.func45 (c := code) (by kernel_rfl) (by kernel_rfl) (spf (mF N 0)) (fun _ => rfl)
  | n + 1 => by
    have hr := fun (a0 : Branch) (a1 : Branch) => (run N (orc T (G N (mF N n)) live [] N 2) (mF N n) a0 a1).trans rfl
    exact Mir.sound T_OK (G_ok N (mF N n) (sndF N n)) mixed Try.func45 (c := code) (by kernel_rfl) (by kernel_rfl) (spf (mF N (n + 1))) (Nat.le_of_ble_eq_true (by kernel_rfl)) live [] (by
      rintro ⟨a0, a1, _⟩ r h
      exact ⟨N, 2, (hr a0 a1).trans h⟩)
theorem snd (N : Nat) : Sound Try.prog E 45 (sp N) := sndF N N
end laws_eqBranch
namespace laws_markText
noncomputable def code : Code := Try.f93.body.getD .skip
abbrev live : Live := [(4, [0, 3])]
noncomputable def G (N : Nat) : Ctx E := gam []
noncomputable def loop4 : Code := codeAt code [1, 1, 1, 0, 0]
noncomputable def body4 : Code := codeAt loop4 [0]
noncomputable def K4 (N : Nat) (o0 : Orc E R) : KT E R := kAt T (G N) live [] o0 code [1, 1, 1, 0, 0] (kfin T Try.f93 (sp N))
noncomputable def St4 (a0 : Int) : (Int × ByteArray) → St E
  | (v0, v1) => { ρ := [(0, .c (.at (.int .i64 v0))), (3, .c (.at (.str v1)))], H := [], nx := 0, n := 20, pin := [] }
noncomputable def m0 (N : Nat) (a0 : Int) (lp4 : Int × ByteArray → Option R) : Option R :=
  bif (decide (a0 ≤ (0:Int))) then
    some (⟨#[109, 48]⟩ : ByteArray)
  else
  lp4 (a0, ByteArray.empty)
theorem run (N : Nat) (o0 : Orc E R) (a0 : Int) : runF T (G N) live [] Try.f93 code (sp N) o0 (a0, ()) = m0 N a0 (fun a => o0 loop4 (K4 N o0) (St4 a0 a)) := by kernel_rfl
theorem body4_0 (N : Nat) (o0 : Orc E R) (o1 : Orc E R) (q1 : St E → Option R) (a0 : Int) (v0 : Int) (v1 : ByteArray) : runA T (G N) live [] o1 body4 (St4 a0 (v0, v1)) (kloop [0, 3] q1 (K4 N o0)) = step4 N a0 (fun a => q1 (St4 a0 a)) (v0, v1) := by kernel_rfl
theorem lp4_eq (N : Nat) (a0 : Int) (a : Int × ByteArray) : (orc T (G N) live [] N 2) loop4 (K4 N (orc T (G N) live [] N 2)) (St4 a0 a) = lp4 N a0 a :=
  (orc_loop (b := body4) (live := [0, 3]) (by kernel_rfl)).trans (iter_eq (St4 a0) _ _ (fun q1 a => by
    have hc := congrFun (congrFun (rfl : (step4 N a0) = (step4 N a0)) (fun a => q1 (St4 a0 a))) a
    obtain ⟨u0, u1⟩ := a
    exact (body4_0 N (orc T (G N) live [] N 2) (orc T (G N) live [] N 1) q1 a0 u0 u1).trans hc) N a)
theorem G_ok (N : Nat) : GamOK Try.prog (G N) := gam_ok (l := []) (trivial)
theorem snd (N : Nat) : Sound Try.prog E 93 (sp N) :=
  Mir.sound T_OK (G_ok N) mixed Try.func93 (c := code) (by kernel_rfl) (by kernel_rfl) (sp N) (Nat.le_of_ble_eq_true (by kernel_rfl)) live [] (by
    rintro ⟨a0, _⟩ r h
    exact ⟨N, 2, ((run N _ a0).trans (congrArg (m0 N a0) (funext fun a => lp4_eq N a0 a))).trans h⟩)
end laws_markText
namespace laws_markBranchS
noncomputable def code : Code := Try.f107.body.getD .skip
abbrev live : Live := [(2, [0, 1, 5])]
noncomputable def G (N : Nat) (slf : (List Branch) → Int → Option R) : Ctx E := gam [(93, [], laws_markText.sp N), (107, [], spf slf)]
noncomputable def loop2 : Code := codeAt code [1, 0, 1, 0]
noncomputable def body2 : Code := codeAt loop2 [0]
noncomputable def K2 (N : Nat) (slf : (List Branch) → Int → Option R) (o0 : Orc E R) : KT E R := kAt TD (G N slf) live [] o0 code [1, 0, 1, 0] (kfin TD Try.f107 (spf (mb N slf)))
noncomputable def St2 (slf : (List Branch) → Int → Option R) (a0 : List Branch) (a1 : Int) : (Int × Int × (List Branch)) → St E
  | (v0, v1, v2) => { ρ := [(0, .c (.at (.own 0))), (1, .c (.at (.int .i64 v0))), (5, .c (.at (.int .i64 v1)))], H := [(0, .drow 71 (.st 71) v2 1), (1, .hdr)], nx := 2, n := 43, pin := [0] }
noncomputable def m0 (N : Nat) (slf : (List Branch) → Int → Option R) (a0 : List Branch) (a1 : Int) (lp2 : Int × Int × (List Branch) → Option R) : Option R :=
  lp2 (a1, (0:Int), a0)
theorem run (N : Nat) (o0 : Orc E R) (slf : (List Branch) → Int → Option R) (a0 : List Branch) (a1 : Int) : runF TD (G N slf) live [] Try.f107 code (spf (mb N slf)) o0 (a0, a1, ()) = m0 N slf a0 a1 (fun a => o0 loop2 (K2 N slf o0) (St2 slf a0 a1 a)) := by kernel_rfl
theorem body2_0 (N : Nat) (o0 : Orc E R) (o1 : Orc E R) (q1 : St E → Option R) (slf : (List Branch) → Int → Option R) (a0 : List Branch) (a1 : Int) (v0 : Int) (v1 : Int) (v2 : List Branch) : runA TD (G N slf) live [] o1 body2 (St2 slf a0 a1 (v0, v1, v2)) (kloop [0, 1, 5] q1 (K2 N slf o0)) = step2 N slf a0 a1 (fun a => q1 (St2 slf a0 a1 a)) (v0, v1, v2) := by kernel_rfl
theorem lp2_eq (N : Nat) (slf : (List Branch) → Int → Option R) (a0 : List Branch) (a1 : Int) (a : Int × Int × (List Branch)) : (orc TD (G N slf) live [] N 2) loop2 (K2 N slf (orc TD (G N slf) live [] N 2)) (St2 slf a0 a1 a) = lp2 N slf a0 a1 a :=
  (orc_loop (b := body2) (live := [0, 1, 5]) (by kernel_rfl)).trans (iter_eq (St2 slf a0 a1) _ _ (fun q1 a => by
    have hc := congrFun (congrFun (rfl : (step2 N slf a0 a1) = (step2 N slf a0 a1)) (fun a => q1 (St2 slf a0 a1 a))) a
    obtain ⟨u0, u1, u2⟩ := a
    exact (body2_0 N (orc TD (G N slf) live [] N 2) (orc TD (G N slf) live [] N 1) q1 slf a0 a1 u0 u1 u2).trans hc) N a)
theorem G_ok (N : Nat) (slf : (List Branch) → Int → Option R) (hs : Sound Try.prog E 107 (spf slf)) : GamOK Try.prog (G N slf) := gam_ok (l := [(93, [], laws_markText.sp N), (107, [], spf slf)]) (⟨laws_markText.snd N, hs, trivial⟩)
theorem sndF (N : Nat) : ∀ n, Sound Try.prog E 107 (spf (mF N n))
  | 0 => sound_none Try.func107 (c := code) (by kernel_rfl) (by kernel_rfl) (spf (mF N 0)) (fun _ => rfl)
  | n + 1 => by
    have hr := fun (a0 : List Branch) (a1 : Int) => (run N (orc TD (G N (mF N n)) live [] N 2) (mF N n) a0 a1).trans (congrArg (m0 N (mF N n) a0 a1) (funext fun a => lp2_eq N (mF N n) a0 a1 a))
    exact Mir.sound TD_OK (G_ok N (mF N n) (sndF N n)) mixed Try.func107 (c := code) (by kernel_rfl) (by kernel_rfl) (spf (mF N (n + 1))) (Nat.le_of_ble_eq_true (by kernel_rfl)) live [] (by
      rintro ⟨a0, a1, _⟩ r h
      exact ⟨N, 2, (hr a0 a1).trans h⟩)
theorem snd (N : Nat) : Sound Try.prog E 107 (sp N) := sndF N N
end laws_markBranchS
namespace laws_markBranch
noncomputable def code : Code := Try.f46.body.getD .skip
abbrev live : Live := []
noncomputable def G (N : Nat) : Ctx E := gam [(107, [], laws_markBranchS.sp N)]
noncomputable def m0 (N : Nat) (a0 : Branch) (a1 : Int) : Option R :=
  ob (laws_markBranchS.m N a0.Kids a1) fun y1 =>
  some (y1.1, (Branch.mk a0.Key a0.Value a0.At y1.2))
theorem run (N : Nat) (o0 : Orc E R) (a0 : Branch) (a1 : Int) : runF TD (G N) live [] Try.f46 code (sp N) o0 (a0, a1, ()) = m0 N a0 a1 := by kernel_rfl
theorem G_ok (N : Nat) : GamOK Try.prog (G N) := gam_ok (l := [(107, [], laws_markBranchS.sp N)]) (⟨laws_markBranchS.snd N, trivial⟩)
theorem snd (N : Nat) : Sound Try.prog E 46 (sp N) :=
  Mir.sound TD_OK (G_ok N) mixed Try.func46 (c := code) (by kernel_rfl) (by kernel_rfl) (sp N) (Nat.le_of_ble_eq_true (by kernel_rfl)) live [] (by
    rintro ⟨a0, a1, _⟩ r h
    exact ⟨N, 2, ((run N _ a0 a1).trans rfl).trans h⟩)
end laws_markBranch
namespace laws_heldBranchS
noncomputable def code : Code := Try.f108.body.getD .skip
abbrev live : Live := [(2, [0, 1, 5])]
noncomputable def G (N : Nat) (slf : (List Branch) → Int → Option R) : Ctx E := gam [(93, [], laws_markText.sp N), (108, [], spf slf)]
noncomputable def loop2 : Code := codeAt code [1, 0, 1, 0]
noncomputable def body2 : Code := codeAt loop2 [0]
noncomputable def K2 (N : Nat) (slf : (List Branch) → Int → Option R) (o0 : Orc E R) : KT E R := kAt T (G N slf) live [] o0 code [1, 0, 1, 0] (kfin T Try.f108 (spf (mb N slf)))
noncomputable def St2 (slf : (List Branch) → Int → Option R) (a0 : List Branch) (a1 : Int) : (Int × Int) → St E
  | (v1, v2) => { ρ := [(0, .c (.at (.ro 71 (.st 71) a0))), (1, .c (.at (.int .i64 v1))), (5, .c (.at (.int .i64 v2)))], H := [], nx := 0, n := 51, pin := [] }
noncomputable def m0 (N : Nat) (slf : (List Branch) → Int → Option R) (a0 : List Branch) (a1 : Int) (lp2 : Int × Int → Option R) : Option R :=
  lp2 (a1, (0:Int))
theorem run (N : Nat) (o0 : Orc E R) (slf : (List Branch) → Int → Option R) (a0 : List Branch) (a1 : Int) : runF T (G N slf) live [] Try.f108 code (spf (mb N slf)) o0 (a0, a1, ()) = m0 N slf a0 a1 (fun a => o0 loop2 (K2 N slf o0) (St2 slf a0 a1 a)) := by kernel_rfl
theorem body2_0 (N : Nat) (o0 : Orc E R) (o1 : Orc E R) (q1 : St E → Option R) (slf : (List Branch) → Int → Option R) (a0 : List Branch) (a1 : Int) (v1 : Int) (v2 : Int) : runA T (G N slf) live [] o1 body2 (St2 slf a0 a1 (v1, v2)) (kloop [0, 1, 5] q1 (K2 N slf o0)) = step2 N slf a0 a1 (fun a => q1 (St2 slf a0 a1 a)) (v1, v2) := by kernel_rfl
theorem lp2_eq (N : Nat) (slf : (List Branch) → Int → Option R) (a0 : List Branch) (a1 : Int) (a : Int × Int) : (orc T (G N slf) live [] N 2) loop2 (K2 N slf (orc T (G N slf) live [] N 2)) (St2 slf a0 a1 a) = lp2 N slf a0 a1 a :=
  (orc_loop (b := body2) (live := [0, 1, 5]) (by kernel_rfl)).trans (iter_eq (St2 slf a0 a1) _ _ (fun q1 a => by
    have hc := congrFun (congrFun (rfl : (step2 N slf a0 a1) = (step2 N slf a0 a1)) (fun a => q1 (St2 slf a0 a1 a))) a
    obtain ⟨u0, u1⟩ := a
    exact (body2_0 N (orc T (G N slf) live [] N 2) (orc T (G N slf) live [] N 1) q1 slf a0 a1 u0 u1).trans hc) N a)
theorem G_ok (N : Nat) (slf : (List Branch) → Int → Option R) (hs : Sound Try.prog E 108 (spf slf)) : GamOK Try.prog (G N slf) := gam_ok (l := [(93, [], laws_markText.sp N), (108, [], spf slf)]) (⟨laws_markText.snd N, hs, trivial⟩)
theorem sndF (N : Nat) : ∀ n, Sound Try.prog E 108 (spf (mF N n))
  | 0 => sound_none Try.func108 (c := code) (by kernel_rfl) (by kernel_rfl) (spf (mF N 0)) (fun _ => rfl)
  | n + 1 => by
    have hr := fun (a0 : List Branch) (a1 : Int) => (run N (orc T (G N (mF N n)) live [] N 2) (mF N n) a0 a1).trans (congrArg (m0 N (mF N n) a0 a1) (funext fun a => lp2_eq N (mF N n) a0 a1 a))
    exact Mir.sound T_OK (G_ok N (mF N n) (sndF N n)) mixed Try.func108 (c := code) (by kernel_rfl) (by kernel_rfl) (spf (mF N (n + 1))) (Nat.le_of_ble_eq_true (by kernel_rfl)) live [] (by
      rintro ⟨a0, a1, _⟩ r h
      exact ⟨N, 2, (hr a0 a1).trans h⟩)
theorem snd (N : Nat) : Sound Try.prog E 108 (sp N) := sndF N N
end laws_heldBranchS
namespace laws_heldBranch
noncomputable def code : Code := Try.f47.body.getD .skip
abbrev live : Live := []
noncomputable def G (N : Nat) : Ctx E := gam [(108, [], laws_heldBranchS.sp N)]
noncomputable def m0 (N : Nat) (a0 : Branch) (a1 : Int) : Option R :=
  ob (laws_heldBranchS.m N a0.Kids a1) fun y1 =>
  bif (decide (y1 < (0:Int))) then
    some (-1:Int)
  else
  some y1
theorem run (N : Nat) (o0 : Orc E R) (a0 : Branch) (a1 : Int) : runF T (G N) live [] Try.f47 code (sp N) o0 (a0, a1, ()) = m0 N a0 a1 := by kernel_rfl
theorem G_ok (N : Nat) : GamOK Try.prog (G N) := gam_ok (l := [(108, [], laws_heldBranchS.sp N)]) (⟨laws_heldBranchS.snd N, trivial⟩)
theorem snd (N : Nat) : Sound Try.prog E 47 (sp N) :=
  Mir.sound T_OK (G_ok N) mixed Try.func47 (c := code) (by kernel_rfl) (by kernel_rfl) (sp N) (Nat.le_of_ble_eq_true (by kernel_rfl)) live [] (by
    rintro ⟨a0, a1, _⟩ r h
    exact ⟨N, 2, ((run N _ a0 a1).trans rfl).trans h⟩)
end laws_heldBranch
namespace laws_FnExactMapPut
noncomputable def code : Code := Try.f7.body.getD .skip
abbrev live : Live := []
noncomputable def G (N : Nat) : Ctx E := gam [(41, [], laws_szBranch.sp N), (43, [], laws_toBranch.sp N), (48, [], spec_MapPut.sp N), (49, [], impl_MapPut.sp N), (45, [], laws_eqBranch.sp N), (46, [], laws_markBranch.sp N), (47, [], laws_heldBranch.sp N)]
noncomputable def m0 (N : Nat) (a0 : Branch) (a1 : ByteArray) (a2 : ByteArray) : Option R :=
  bif (decide ((a1.size : Int) > (1048576:Int))) then
    some true
  else
  bif (decide ((a2.size : Int) > (1048576:Int))) then
    some true
  else
  ob (laws_szBranch.m N (Branch.mk a0.Key a0.Value a0.At a0.Kids) (1048576:Int)) fun y1 =>
  bif (decide (y1 < (0:Int))) then
    some true
  else
  ob (laws_toBranch.m N (Branch.mk a0.Key a0.Value a0.At a0.Kids)) fun y2 =>
  ob (spec_MapPut.m N (Branch.mk y2.Key y2.Value y2.At y2.Kids) a1 a2) fun y3 =>
  ob (laws_toBranch.m N (Branch.mk a0.Key a0.Value a0.At a0.Kids)) fun y4 =>
  ob (impl_MapPut.m N (Branch.mk y4.Key y4.Value y4.At y4.Kids) a1 a2) fun y5 =>
  ob (laws_eqBranch.m N (Branch.mk y5.1.Key y5.1.Value y5.1.At y5.1.Kids) (Branch.mk y3.1.Key y3.1.Value y3.1.At y3.1.Kids)) fun y6 =>
  bif (!y6) then
    some false
  else
  bif (bif false then true else (y5.2 != y3.2)) then
    some false
  else
  ob (laws_toBranch.m N (Branch.mk a0.Key a0.Value a0.At a0.Kids)) fun y7 =>
  ob (laws_eqBranch.m N (Branch.mk y4.Key y4.Value y4.At y4.Kids) (Branch.mk y7.Key y7.Value y7.At y7.Kids)) fun y8 =>
  bif (!y8) then
    some false
  else
  ob (laws_markBranch.m N (Branch.mk y4.Key y4.Value y4.At y4.Kids) (1:Int)) fun y9 =>
  bif (decide (y9.1 < (0:Int))) then
    some false
  else
  ob (laws_eqBranch.m N (Branch.mk y5.1.Key y5.1.Value y5.1.At y5.1.Kids) (Branch.mk y3.1.Key y3.1.Value y3.1.At y3.1.Kids)) fun y10 =>
  bif (bif false then true else (!y10)) then
    some false
  else
  bif (bif false then true else (y5.2 != y3.2)) then
    some false
  else
  ob (laws_markBranch.m N (Branch.mk y5.1.Key y5.1.Value y5.1.At y5.1.Kids) (1:Int)) fun y11 =>
  ob (laws_heldBranch.m N (Branch.mk y5.1.Key y5.1.Value y5.1.At y11.2.Kids) (1:Int)) fun y12 =>
  bif (decide (y12 < (0:Int))) then
    some false
  else
  bif (y12 != y11.1) then
    some false
  else
  ob (laws_toBranch.m N (Branch.mk a0.Key a0.Value a0.At a0.Kids)) fun y13 =>
  ob (impl_MapPut.m N (Branch.mk y13.Key y13.Value y13.At y13.Kids) a1 a2) fun y14 =>
  ob (laws_eqBranch.m N (Branch.mk y14.1.Key y14.1.Value y14.1.At y14.1.Kids) (Branch.mk y3.1.Key y3.1.Value y3.1.At y3.1.Kids)) fun y15 =>
  bif (!y15) then
    some false
  else
  bif (bif false then true else (y14.2 != y3.2)) then
    some false
  else
  ob (laws_heldBranch.m N (Branch.mk y5.1.Key y5.1.Value y5.1.At y11.2.Kids) (1:Int)) fun y16 =>
  bif (decide (y16 < (0:Int))) then
    some false
  else
  bif (y16 != y11.1) then
    some false
  else
  some true
theorem run (N : Nat) (o0 : Orc E R) (a0 : Branch) (a1 : ByteArray) (a2 : ByteArray) : runF T (G N) live [] Try.f7 code (sp N) o0 (a0, a1, a2, ()) = m0 N a0 a1 a2 := by kernel_rfl
theorem G_ok (N : Nat) : GamOK Try.prog (G N) := gam_ok (l := [(41, [], laws_szBranch.sp N), (43, [], laws_toBranch.sp N), (48, [], spec_MapPut.sp N), (49, [], impl_MapPut.sp N), (45, [], laws_eqBranch.sp N), (46, [], laws_markBranch.sp N), (47, [], laws_heldBranch.sp N)]) (⟨laws_szBranch.snd N, laws_toBranch.snd N, spec_MapPut.snd N, impl_MapPut.snd N, laws_eqBranch.snd N, laws_markBranch.snd N, laws_heldBranch.snd N, trivial⟩)
theorem snd (N : Nat) : Sound Try.prog E 7 (sp N) :=
  Mir.sound T_OK (G_ok N) mixed Try.func7 (c := code) (by kernel_rfl) (by kernel_rfl) (sp N) (Nat.le_of_ble_eq_true (by kernel_rfl)) live [] (by
    rintro ⟨a0, a1, a2, _⟩ r h
    exact ⟨N, 2, ((run N _ a0 a1 a2).trans rfl).trans h⟩)
end laws_FnExactMapPut
end Mir.Y
