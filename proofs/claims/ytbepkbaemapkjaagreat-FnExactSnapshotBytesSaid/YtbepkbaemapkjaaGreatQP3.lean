/- The models are what the functions do. -/
import Derived.Test.YtbepkbaemapkjaaGreatQP2
namespace Mir.Y
set_option linter.unusedVariables false
set_option maxRecDepth 10000
open Go Go.Proofs Mir
namespace slices_ContainsFunc_impl_pairOf_impl_pairOf__impl_Branch_pairs_1
noncomputable def code : Code := Tryz.f220.body.getD .skip
abbrev live : Live := []
noncomputable def G (N : Nat) : Ctx E := gam [(180, [221], slices_IndexFunc_impl_pairOf_impl_pairOf__impl_Branch_pairs_1.sp N)]
noncomputable def m0 (N : Nat) (a0 : List pairOf) (a1_0 : Branch) (a1_1 : Int) : Option R :=
  ob (slices_IndexFunc_impl_pairOf_impl_pairOf__impl_Branch_pairs_1.m N a0 (Branch.mk a1_0.Key a1_0.Value a1_0.At a1_0.Kids) a1_1) fun y1 =>
  some (decide (y1 ≥ (0:Int)))
theorem run (N : Nat) (o0 : Orc E R) (a0 : List pairOf) (a1_0 : Branch) (a1_1 : Int) : runF T (G N) live [] Tryz.f220 code (sp N) o0 (a0, (a1_0, a1_1, ()), ()) = m0 N a0 a1_0 a1_1 := by kernel_rfl
theorem G_ok (N : Nat) : GamOK Tryz.prog (G N) := gam_ok (l := [(180, [221], slices_IndexFunc_impl_pairOf_impl_pairOf__impl_Branch_pairs_1.sp N)]) (⟨slices_IndexFunc_impl_pairOf_impl_pairOf__impl_Branch_pairs_1.snd N, trivial⟩)
theorem snd (N : Nat) : Sound Tryz.prog E 220 (sp N) :=
  Mir.sound T_OK (G_ok N) mixed Tryz.func220 (c := code) (by kernel_rfl) (by kernel_rfl) (sp N) (Nat.le_of_ble_eq_true (by kernel_rfl)) live [] (by
    rintro ⟨a0, ⟨a1_0, a1_1, _⟩, _⟩ r h
    exact ⟨N, 2, ((run N _ a0 a1_0 a1_1).trans rfl).trans h⟩)
end slices_ContainsFunc_impl_pairOf_impl_pairOf__impl_Branch_pairs_1
namespace impl_sameAhead
noncomputable def code : Code := Tryz.f223.body.getD .skip
abbrev live : Live := [(2, [0, 1, 8, 9])]
noncomputable def G (N : Nat) : Ctx E := gam [(179, [], impl_bit.sp N)]
noncomputable def loop2 : Code := codeAt code [1, 0, 1, 0]
noncomputable def body2 : Code := codeAt loop2 [0]
noncomputable def K2 (N : Nat) (o0 : Orc E R) : KT E R := kAt T (G N) live [] o0 code [1, 0, 1, 0] (kfin T Tryz.f223 (sp N))
noncomputable def St2 (a0 : ByteArray) (a1 : ByteArray) (a2 : Int) : Int → St E
  | v3 => { ρ := [(0, .c (.at (.str a0))), (1, .c (.at (.str a1))), (8, .c (.at (.int .i64 a2))), (9, .c (.at (.int .i64 v3)))], H := [], nx := 0, n := 20, pin := [] }
noncomputable def m0 (N : Nat) (a0 : ByteArray) (a1 : ByteArray) (a2 : Int) (lp2 : Int → Option R) : Option R :=
  lp2 (0:Int)
theorem run (N : Nat) (o0 : Orc E R) (a0 : ByteArray) (a1 : ByteArray) (a2 : Int) : runF T (G N) live [] Tryz.f223 code (sp N) o0 (a0, a1, a2, ()) = m0 N a0 a1 a2 (fun a => o0 loop2 (K2 N o0) (St2 a0 a1 a2 a)) := by kernel_rfl
theorem body2_0 (N : Nat) (o0 : Orc E R) (o1 : Orc E R) (q1 : St E → Option R) (a0 : ByteArray) (a1 : ByteArray) (a2 : Int) (v3 : Int) : runA T (G N) live [] o1 body2 (St2 a0 a1 a2 v3) (kloop [0, 1, 8, 9] q1 (K2 N o0)) = step2 N a0 a1 a2 (fun a => q1 (St2 a0 a1 a2 a)) v3 := by kernel_rfl
theorem lp2_eq (N : Nat) (a0 : ByteArray) (a1 : ByteArray) (a2 : Int) (a : Int) : (orc T (G N) live [] N 2) loop2 (K2 N (orc T (G N) live [] N 2)) (St2 a0 a1 a2 a) = lp2 N a0 a1 a2 a :=
  (orc_loop (b := body2) (live := [0, 1, 8, 9]) (by kernel_rfl)).trans (iter_eq (St2 a0 a1 a2) _ _ (fun q1 a => by
    have hc := congrFun (congrFun (rfl : (step2 N a0 a1 a2) = (step2 N a0 a1 a2)) (fun a => q1 (St2 a0 a1 a2 a))) a
    exact (body2_0 N (orc T (G N) live [] N 2) (orc T (G N) live [] N 1) q1 a0 a1 a2 a).trans hc) N a)
theorem G_ok (N : Nat) : GamOK Tryz.prog (G N) := gam_ok (l := [(179, [], impl_bit.sp N)]) (⟨impl_bit.snd N, trivial⟩)
theorem snd (N : Nat) : Sound Tryz.prog E 223 (sp N) :=
  Mir.sound T_OK (G_ok N) mixed Tryz.func223 (c := code) (by kernel_rfl) (by kernel_rfl) (sp N) (Nat.le_of_ble_eq_true (by kernel_rfl)) live [] (by
    rintro ⟨a0, a1, a2, _⟩ r h
    exact ⟨N, 2, ((run N _ a0 a1 a2).trans (congrArg (m0 N a0 a1 a2) (funext fun a => lp2_eq N a0 a1 a2 a))).trans h⟩)
end impl_sameAhead
namespace impl_Branch_pairs_2
noncomputable def code : Code := Tryz.f222.body.getD .skip
abbrev live : Live := []
noncomputable def G (N : Nat) : Ctx E := gam [(223, [], impl_sameAhead.sp N)]
noncomputable def m0 (N : Nat) (a0 : pairOf) (a1 : List pairOf) (a2 : Branch) : Option R :=
  bif (decide (0 ≤ (0:Int))) then
  bif (decide ((0:Int) < (a1.length : Int))) then
  ob (impl_sameAhead.m N a0.hash ((a1.getD 0 pairOf.dz).hash) a2.At) fun y1 =>
  some (!y1)
  else none
  else none
theorem run (N : Nat) (o0 : Orc E R) (a0 : pairOf) (a1 : List pairOf) (a2 : Branch) : runF T (G N) live [] Tryz.f222 code (sp N) o0 (a0, a1, a2, ()) = m0 N a0 a1 a2 := by kernel_rfl
theorem G_ok (N : Nat) : GamOK Tryz.prog (G N) := gam_ok (l := [(223, [], impl_sameAhead.sp N)]) (⟨impl_sameAhead.snd N, trivial⟩)
theorem snd (N : Nat) : Sound Tryz.prog E 222 (sp N) :=
  Mir.sound T_OK (G_ok N) mixed Tryz.func222 (c := code) (by kernel_rfl) (by kernel_rfl) (sp N) (Nat.le_of_ble_eq_true (by kernel_rfl)) live [] (by
    rintro ⟨a0, a1, a2, _⟩ r h
    exact ⟨N, 2, ((run N _ a0 a1 a2).trans rfl).trans h⟩)
end impl_Branch_pairs_2
namespace slices_IndexFunc_impl_pairOf_impl_pairOf__impl_Branch_pairs_2
noncomputable def code : Code := Tryz.f180.body.getD .skip
abbrev live : Live := [(2, [0, 1, 7, 8])]
noncomputable def G (N : Nat) : Ctx E := gam [(222, [], impl_Branch_pairs_2.sp N)]
noncomputable def loop2 : Code := codeAt code [1, 0, 1, 0]
noncomputable def body2 : Code := codeAt loop2 [0]
noncomputable def K2 (N : Nat) (o0 : Orc E R) : KT E R := kAt T (G N) live [] o0 code [1, 0, 1, 0] (kfin T Tryz.f180 (sp N))
noncomputable def St2 (a0 : List pairOf) (a1_0 : List pairOf) (a1_1 : Branch) : (Int × Int) → St E
  | (v1, v2) => { ρ := [(0, .c (.at (.ro 180 (.st 180) a0))), (1, .clo 222 [.at (.ptr 0 0), .at (.ptr 1 0)]), (7, .c (.at (.int .i64 v1))), (8, .c (.at (.int .i64 v2)))], H := [(0, .rbx [.ro 180 (.st 180) a1_0]), (1, .rbx [.str a1_1.Key, .str a1_1.Value, .int .i64 a1_1.At, .ro 27 (.st 27) a1_1.Kids])], nx := 2, n := 19, pin := [] }
noncomputable def m0 (N : Nat) (a0 : List pairOf) (a1_0 : List pairOf) (a1_1 : Branch) (lp2 : Int × Int → Option R) : Option R :=
  lp2 ((a0.length : Int), (0:Int))
theorem run (N : Nat) (o0 : Orc E R) (a0 : List pairOf) (a1_0 : List pairOf) (a1_1 : Branch) : runF T (G N) live [] Tryz.f180 code (sp N) o0 (a0, (a1_0, a1_1, ()), ()) = m0 N a0 a1_0 a1_1 (fun a => o0 loop2 (K2 N o0) (St2 a0 a1_0 a1_1 a)) := by kernel_rfl
theorem body2_0 (N : Nat) (o0 : Orc E R) (o1 : Orc E R) (q1 : St E → Option R) (a0 : List pairOf) (a1_0 : List pairOf) (a1_1 : Branch) (v1 : Int) (v2 : Int) : runA T (G N) live [] o1 body2 (St2 a0 a1_0 a1_1 (v1, v2)) (kloop [0, 1, 7, 8] q1 (K2 N o0)) = step2 N a0 a1_0 a1_1 (fun a => q1 (St2 a0 a1_0 a1_1 a)) (v1, v2) := by kernel_rfl
theorem lp2_eq (N : Nat) (a0 : List pairOf) (a1_0 : List pairOf) (a1_1 : Branch) (a : Int × Int) : (orc T (G N) live [] N 2) loop2 (K2 N (orc T (G N) live [] N 2)) (St2 a0 a1_0 a1_1 a) = lp2 N a0 a1_0 a1_1 a :=
  (orc_loop (b := body2) (live := [0, 1, 7, 8]) (by kernel_rfl)).trans (iter_eq (St2 a0 a1_0 a1_1) _ _ (fun q1 a => by
    have hc := congrFun (congrFun (rfl : (step2 N a0 a1_0 a1_1) = (step2 N a0 a1_0 a1_1)) (fun a => q1 (St2 a0 a1_0 a1_1 a))) a
    obtain ⟨u0, u1⟩ := a
    exact (body2_0 N (orc T (G N) live [] N 2) (orc T (G N) live [] N 1) q1 a0 a1_0 a1_1 u0 u1).trans hc) N a)
theorem G_ok (N : Nat) : GamOK Tryz.prog (G N) := gam_ok (l := [(222, [], impl_Branch_pairs_2.sp N)]) (⟨impl_Branch_pairs_2.snd N, trivial⟩)
theorem snd (N : Nat) : Sound Tryz.prog E 180 (sp N) :=
  Mir.sound T_OK (G_ok N) mixed Tryz.func180 (c := code) (by kernel_rfl) (by kernel_rfl) (sp N) (Nat.le_of_ble_eq_true (by kernel_rfl)) live [] (by
    rintro ⟨a0, ⟨a1_0, a1_1, _⟩, _⟩ r h
    exact ⟨N, 2, ((run N _ a0 a1_0 a1_1).trans (congrArg (m0 N a0 a1_0 a1_1) (funext fun a => lp2_eq N a0 a1_0 a1_1 a))).trans h⟩)
end slices_IndexFunc_impl_pairOf_impl_pairOf__impl_Branch_pairs_2
namespace slices_ContainsFunc_impl_pairOf_impl_pairOf__impl_Branch_pairs_2
noncomputable def code : Code := Tryz.f220.body.getD .skip
abbrev live : Live := []
noncomputable def G (N : Nat) : Ctx E := gam [(180, [222], slices_IndexFunc_impl_pairOf_impl_pairOf__impl_Branch_pairs_2.sp N)]
noncomputable def m0 (N : Nat) (a0 : List pairOf) (a1_0 : List pairOf) (a1_1 : Branch) : Option R :=
  ob (slices_IndexFunc_impl_pairOf_impl_pairOf__impl_Branch_pairs_2.m N a0 a1_0 (Branch.mk a1_1.Key a1_1.Value a1_1.At a1_1.Kids)) fun y1 =>
  some (decide (y1 ≥ (0:Int)))
theorem run (N : Nat) (o0 : Orc E R) (a0 : List pairOf) (a1_0 : List pairOf) (a1_1 : Branch) : runF T (G N) live [] Tryz.f220 code (sp N) o0 (a0, (a1_0, a1_1, ()), ()) = m0 N a0 a1_0 a1_1 := by kernel_rfl
theorem G_ok (N : Nat) : GamOK Tryz.prog (G N) := gam_ok (l := [(180, [222], slices_IndexFunc_impl_pairOf_impl_pairOf__impl_Branch_pairs_2.sp N)]) (⟨slices_IndexFunc_impl_pairOf_impl_pairOf__impl_Branch_pairs_2.snd N, trivial⟩)
theorem snd (N : Nat) : Sound Tryz.prog E 220 (sp N) :=
  Mir.sound T_OK (G_ok N) mixed Tryz.func220 (c := code) (by kernel_rfl) (by kernel_rfl) (sp N) (Nat.le_of_ble_eq_true (by kernel_rfl)) live [] (by
    rintro ⟨a0, ⟨a1_0, a1_1, _⟩, _⟩ r h
    exact ⟨N, 2, ((run N _ a0 a1_0 a1_1).trans rfl).trans h⟩)
end slices_ContainsFunc_impl_pairOf_impl_pairOf__impl_Branch_pairs_2
namespace impl_Branch_pairs
noncomputable def code : Code := Tryz.f168.body.getD .skip
abbrev live : Live := [(8, [2, 3, 8, 44, 45, 46])]
noncomputable def G (N : Nat) (slf : Branch → Int → Int → Option R) : Ctx E := gam [(218, [], impl_Branch_isLeaf.sp N), (132, [], impl_hash.sp N), (219, [], impl_Branch_isFork.sp N), (168, [], spf slf), (220, [221], slices_ContainsFunc_impl_pairOf_impl_pairOf__impl_Branch_pairs_1.sp N), (220, [222], slices_ContainsFunc_impl_pairOf_impl_pairOf__impl_Branch_pairs_2.sp N)]
noncomputable def loop8 : Code := codeAt code [1, 1, 1, 1, 0, 1, 0]
noncomputable def body8 : Code := codeAt loop8 [0]
noncomputable def K8 (N : Nat) (slf : Branch → Int → Int → Option R) (o0 : Orc E R) : KT E R := kAt T (G N slf) live [] o0 code [1, 1, 1, 1, 0, 1, 0] (kfin T Tryz.f168 (spf (mb N slf)))
noncomputable def St8 (slf : Branch → Int → Int → Option R) (a0 : Branch) (a1 : Int) (a2 : Int) : (Int × Int × Int × (List pairOf)) → St E
  | (v1, v2, v3, v8) => { ρ := [(2, .c (.at (.ptr 0 0))), (3, .c (.at (.ptr 1 0))), (8, .c (.at (.ptr 2 0))), (44, .c (.at (.ro 27 (.st 27) a0.Kids))), (45, .c (.at (.int .i64 v1))), (46, .c (.at (.int .i64 v2)))], H := [(0, .box 3 [.int .i64 v3]), (1, .box 27 [.str a0.Key, .str a0.Value, .int .i64 a0.At, .ro 27 (.st 27) a0.Kids]), (2, .box 154 [.own 3]), (3, .row 180 (.st 180) v8 false)], nx := 4, n := 75, pin := [2] }
noncomputable def m0 (N : Nat) (slf : Branch → Int → Int → Option R) (a0 : Branch) (a1 : Int) (a2 : Int) (lp8 : Int × Int × Int × (List pairOf) → Option R) : Option R :=
  ob (impl_Branch_isLeaf.m N (Branch.mk a0.Key a0.Value a0.At a0.Kids)) fun y1 =>
  bif y1 then
    ob (impl_hash.m N a0.Key) fun y2 =>
    some ([(pairOf.mk a0.Key a0.Value y2)], (decide ((w64 (a2 - (1:Int))) ≥ (0:Int))), (w64 (a2 - (1:Int))))
  else
  ob (impl_Branch_isFork.m N (Branch.mk a0.Key a0.Value a0.At a0.Kids)) fun y3 =>
  bif (!y3) then
    some (([] : List pairOf), false, a2)
  else
  bif (bif false then true else (decide (a0.At ≤ a1))) then
    some (([] : List pairOf), false, a2)
  else
  lp8 ((a0.Kids.length : Int), (0:Int), a2, ([] : List pairOf))
theorem run (N : Nat) (o0 : Orc E R) (slf : Branch → Int → Int → Option R) (a0 : Branch) (a1 : Int) (a2 : Int) : runF T (G N slf) live [] Tryz.f168 code (spf (mb N slf)) o0 (a0, a1, a2, ()) = m0 N slf a0 a1 a2 (fun a => o0 loop8 (K8 N slf o0) (St8 slf a0 a1 a2 a)) := by kernel_rfl
theorem body8_0 (N : Nat) (o0 : Orc E R) (o1 : Orc E R) (q1 : St E → Option R) (slf : Branch → Int → Int → Option R) (a0 : Branch) (a1 : Int) (a2 : Int) (v1 : Int) (v2 : Int) (v3 : Int) (v8 : List pairOf) : runA T (G N slf) live [] o1 body8 (St8 slf a0 a1 a2 (v1, v2, v3, v8)) (kloop [2, 3, 8, 44, 45, 46] q1 (K8 N slf o0)) = step8 N slf a0 a1 a2 (fun a => q1 (St8 slf a0 a1 a2 a)) (v1, v2, v3, v8) := by kernel_rfl
theorem lp8_eq (N : Nat) (slf : Branch → Int → Int → Option R) (a0 : Branch) (a1 : Int) (a2 : Int) (a : Int × Int × Int × (List pairOf)) : (orc T (G N slf) live [] N 2) loop8 (K8 N slf (orc T (G N slf) live [] N 2)) (St8 slf a0 a1 a2 a) = lp8 N slf a0 a1 a2 a :=
  (orc_loop (b := body8) (live := [2, 3, 8, 44, 45, 46]) (by kernel_rfl)).trans (iter_eq (St8 slf a0 a1 a2) _ _ (fun q1 a => by
    have hc := congrFun (congrFun (rfl : (step8 N slf a0 a1 a2) = (step8 N slf a0 a1 a2)) (fun a => q1 (St8 slf a0 a1 a2 a))) a
    obtain ⟨u0, u1, u2, u3⟩ := a
    exact (body8_0 N (orc T (G N slf) live [] N 2) (orc T (G N slf) live [] N 1) q1 slf a0 a1 a2 u0 u1 u2 u3).trans hc) N a)
theorem G_ok (N : Nat) (slf : Branch → Int → Int → Option R) (hs : Sound Tryz.prog E 168 (spf slf)) : GamOK Tryz.prog (G N slf) := gam_ok (l := [(218, [], impl_Branch_isLeaf.sp N), (132, [], impl_hash.sp N), (219, [], impl_Branch_isFork.sp N), (168, [], spf slf), (220, [221], slices_ContainsFunc_impl_pairOf_impl_pairOf__impl_Branch_pairs_1.sp N), (220, [222], slices_ContainsFunc_impl_pairOf_impl_pairOf__impl_Branch_pairs_2.sp N)]) (⟨impl_Branch_isLeaf.snd N, impl_hash.snd N, impl_Branch_isFork.snd N, hs, slices_ContainsFunc_impl_pairOf_impl_pairOf__impl_Branch_pairs_1.snd N, slices_ContainsFunc_impl_pairOf_impl_pairOf__impl_Branch_pairs_2.snd N, trivial⟩)
theorem sndF (N : Nat) : ∀ n, Sound Tryz.prog E 168 (spf (mF N n))
  | 0 => sound_none Tryz.func168 (c := code) (by kernel_rfl) (by kernel_rfl) (spf (mF N 0)) (fun _ => rfl)
  | n + 1 => by
    have hr := fun (a0 : Branch) (a1 : Int) (a2 : Int) => (run N (orc T (G N (mF N n)) live [] N 2) (mF N n) a0 a1 a2).trans (congrArg (m0 N (mF N n) a0 a1 a2) (funext fun a => lp8_eq N (mF N n) a0 a1 a2 a))
    exact Mir.sound T_OK (G_ok N (mF N n) (sndF N n)) mixed Tryz.func168 (c := code) (by kernel_rfl) (by kernel_rfl) (spf (mF N (n + 1))) (Nat.le_of_ble_eq_true (by kernel_rfl)) live [] (by
      rintro ⟨a0, a1, a2, _⟩ r h
      exact ⟨N, 2, (hr a0 a1 a2).trans h⟩)
theorem snd (N : Nat) : Sound Tryz.prog E 168 (sp N) := sndF N N
end impl_Branch_pairs
namespace impl_mapPairs
noncomputable def code : Code := Tryz.f115.body.getD .skip
abbrev live : Live := []
noncomputable def G (N : Nat) : Ctx E := gam [(167, [], impl_Branch_isEmpty.sp N), (168, [], impl_Branch_pairs.sp N)]
noncomputable def m0 (N : Nat) (a0 : Branch) : Option R :=
  ob (impl_Branch_isEmpty.m N (Branch.mk a0.Key a0.Value a0.At a0.Kids)) fun y1 =>
  bif y1 then
    some (([] : List pairOf), true)
  else
  ob (impl_Branch_pairs.m N (Branch.mk a0.Key a0.Value a0.At a0.Kids) (-1:Int) (40:Int)) fun y2 =>
  some (y2.1, y2.2.1)
theorem run (N : Nat) (o0 : Orc E R) (a0 : Branch) : runF T (G N) live [] Tryz.f115 code (sp N) o0 (a0, ()) = m0 N a0 := by kernel_rfl
theorem G_ok (N : Nat) : GamOK Tryz.prog (G N) := gam_ok (l := [(167, [], impl_Branch_isEmpty.sp N), (168, [], impl_Branch_pairs.sp N)]) (⟨impl_Branch_isEmpty.snd N, impl_Branch_pairs.snd N, trivial⟩)
theorem snd (N : Nat) : Sound Tryz.prog E 115 (sp N) :=
  Mir.sound T_OK (G_ok N) mixed Tryz.func115 (c := code) (by kernel_rfl) (by kernel_rfl) (sp N) (Nat.le_of_ble_eq_true (by kernel_rfl)) live [] (by
    rintro ⟨a0, _⟩ r h
    exact ⟨N, 2, ((run N _ a0).trans rfl).trans h⟩)
end impl_mapPairs
namespace impl_MapOK
noncomputable def code : Code := Tryz.f79.body.getD .skip
abbrev live : Live := []
noncomputable def G (N : Nat) : Ctx E := gam [(115, [], impl_mapPairs.sp N)]
noncomputable def m0 (N : Nat) (a0 : Branch) : Option R :=
  ob (impl_mapPairs.m N (Branch.mk a0.Key a0.Value a0.At a0.Kids)) fun y1 =>
  some y1.2
theorem run (N : Nat) (o0 : Orc E R) (a0 : Branch) : runF T (G N) live [] Tryz.f79 code (sp N) o0 (a0, ()) = m0 N a0 := by kernel_rfl
theorem G_ok (N : Nat) : GamOK Tryz.prog (G N) := gam_ok (l := [(115, [], impl_mapPairs.sp N)]) (⟨impl_mapPairs.snd N, trivial⟩)
theorem snd (N : Nat) : Sound Tryz.prog E 79 (sp N) :=
  Mir.sound T_OK (G_ok N) mixed Tryz.func79 (c := code) (by kernel_rfl) (by kernel_rfl) (sp N) (Nat.le_of_ble_eq_true (by kernel_rfl)) live [] (by
    rintro ⟨a0, _⟩ r h
    exact ⟨N, 2, ((run N _ a0).trans rfl).trans h⟩)
end impl_MapOK
namespace impl_isShort
noncomputable def code : Code := Tryz.f80.body.getD .skip
abbrev live : Live := []
noncomputable def G (N : Nat) : Ctx E := gam [(131, [], impl_within.sp N)]
noncomputable def m0 (N : Nat) (a0 : Int) : Option R :=
  ob (impl_within.m N a0 (0:Int) (65535:Int)) fun y1 =>
  some y1
theorem run (N : Nat) (o0 : Orc E R) (a0 : Int) : runF T (G N) live [] Tryz.f80 code (sp N) o0 (a0, ()) = m0 N a0 := by kernel_rfl
theorem G_ok (N : Nat) : GamOK Tryz.prog (G N) := gam_ok (l := [(131, [], impl_within.sp N)]) (⟨impl_within.snd N, trivial⟩)
theorem snd (N : Nat) : Sound Tryz.prog E 80 (sp N) :=
  Mir.sound T_OK (G_ok N) mixed Tryz.func80 (c := code) (by kernel_rfl) (by kernel_rfl) (sp N) (Nat.le_of_ble_eq_true (by kernel_rfl)) live [] (by
    rintro ⟨a0, _⟩ r h
    exact ⟨N, 2, ((run N _ a0).trans rfl).trans h⟩)
end impl_isShort
namespace impl_replyOK
noncomputable def code : Code := Tryz.f81.body.getD .skip
abbrev live : Live := []
noncomputable def G (N : Nat) : Ctx E := gam [(131, [], impl_within.sp N), (113, [], impl_isValue.sp N)]
noncomputable def m0 (N : Nat) (a0 : Reply) : Option R :=
  ob (impl_within.m N a0.Kind (0:Int) (6:Int)) fun y1 =>
  bif y1 then
    ob (impl_within.m N a0.Place (0:Int) (50:Int)) fun y2 =>
    bif (bif true then y2 else false) then
      ob (impl_isValue.m N a0.Value) fun y3 =>
      some (bif true then y3 else false)
    else
    some false
  else
  some false
theorem run (N : Nat) (o0 : Orc E R) (a0 : Reply) : runF T (G N) live [] Tryz.f81 code (sp N) o0 (a0, ()) = m0 N a0 := by kernel_rfl
theorem G_ok (N : Nat) : GamOK Tryz.prog (G N) := gam_ok (l := [(131, [], impl_within.sp N), (113, [], impl_isValue.sp N)]) (⟨impl_within.snd N, impl_isValue.snd N, trivial⟩)
theorem snd (N : Nat) : Sound Tryz.prog E 81 (sp N) :=
  Mir.sound T_OK (G_ok N) mixed Tryz.func81 (c := code) (by kernel_rfl) (by kernel_rfl) (sp N) (Nat.le_of_ble_eq_true (by kernel_rfl)) live [] (by
    rintro ⟨a0, _⟩ r h
    exact ⟨N, 2, ((run N _ a0).trans rfl).trans h⟩)
end impl_replyOK
namespace impl_LedgerOK
noncomputable def code : Code := Tryz.f36.body.getD .skip
abbrev live : Live := [(4, [1, 28, 29, 30])]
noncomputable def G (N : Nat) : Ctx E := gam [(78, [], impl_isHash.sp N), (79, [], impl_MapOK.sp N), (80, [], impl_isShort.sp N), (81, [], impl_replyOK.sp N)]
noncomputable def loop4 : Code := codeAt code [1, 1, 0, 1, 0]
noncomputable def body4 : Code := codeAt loop4 [0]
noncomputable def K4 (N : Nat) (o0 : Orc E R) : KT E R := kAt T (G N) live [] o0 code [1, 1, 0, 1, 0] (kfin T Tryz.f36 (sp N))
noncomputable def St4 (a0 : Ledger) : (Int × Int) → St E
  | (v1, v2) => { ρ := [(1, .c (.at (.ptr 0 0))), (28, .c (.at (.ro 131 (.st 131) a0.Sessions))), (29, .c (.at (.int .i64 v1))), (30, .c (.at (.int .i64 v2)))], H := [(0, .box 30 [.ro 9 .str a0.Leaves, .str a0.Map.Key, .str a0.Map.Value, .int .i64 a0.Map.At, .ro 27 (.st 27) a0.Map.Kids, .ro 131 (.st 131) a0.Sessions])], nx := 1, n := 68, pin := [] }
noncomputable def m0 (N : Nat) (a0 : Ledger) (lp4 : Int × Int → Option R) : Option R :=
  bif (decide ((a0.Leaves.length : Int) > (50:Int))) then
    some false
  else
  ob (impl_isHash.m N a0.Leaves) fun y1 =>
  bif (bif false then true else (!y1)) then
    some false
  else
  bif (bif false then true else (decide ((a0.Sessions.length : Int) > (8:Int)))) then
    some false
  else
  ob (impl_MapOK.m N (Branch.mk a0.Map.Key a0.Map.Value a0.Map.At a0.Map.Kids)) fun y2 =>
  bif (bif false then true else (!y2)) then
    some false
  else
  lp4 ((a0.Sessions.length : Int), (0:Int))
theorem run (N : Nat) (o0 : Orc E R) (a0 : Ledger) : runF T (G N) live [] Tryz.f36 code (sp N) o0 (a0, ()) = m0 N a0 (fun a => o0 loop4 (K4 N o0) (St4 a0 a)) := by kernel_rfl
theorem body4_0 (N : Nat) (o0 : Orc E R) (o1 : Orc E R) (q1 : St E → Option R) (a0 : Ledger) (v1 : Int) (v2 : Int) : runA T (G N) live [] o1 body4 (St4 a0 (v1, v2)) (kloop [1, 28, 29, 30] q1 (K4 N o0)) = step4 N a0 (fun a => q1 (St4 a0 a)) (v1, v2) := by kernel_rfl
theorem lp4_eq (N : Nat) (a0 : Ledger) (a : Int × Int) : (orc T (G N) live [] N 2) loop4 (K4 N (orc T (G N) live [] N 2)) (St4 a0 a) = lp4 N a0 a :=
  (orc_loop (b := body4) (live := [1, 28, 29, 30]) (by kernel_rfl)).trans (iter_eq (St4 a0) _ _ (fun q1 a => by
    have hc := congrFun (congrFun (rfl : (step4 N a0) = (step4 N a0)) (fun a => q1 (St4 a0 a))) a
    obtain ⟨u0, u1⟩ := a
    exact (body4_0 N (orc T (G N) live [] N 2) (orc T (G N) live [] N 1) q1 a0 u0 u1).trans hc) N a)
theorem G_ok (N : Nat) : GamOK Tryz.prog (G N) := gam_ok (l := [(78, [], impl_isHash.sp N), (79, [], impl_MapOK.sp N), (80, [], impl_isShort.sp N), (81, [], impl_replyOK.sp N)]) (⟨impl_isHash.snd N, impl_MapOK.snd N, impl_isShort.snd N, impl_replyOK.snd N, trivial⟩)
theorem snd (N : Nat) : Sound Tryz.prog E 36 (sp N) :=
  Mir.sound T_OK (G_ok N) mixed Tryz.func36 (c := code) (by kernel_rfl) (by kernel_rfl) (sp N) (Nat.le_of_ble_eq_true (by kernel_rfl)) live [] (by
    rintro ⟨a0, _⟩ r h
    exact ⟨N, 2, ((run N _ a0).trans (congrArg (m0 N a0) (funext fun a => lp4_eq N a0 a))).trans h⟩)
end impl_LedgerOK
namespace slices_Clone_string_string
noncomputable def code : Code := Tryz.f116.body.getD .skip
abbrev live : Live := []
noncomputable def G (N : Nat) : Ctx E := gam []
noncomputable def m0 (N : Nat) (a0 : List ByteArray) : Option R :=
  amb (a0.isEmpty) true
    (some ([] : List ByteArray))
    (bif (room (([] : List ByteArray).length + a0.length) 16) then
    some (([] : List ByteArray) ++ a0)
    else none)
theorem run (N : Nat) (o0 : Orc E R) (a0 : List ByteArray) : runF T (G N) live [] Tryz.f116 code (sp N) o0 (a0, ()) = m0 N a0 := by kernel_rfl
theorem G_ok (N : Nat) : GamOK Tryz.prog (G N) := gam_ok (l := []) (trivial)
theorem snd (N : Nat) : Sound Tryz.prog E 116 (sp N) :=
  Mir.sound T_OK (G_ok N) mixed Tryz.func116 (c := code) (by kernel_rfl) (by kernel_rfl) (sp N) (Nat.le_of_ble_eq_true (by kernel_rfl)) live [] (by
    rintro ⟨a0, _⟩ r h
    exact ⟨N, 2, ((run N _ a0).trans rfl).trans h⟩)
end slices_Clone_string_string
namespace slices_Clone_impl_Session_impl_Session
noncomputable def code : Code := Tryz.f117.body.getD .skip
abbrev live : Live := []
noncomputable def G (N : Nat) : Ctx E := gam []
noncomputable def m0 (N : Nat) (a0 : List Session) : Option R :=
  amb (a0.isEmpty) true
    (some ([] : List Session))
    (bif (room (([] : List Session).length + a0.length) 48) then
    some (([] : List Session) ++ a0)
    else none)
theorem run (N : Nat) (o0 : Orc E R) (a0 : List Session) : runF T (G N) live [] Tryz.f117 code (sp N) o0 (a0, ()) = m0 N a0 := by kernel_rfl
theorem G_ok (N : Nat) : GamOK Tryz.prog (G N) := gam_ok (l := []) (trivial)
theorem snd (N : Nat) : Sound Tryz.prog E 117 (sp N) :=
  Mir.sound T_OK (G_ok N) mixed Tryz.func117 (c := code) (by kernel_rfl) (by kernel_rfl) (sp N) (Nat.le_of_ble_eq_true (by kernel_rfl)) live [] (by
    rintro ⟨a0, _⟩ r h
    exact ⟨N, 2, ((run N _ a0).trans rfl).trans h⟩)
end slices_Clone_impl_Session_impl_Session
namespace impl_booksOf
noncomputable def code : Code := Tryz.f71.body.getD .skip
abbrev live : Live := []
noncomputable def G (N : Nat) : Ctx E := gam [(115, [], impl_mapPairs.sp N), (116, [], slices_Clone_string_string.sp N), (117, [], slices_Clone_impl_Session_impl_Session.sp N)]
noncomputable def m0 (N : Nat) (a0 : Ledger) : Option R :=
  ob (impl_mapPairs.m N (Branch.mk a0.Map.Key a0.Map.Value a0.Map.At a0.Map.Kids)) fun y1 =>
  ob (slices_Clone_string_string.m N a0.Leaves) fun y2 =>
  ob (slices_Clone_impl_Session_impl_Session.m N a0.Sessions) fun y3 =>
  some (books.mk y2 y1.1 y3)
theorem run (N : Nat) (o0 : Orc E R) (a0 : Ledger) : runF T (G N) live [] Tryz.f71 code (sp N) o0 (a0, ()) = m0 N a0 := by kernel_rfl
theorem G_ok (N : Nat) : GamOK Tryz.prog (G N) := gam_ok (l := [(115, [], impl_mapPairs.sp N), (116, [], slices_Clone_string_string.sp N), (117, [], slices_Clone_impl_Session_impl_Session.sp N)]) (⟨impl_mapPairs.snd N, slices_Clone_string_string.snd N, slices_Clone_impl_Session_impl_Session.snd N, trivial⟩)
theorem snd (N : Nat) : Sound Tryz.prog E 71 (sp N) :=
  Mir.sound T_OK (G_ok N) mixed Tryz.func71 (c := code) (by kernel_rfl) (by kernel_rfl) (sp N) (Nat.le_of_ble_eq_true (by kernel_rfl)) live [] (by
    rintro ⟨a0, _⟩ r h
    exact ⟨N, 2, ((run N _ a0).trans rfl).trans h⟩)
end impl_booksOf
namespace impl_counted
noncomputable def code : Code := Tryz.f126.body.getD .skip
abbrev live : Live := []
noncomputable def G (N : Nat) : Ctx E := gam [(125, [], impl_number.sp N)]
noncomputable def m0 (N : Nat) (a0 : ByteArray) : Option R :=
  ob (impl_number.m N (a0.size : Int) (1:Int)) fun y1 =>
  bif (decide (y1.size + a0.size ≤ 9223372036854775807)) then
  some (y1 ++ a0)
  else none
theorem run (N : Nat) (o0 : Orc E R) (a0 : ByteArray) : runF T (G N) live [] Tryz.f126 code (sp N) o0 (a0, ()) = m0 N a0 := by kernel_rfl
theorem G_ok (N : Nat) : GamOK Tryz.prog (G N) := gam_ok (l := [(125, [], impl_number.sp N)]) (⟨impl_number.snd N, trivial⟩)
theorem snd (N : Nat) : Sound Tryz.prog E 126 (sp N) :=
  Mir.sound T_OK (G_ok N) mixed Tryz.func126 (c := code) (by kernel_rfl) (by kernel_rfl) (sp N) (Nat.le_of_ble_eq_true (by kernel_rfl)) live [] (by
    rintro ⟨a0, _⟩ r h
    exact ⟨N, 2, ((run N _ a0).trans rfl).trans h⟩)
end impl_counted
namespace impl_snapshot
noncomputable def code : Code := Tryz.f75.body.getD .skip
abbrev live : Live := [(16, [4, 70, 71, 72]), (10, [3, 4, 43, 44, 45]), (4, [3, 4, 22, 23, 24])]
noncomputable def G (N : Nat) : Ctx E := gam [(71, [], impl_booksOf.sp N), (125, [], impl_number.sp N), (126, [], impl_counted.sp N)]
noncomputable def loop4 : Code := codeAt code [1, 1, 1, 0, 1, 0]
noncomputable def body4 : Code := codeAt loop4 [0]
noncomputable def loop10 : Code := codeAt code [1, 1, 1, 1, 1, 0, 1, 0]
noncomputable def body10 : Code := codeAt loop10 [0]
noncomputable def loop16 : Code := codeAt code [1, 1, 1, 1, 1, 1, 1, 0, 1, 0]
noncomputable def body16 : Code := codeAt loop16 [0]
noncomputable def K4 (N : Nat) (o0 : Orc E R) : KT E R := kAt T (G N) live [] o0 code [1, 1, 1, 0, 1, 0] (kfin T Tryz.f75 (sp N))
noncomputable def St4 (a0 : Ledger) : (ByteArray × Int × Int × (List ByteArray) × (List pairOf) × (List Session)) → St E
  | (v0, v1, v2, v3, v4, v5) => { ρ := [(3, .c (.at (.ptr 0 0))), (4, .c (.at (.str v0))), (22, .c (.at (.own 1))), (23, .c (.at (.int .i64 v1))), (24, .c (.at (.int .i64 v2)))], H := [(0, .box 156 [.own 1, .own 2, .own 3]), (1, .row 9 .str v3 false), (2, .row 180 (.st 180) v4 false), (3, .row 131 (.st 131) v5 false)], nx := 4, n := 102, pin := [] }
noncomputable def K10 (N : Nat) (o0 : Orc E R) : KT E R := kAt T (G N) live [] o0 code [1, 1, 1, 1, 1, 0, 1, 0] (kfin T Tryz.f75 (sp N))
noncomputable def St10 (a0 : Ledger) : (ByteArray × Int × Int × (List ByteArray) × (List pairOf) × (List Session)) → St E
  | (v0, v1, v2, v3, v4, v5) => { ρ := [(3, .c (.at (.ptr 0 0))), (4, .c (.at (.str v0))), (43, .c (.at (.own 2))), (44, .c (.at (.int .i64 v1))), (45, .c (.at (.int .i64 v2)))], H := [(0, .box 156 [.own 1, .own 2, .own 3]), (1, .row 9 .str v3 false), (2, .row 180 (.st 180) v4 false), (3, .row 131 (.st 131) v5 false)], nx := 4, n := 102, pin := [] }
noncomputable def K16 (N : Nat) (o0 : Orc E R) : KT E R := kAt T (G N) live [] o0 code [1, 1, 1, 1, 1, 1, 1, 0, 1, 0] (kfin T Tryz.f75 (sp N))
noncomputable def St16 (a0 : Ledger) : (ByteArray × Int × Int × (List Session)) → St E
  | (v0, v1, v2, v3) => { ρ := [(4, .c (.at (.str v0))), (70, .c (.at (.own 0))), (71, .c (.at (.int .i64 v1))), (72, .c (.at (.int .i64 v2)))], H := [(0, .row 131 (.st 131) v3 false)], nx := 1, n := 102, pin := [] }
noncomputable def m0 (N : Nat) (a0 : Ledger) (lp4 : ByteArray × Int × Int × (List ByteArray) × (List pairOf) × (List Session) → Option R) : Option R :=
  ob (impl_booksOf.m N (Ledger.mk a0.Leaves (Branch.mk a0.Map.Key a0.Map.Value a0.Map.At a0.Map.Kids) a0.Sessions)) fun y1 =>
  ob (impl_number.m N (y1.leaves.length : Int) (1:Int)) fun y2 =>
  lp4 (y2, (y1.leaves.length : Int), (0:Int), y1.leaves, y1.pairs, y1.sessions)
theorem run (N : Nat) (o0 : Orc E R) (a0 : Ledger) : runF T (G N) live [] Tryz.f75 code (sp N) o0 (a0, ()) = m0 N a0 (fun a => o0 loop4 (K4 N o0) (St4 a0 a)) := by kernel_rfl
theorem body4_0 (N : Nat) (o0 : Orc E R) (o1 : Orc E R) (q1 : St E → Option R) (a0 : Ledger) (v0 : ByteArray) (v1 : Int) (v2 : Int) (v3 : List ByteArray) (v4 : List pairOf) (v5 : List Session) : runA T (G N) live [] o1 body4 (St4 a0 (v0, v1, v2, v3, v4, v5)) (kloop [3, 4, 22, 23, 24] q1 (K4 N o0)) = step4 N a0 (fun a => o0 loop10 (K10 N o0) (St10 a0 a)) (fun a => q1 (St4 a0 a)) (v0, v1, v2, v3, v4, v5) := by kernel_rfl
theorem body10_0 (N : Nat) (o0 : Orc E R) (o1 : Orc E R) (q1 : St E → Option R) (a0 : Ledger) (v0 : ByteArray) (v1 : Int) (v2 : Int) (v3 : List ByteArray) (v4 : List pairOf) (v5 : List Session) : runA T (G N) live [] o1 body10 (St10 a0 (v0, v1, v2, v3, v4, v5)) (kloop [3, 4, 43, 44, 45] q1 (K10 N o0)) = step10 N a0 (fun a => o0 loop16 (K16 N o0) (St16 a0 a)) (fun a => q1 (St10 a0 a)) (v0, v1, v2, v3, v4, v5) := by kernel_rfl
theorem body16_0 (N : Nat) (o0 : Orc E R) (o1 : Orc E R) (q1 : St E → Option R) (a0 : Ledger) (v0 : ByteArray) (v1 : Int) (v2 : Int) (v3 : List Session) : runA T (G N) live [] o1 body16 (St16 a0 (v0, v1, v2, v3)) (kloop [4, 70, 71, 72] q1 (K16 N o0)) = step16 N a0 (fun a => q1 (St16 a0 a)) (v0, v1, v2, v3) := by kernel_rfl
theorem lp16_eq (N : Nat) (a0 : Ledger) (a : ByteArray × Int × Int × (List Session)) : (orc T (G N) live [] N 2) loop16 (K16 N (orc T (G N) live [] N 2)) (St16 a0 a) = lp16 N a0 a :=
  (orc_loop (b := body16) (live := [4, 70, 71, 72]) (by kernel_rfl)).trans (iter_eq (St16 a0) _ _ (fun q1 a => by
    have hc := congrFun (congrFun (rfl : (step16 N a0) = (step16 N a0)) (fun a => q1 (St16 a0 a))) a
    obtain ⟨u0, u1, u2, u3⟩ := a
    exact (body16_0 N (orc T (G N) live [] N 2) (orc T (G N) live [] N 1) q1 a0 u0 u1 u2 u3).trans hc) N a)
theorem lp10_eq (N : Nat) (a0 : Ledger) (a : ByteArray × Int × Int × (List ByteArray) × (List pairOf) × (List Session)) : (orc T (G N) live [] N 2) loop10 (K10 N (orc T (G N) live [] N 2)) (St10 a0 a) = lp10 N a0 a :=
  (orc_loop (b := body10) (live := [3, 4, 43, 44, 45]) (by kernel_rfl)).trans (iter_eq (St10 a0) _ _ (fun q1 a => by
    have hc := congrFun (congrFun (congrArg (step10 N a0) (funext fun a => lp16_eq N a0 a)) (fun a => q1 (St10 a0 a))) a
    obtain ⟨u0, u1, u2, u3, u4, u5⟩ := a
    exact (body10_0 N (orc T (G N) live [] N 2) (orc T (G N) live [] N 1) q1 a0 u0 u1 u2 u3 u4 u5).trans hc) N a)
theorem lp4_eq (N : Nat) (a0 : Ledger) (a : ByteArray × Int × Int × (List ByteArray) × (List pairOf) × (List Session)) : (orc T (G N) live [] N 2) loop4 (K4 N (orc T (G N) live [] N 2)) (St4 a0 a) = lp4 N a0 a :=
  (orc_loop (b := body4) (live := [3, 4, 22, 23, 24]) (by kernel_rfl)).trans (iter_eq (St4 a0) _ _ (fun q1 a => by
    have hc := congrFun (congrFun (congrArg (step4 N a0) (funext fun a => lp10_eq N a0 a)) (fun a => q1 (St4 a0 a))) a
    obtain ⟨u0, u1, u2, u3, u4, u5⟩ := a
    exact (body4_0 N (orc T (G N) live [] N 2) (orc T (G N) live [] N 1) q1 a0 u0 u1 u2 u3 u4 u5).trans hc) N a)
theorem G_ok (N : Nat) : GamOK Tryz.prog (G N) := gam_ok (l := [(71, [], impl_booksOf.sp N), (125, [], impl_number.sp N), (126, [], impl_counted.sp N)]) (⟨impl_booksOf.snd N, impl_number.snd N, impl_counted.snd N, trivial⟩)
theorem snd (N : Nat) : Sound Tryz.prog E 75 (sp N) :=
  Mir.sound T_OK (G_ok N) mixed Tryz.func75 (c := code) (by kernel_rfl) (by kernel_rfl) (sp N) (Nat.le_of_ble_eq_true (by kernel_rfl)) live [] (by
    rintro ⟨a0, _⟩ r h
    exact ⟨N, 2, ((run N _ a0).trans (congrArg (m0 N a0) (funext fun a => lp4_eq N a0 a))).trans h⟩)
end impl_snapshot
namespace impl_SnapshotBytes
noncomputable def code : Code := Tryz.f30.body.getD .skip
abbrev live : Live := []
noncomputable def G (N : Nat) : Ctx E := gam [(36, [], impl_LedgerOK.sp N), (75, [], impl_snapshot.sp N)]
noncomputable def m0 (N : Nat) (a0 : Ledger) : Option R :=
  ob (impl_LedgerOK.m N (Ledger.mk a0.Leaves (Branch.mk a0.Map.Key a0.Map.Value a0.Map.At a0.Map.Kids) a0.Sessions)) fun y1 =>
  bif (!y1) then
    some (([] : List Int), (1:Int))
  else
  ob (impl_snapshot.m N (Ledger.mk a0.Leaves (Branch.mk a0.Map.Key a0.Map.Value a0.Map.At a0.Map.Kids) a0.Sessions)) fun y2 =>
  bif (room y2.size 1) then
  some ((bytesOf y2), (0:Int))
  else none
theorem run (N : Nat) (o0 : Orc E R) (a0 : Ledger) : runF T (G N) live [] Tryz.f30 code (sp N) o0 (a0, ()) = m0 N a0 := by kernel_rfl
theorem G_ok (N : Nat) : GamOK Tryz.prog (G N) := gam_ok (l := [(36, [], impl_LedgerOK.sp N), (75, [], impl_snapshot.sp N)]) (⟨impl_LedgerOK.snd N, impl_snapshot.snd N, trivial⟩)
theorem snd (N : Nat) : Sound Tryz.prog E 30 (sp N) :=
  Mir.sound T_OK (G_ok N) mixed Tryz.func30 (c := code) (by kernel_rfl) (by kernel_rfl) (sp N) (Nat.le_of_ble_eq_true (by kernel_rfl)) live [] (by
    rintro ⟨a0, _⟩ r h
    exact ⟨N, 2, ((run N _ a0).trans rfl).trans h⟩)
end impl_SnapshotBytes
namespace laws_eqByteS
noncomputable def code : Code := Tryz.f31.body.getD .skip
abbrev live : Live := [(4, [0, 1, 5])]
noncomputable def G (N : Nat) : Ctx E := gam []
noncomputable def loop4 : Code := codeAt code [1, 1, 0, 1, 0]
noncomputable def body4 : Code := codeAt loop4 [0]
noncomputable def K4 (N : Nat) (o0 : Orc E R) : KT E R := kAt T (G N) live [] o0 code [1, 1, 0, 1, 0] (kfin T Tryz.f31 (sp N))
noncomputable def St4 (a0 : List Int) (a1 : List Int) : Int → St E
  | v2 => { ρ := [(0, .c (.at (.ro 5 (.int .u8) a0))), (1, .c (.at (.ro 5 (.int .u8) a1))), (5, .c (.at (.int .i64 v2)))], H := [], nx := 0, n := 26, pin := [] }
noncomputable def m0 (N : Nat) (a0 : List Int) (a1 : List Int) (lp4 : Int → Option R) : Option R :=
  bif ((a0.length : Int) != (a1.length : Int)) then
    some false
  else
  lp4 (0:Int)
theorem run (N : Nat) (o0 : Orc E R) (a0 : List Int) (a1 : List Int) : runF T (G N) live [] Tryz.f31 code (sp N) o0 (a0, a1, ()) = m0 N a0 a1 (fun a => o0 loop4 (K4 N o0) (St4 a0 a1 a)) := by kernel_rfl
theorem body4_0 (N : Nat) (o0 : Orc E R) (o1 : Orc E R) (q1 : St E → Option R) (a0 : List Int) (a1 : List Int) (v2 : Int) : runA T (G N) live [] o1 body4 (St4 a0 a1 v2) (kloop [0, 1, 5] q1 (K4 N o0)) = step4 N a0 a1 (fun a => q1 (St4 a0 a1 a)) v2 := by kernel_rfl
theorem lp4_eq (N : Nat) (a0 : List Int) (a1 : List Int) (a : Int) : (orc T (G N) live [] N 2) loop4 (K4 N (orc T (G N) live [] N 2)) (St4 a0 a1 a) = lp4 N a0 a1 a :=
  (orc_loop (b := body4) (live := [0, 1, 5]) (by kernel_rfl)).trans (iter_eq (St4 a0 a1) _ _ (fun q1 a => by
    have hc := congrFun (congrFun (rfl : (step4 N a0 a1) = (step4 N a0 a1)) (fun a => q1 (St4 a0 a1 a))) a
    exact (body4_0 N (orc T (G N) live [] N 2) (orc T (G N) live [] N 1) q1 a0 a1 a).trans hc) N a)
theorem G_ok (N : Nat) : GamOK Tryz.prog (G N) := gam_ok (l := []) (trivial)
theorem snd (N : Nat) : Sound Tryz.prog E 31 (sp N) :=
  Mir.sound T_OK (G_ok N) mixed Tryz.func31 (c := code) (by kernel_rfl) (by kernel_rfl) (sp N) (Nat.le_of_ble_eq_true (by kernel_rfl)) live [] (by
    rintro ⟨a0, a1, _⟩ r h
    exact ⟨N, 2, ((run N _ a0 a1).trans (congrArg (m0 N a0 a1) (funext fun a => lp4_eq N a0 a1 a))).trans h⟩)
end laws_eqByteS
namespace laws_eqStringS
noncomputable def code : Code := Tryz.f52.body.getD .skip
abbrev live : Live := [(4, [0, 1, 5])]
noncomputable def G (N : Nat) : Ctx E := gam []
noncomputable def loop4 : Code := codeAt code [1, 1, 0, 1, 0]
noncomputable def body4 : Code := codeAt loop4 [0]
noncomputable def K4 (N : Nat) (o0 : Orc E R) : KT E R := kAt T (G N) live [] o0 code [1, 1, 0, 1, 0] (kfin T Tryz.f52 (sp N))
noncomputable def St4 (a0 : List ByteArray) (a1 : List ByteArray) : Int → St E
  | v2 => { ρ := [(0, .c (.at (.ro 9 .str a0))), (1, .c (.at (.ro 9 .str a1))), (5, .c (.at (.int .i64 v2)))], H := [], nx := 0, n := 26, pin := [] }
noncomputable def m0 (N : Nat) (a0 : List ByteArray) (a1 : List ByteArray) (lp4 : Int → Option R) : Option R :=
  bif ((a0.length : Int) != (a1.length : Int)) then
    some false
  else
  lp4 (0:Int)
theorem run (N : Nat) (o0 : Orc E R) (a0 : List ByteArray) (a1 : List ByteArray) : runF T (G N) live [] Tryz.f52 code (sp N) o0 (a0, a1, ()) = m0 N a0 a1 (fun a => o0 loop4 (K4 N o0) (St4 a0 a1 a)) := by kernel_rfl
theorem body4_0 (N : Nat) (o0 : Orc E R) (o1 : Orc E R) (q1 : St E → Option R) (a0 : List ByteArray) (a1 : List ByteArray) (v2 : Int) : runA T (G N) live [] o1 body4 (St4 a0 a1 v2) (kloop [0, 1, 5] q1 (K4 N o0)) = step4 N a0 a1 (fun a => q1 (St4 a0 a1 a)) v2 := by kernel_rfl
theorem lp4_eq (N : Nat) (a0 : List ByteArray) (a1 : List ByteArray) (a : Int) : (orc T (G N) live [] N 2) loop4 (K4 N (orc T (G N) live [] N 2)) (St4 a0 a1 a) = lp4 N a0 a1 a :=
  (orc_loop (b := body4) (live := [0, 1, 5]) (by kernel_rfl)).trans (iter_eq (St4 a0 a1) _ _ (fun q1 a => by
    have hc := congrFun (congrFun (rfl : (step4 N a0 a1) = (step4 N a0 a1)) (fun a => q1 (St4 a0 a1 a))) a
    exact (body4_0 N (orc T (G N) live [] N 2) (orc T (G N) live [] N 1) q1 a0 a1 a).trans hc) N a)
theorem G_ok (N : Nat) : GamOK Tryz.prog (G N) := gam_ok (l := []) (trivial)
theorem snd (N : Nat) : Sound Tryz.prog E 52 (sp N) :=
  Mir.sound T_OK (G_ok N) mixed Tryz.func52 (c := code) (by kernel_rfl) (by kernel_rfl) (sp N) (Nat.le_of_ble_eq_true (by kernel_rfl)) live [] (by
    rintro ⟨a0, a1, _⟩ r h
    exact ⟨N, 2, ((run N _ a0 a1).trans (congrArg (m0 N a0 a1) (funext fun a => lp4_eq N a0 a1 a))).trans h⟩)
end laws_eqStringS
namespace laws_eqBranchS
noncomputable def code : Code := Tryz.f103.body.getD .skip
abbrev live : Live := [(4, [0, 1, 5])]
noncomputable def G (N : Nat) (x_laws_eqBranch : Branch → Branch → Option laws_eqBranch.R) : Ctx E := gam [(53, [], laws_eqBranch.spf x_laws_eqBranch)]
noncomputable def loop4 : Code := codeAt code [1, 1, 0, 1, 0]
noncomputable def body4 : Code := codeAt loop4 [0]
noncomputable def K4 (N : Nat) (x_laws_eqBranch : Branch → Branch → Option laws_eqBranch.R) (o0 : Orc E R) : KT E R := kAt T (G N x_laws_eqBranch) live [] o0 code [1, 1, 0, 1, 0] (kfin T Tryz.f103 (sp N x_laws_eqBranch))
noncomputable def St4 (x_laws_eqBranch : Branch → Branch → Option laws_eqBranch.R) (a0 : List Branch) (a1 : List Branch) : Int → St E
  | v2 => { ρ := [(0, .c (.at (.ro 27 (.st 27) a0))), (1, .c (.at (.ro 27 (.st 27) a1))), (5, .c (.at (.int .i64 v2)))], H := [], nx := 0, n := 27, pin := [] }
noncomputable def m0 (N : Nat) (x_laws_eqBranch : Branch → Branch → Option laws_eqBranch.R) (a0 : List Branch) (a1 : List Branch) (lp4 : Int → Option R) : Option R :=
  bif ((a0.length : Int) != (a1.length : Int)) then
    some false
  else
  lp4 (0:Int)
theorem run (N : Nat) (o0 : Orc E R) (x_laws_eqBranch : Branch → Branch → Option laws_eqBranch.R) (a0 : List Branch) (a1 : List Branch) : runF T (G N x_laws_eqBranch) live [] Tryz.f103 code (sp N x_laws_eqBranch) o0 (a0, a1, ()) = m0 N x_laws_eqBranch a0 a1 (fun a => o0 loop4 (K4 N x_laws_eqBranch o0) (St4 x_laws_eqBranch a0 a1 a)) := by kernel_rfl
theorem body4_0 (N : Nat) (o0 : Orc E R) (o1 : Orc E R) (q1 : St E → Option R) (x_laws_eqBranch : Branch → Branch → Option laws_eqBranch.R) (a0 : List Branch) (a1 : List Branch) (v2 : Int) : runA T (G N x_laws_eqBranch) live [] o1 body4 (St4 x_laws_eqBranch a0 a1 v2) (kloop [0, 1, 5] q1 (K4 N x_laws_eqBranch o0)) = step4 N x_laws_eqBranch a0 a1 (fun a => q1 (St4 x_laws_eqBranch a0 a1 a)) v2 := by kernel_rfl
theorem lp4_eq (N : Nat) (x_laws_eqBranch : Branch → Branch → Option laws_eqBranch.R) (a0 : List Branch) (a1 : List Branch) (a : Int) : (orc T (G N x_laws_eqBranch) live [] N 2) loop4 (K4 N x_laws_eqBranch (orc T (G N x_laws_eqBranch) live [] N 2)) (St4 x_laws_eqBranch a0 a1 a) = lp4 N x_laws_eqBranch a0 a1 a :=
  (orc_loop (b := body4) (live := [0, 1, 5]) (by kernel_rfl)).trans (iter_eq (St4 x_laws_eqBranch a0 a1) _ _ (fun q1 a => by
    have hc := congrFun (congrFun (rfl : (step4 N x_laws_eqBranch a0 a1) = (step4 N x_laws_eqBranch a0 a1)) (fun a => q1 (St4 x_laws_eqBranch a0 a1 a))) a
    exact (body4_0 N (orc T (G N x_laws_eqBranch) live [] N 2) (orc T (G N x_laws_eqBranch) live [] N 1) q1 x_laws_eqBranch a0 a1 a).trans hc) N a)
theorem G_ok (N : Nat) (x_laws_eqBranch : Branch → Branch → Option laws_eqBranch.R) (hx_laws_eqBranch : Sound Tryz.prog E 53 (laws_eqBranch.spf x_laws_eqBranch)) : GamOK Tryz.prog (G N x_laws_eqBranch) := gam_ok (l := [(53, [], laws_eqBranch.spf x_laws_eqBranch)]) (⟨hx_laws_eqBranch, trivial⟩)
theorem snd (N : Nat) (x_laws_eqBranch : Branch → Branch → Option laws_eqBranch.R) (hx_laws_eqBranch : Sound Tryz.prog E 53 (laws_eqBranch.spf x_laws_eqBranch)) : Sound Tryz.prog E 103 (sp N x_laws_eqBranch) :=
  Mir.sound T_OK (G_ok N x_laws_eqBranch hx_laws_eqBranch) mixed Tryz.func103 (c := code) (by kernel_rfl) (by kernel_rfl) (sp N x_laws_eqBranch) (Nat.le_of_ble_eq_true (by kernel_rfl)) live [] (by
    rintro ⟨a0, a1, _⟩ r h
    exact ⟨N, 2, ((run N _ x_laws_eqBranch a0 a1).trans (congrArg (m0 N x_laws_eqBranch a0 a1) (funext fun a => lp4_eq N x_laws_eqBranch a0 a1 a))).trans h⟩)
end laws_eqBranchS
namespace laws_eqBranch
noncomputable def code : Code := Tryz.f53.body.getD .skip
abbrev live : Live := []
noncomputable def G (N : Nat) (slf : Branch → Branch → Option R) : Ctx E := gam [(103, [], laws_eqBranchS.sp N slf)]
noncomputable def m0 (N : Nat) (slf : Branch → Branch → Option R) (a0 : Branch) (a1 : Branch) : Option R :=
  bif (!seq a0.Key a1.Key) then
    some false
  else
  bif (!seq a0.Value a1.Value) then
    some false
  else
  bif (a0.At != a1.At) then
    some false
  else
  ob (laws_eqBranchS.m N slf a0.Kids a1.Kids) fun y1 =>
  bif (!y1) then
    some false
  else
  some true
theorem run (N : Nat) (o0 : Orc E R) (slf : Branch → Branch → Option R) (a0 : Branch) (a1 : Branch) : runF T (G N slf) live [] Tryz.f53 code (spf (mb N slf)) o0 (a0, a1, ()) = m0 N slf a0 a1 := by kernel_rfl
theorem G_ok (N : Nat) (slf : Branch → Branch → Option R) (hs : Sound Tryz.prog E 53 (spf slf)) : GamOK Tryz.prog (G N slf) := gam_ok (l := [(103, [], laws_eqBranchS.sp N slf)]) (⟨laws_eqBranchS.snd N slf hs, trivial⟩)
theorem sndF (N : Nat) : ∀ n, Sound Tryz.prog E 53 (spf (mF N n))
  | 0 => sound_none Tryz.func53 (c := code) (by kernel_rfl) (by kernel_rfl) (spf (mF N 0)) (fun _ => rfl)
  | n + 1 => by
    have hr := fun (a0 : Branch) (a1 : Branch) => (run N (orc T (G N (mF N n)) live [] N 2) (mF N n) a0 a1).trans rfl
    exact Mir.sound T_OK (G_ok N (mF N n) (sndF N n)) mixed Tryz.func53 (c := code) (by kernel_rfl) (by kernel_rfl) (spf (mF N (n + 1))) (Nat.le_of_ble_eq_true (by kernel_rfl)) live [] (by
      rintro ⟨a0, a1, _⟩ r h
      exact ⟨N, 2, (hr a0 a1).trans h⟩)
theorem snd (N : Nat) : Sound Tryz.prog E 53 (sp N) := sndF N N
end laws_eqBranch
namespace laws_eqReply
noncomputable def code : Code := Tryz.f28.body.getD .skip
abbrev live : Live := []
noncomputable def G (N : Nat) : Ctx E := gam []
noncomputable def m0 (N : Nat) (a0 : Reply) (a1 : Reply) : Option R :=
  bif (a0.Kind != a1.Kind) then
    some false
  else
  bif (a0.Place != a1.Place) then
    some false
  else
  bif (!seq a0.Value a1.Value) then
    some false
  else
  some true
theorem run (N : Nat) (o0 : Orc E R) (a0 : Reply) (a1 : Reply) : runF T (G N) live [] Tryz.f28 code (sp N) o0 (a0, a1, ()) = m0 N a0 a1 := by kernel_rfl
theorem G_ok (N : Nat) : GamOK Tryz.prog (G N) := gam_ok (l := []) (trivial)
theorem snd (N : Nat) : Sound Tryz.prog E 28 (sp N) :=
  Mir.sound T_OK (G_ok N) mixed Tryz.func28 (c := code) (by kernel_rfl) (by kernel_rfl) (sp N) (Nat.le_of_ble_eq_true (by kernel_rfl)) live [] (by
    rintro ⟨a0, a1, _⟩ r h
    exact ⟨N, 2, ((run N _ a0 a1).trans rfl).trans h⟩)
end laws_eqReply
namespace laws_eqSession
noncomputable def code : Code := Tryz.f104.body.getD .skip
abbrev live : Live := []
noncomputable def G (N : Nat) : Ctx E := gam [(28, [], laws_eqReply.sp N)]
noncomputable def m0 (N : Nat) (a0 : Session) (a1 : Session) : Option R :=
  bif (a0.Id != a1.Id) then
    some false
  else
  bif (a0.Seq != a1.Seq) then
    some false
  else
  ob (laws_eqReply.m N (Reply.mk a0.Last.Kind a0.Last.Place a0.Last.Value) (Reply.mk a1.Last.Kind a1.Last.Place a1.Last.Value)) fun y1 =>
  bif (!y1) then
    some false
  else
  some true
theorem run (N : Nat) (o0 : Orc E R) (a0 : Session) (a1 : Session) : runF T (G N) live [] Tryz.f104 code (sp N) o0 (a0, a1, ()) = m0 N a0 a1 := by kernel_rfl
theorem G_ok (N : Nat) : GamOK Tryz.prog (G N) := gam_ok (l := [(28, [], laws_eqReply.sp N)]) (⟨laws_eqReply.snd N, trivial⟩)
theorem snd (N : Nat) : Sound Tryz.prog E 104 (sp N) :=
  Mir.sound T_OK (G_ok N) mixed Tryz.func104 (c := code) (by kernel_rfl) (by kernel_rfl) (sp N) (Nat.le_of_ble_eq_true (by kernel_rfl)) live [] (by
    rintro ⟨a0, a1, _⟩ r h
    exact ⟨N, 2, ((run N _ a0 a1).trans rfl).trans h⟩)
end laws_eqSession
namespace laws_eqSessionS
noncomputable def code : Code := Tryz.f54.body.getD .skip
abbrev live : Live := [(4, [0, 1, 5])]
noncomputable def G (N : Nat) : Ctx E := gam [(104, [], laws_eqSession.sp N)]
noncomputable def loop4 : Code := codeAt code [1, 1, 0, 1, 0]
noncomputable def body4 : Code := codeAt loop4 [0]
noncomputable def K4 (N : Nat) (o0 : Orc E R) : KT E R := kAt T (G N) live [] o0 code [1, 1, 0, 1, 0] (kfin T Tryz.f54 (sp N))
noncomputable def St4 (a0 : List Session) (a1 : List Session) : Int → St E
  | v2 => { ρ := [(0, .c (.at (.ro 131 (.st 131) a0))), (1, .c (.at (.ro 131 (.st 131) a1))), (5, .c (.at (.int .i64 v2)))], H := [], nx := 0, n := 27, pin := [] }
noncomputable def m0 (N : Nat) (a0 : List Session) (a1 : List Session) (lp4 : Int → Option R) : Option R :=
  bif ((a0.length : Int) != (a1.length : Int)) then
    some false
  else
  lp4 (0:Int)
theorem run (N : Nat) (o0 : Orc E R) (a0 : List Session) (a1 : List Session) : runF T (G N) live [] Tryz.f54 code (sp N) o0 (a0, a1, ()) = m0 N a0 a1 (fun a => o0 loop4 (K4 N o0) (St4 a0 a1 a)) := by kernel_rfl
theorem body4_0 (N : Nat) (o0 : Orc E R) (o1 : Orc E R) (q1 : St E → Option R) (a0 : List Session) (a1 : List Session) (v2 : Int) : runA T (G N) live [] o1 body4 (St4 a0 a1 v2) (kloop [0, 1, 5] q1 (K4 N o0)) = step4 N a0 a1 (fun a => q1 (St4 a0 a1 a)) v2 := by kernel_rfl
theorem lp4_eq (N : Nat) (a0 : List Session) (a1 : List Session) (a : Int) : (orc T (G N) live [] N 2) loop4 (K4 N (orc T (G N) live [] N 2)) (St4 a0 a1 a) = lp4 N a0 a1 a :=
  (orc_loop (b := body4) (live := [0, 1, 5]) (by kernel_rfl)).trans (iter_eq (St4 a0 a1) _ _ (fun q1 a => by
    have hc := congrFun (congrFun (rfl : (step4 N a0 a1) = (step4 N a0 a1)) (fun a => q1 (St4 a0 a1 a))) a
    exact (body4_0 N (orc T (G N) live [] N 2) (orc T (G N) live [] N 1) q1 a0 a1 a).trans hc) N a)
theorem G_ok (N : Nat) : GamOK Tryz.prog (G N) := gam_ok (l := [(104, [], laws_eqSession.sp N)]) (⟨laws_eqSession.snd N, trivial⟩)
theorem snd (N : Nat) : Sound Tryz.prog E 54 (sp N) :=
  Mir.sound T_OK (G_ok N) mixed Tryz.func54 (c := code) (by kernel_rfl) (by kernel_rfl) (sp N) (Nat.le_of_ble_eq_true (by kernel_rfl)) live [] (by
    rintro ⟨a0, a1, _⟩ r h
    exact ⟨N, 2, ((run N _ a0 a1).trans (congrArg (m0 N a0 a1) (funext fun a => lp4_eq N a0 a1 a))).trans h⟩)
end laws_eqSessionS
namespace laws_eqLedger
noncomputable def code : Code := Tryz.f14.body.getD .skip
abbrev live : Live := []
noncomputable def G (N : Nat) : Ctx E := gam [(52, [], laws_eqStringS.sp N), (53, [], laws_eqBranch.sp N), (54, [], laws_eqSessionS.sp N)]
noncomputable def m0 (N : Nat) (a0 : Ledger) (a1 : Ledger) : Option R :=
  ob (laws_eqStringS.m N a0.Leaves a1.Leaves) fun y1 =>
  bif (!y1) then
    some false
  else
  ob (laws_eqBranch.m N (Branch.mk a0.Map.Key a0.Map.Value a0.Map.At a0.Map.Kids) (Branch.mk a1.Map.Key a1.Map.Value a1.Map.At a1.Map.Kids)) fun y2 =>
  bif (!y2) then
    some false
  else
  ob (laws_eqSessionS.m N a0.Sessions a1.Sessions) fun y3 =>
  bif (!y3) then
    some false
  else
  some true
theorem run (N : Nat) (o0 : Orc E R) (a0 : Ledger) (a1 : Ledger) : runF T (G N) live [] Tryz.f14 code (sp N) o0 (a0, a1, ()) = m0 N a0 a1 := by kernel_rfl
theorem G_ok (N : Nat) : GamOK Tryz.prog (G N) := gam_ok (l := [(52, [], laws_eqStringS.sp N), (53, [], laws_eqBranch.sp N), (54, [], laws_eqSessionS.sp N)]) (⟨laws_eqStringS.snd N, laws_eqBranch.snd N, laws_eqSessionS.snd N, trivial⟩)
theorem snd (N : Nat) : Sound Tryz.prog E 14 (sp N) :=
  Mir.sound T_OK (G_ok N) mixed Tryz.func14 (c := code) (by kernel_rfl) (by kernel_rfl) (sp N) (Nat.le_of_ble_eq_true (by kernel_rfl)) live [] (by
    rintro ⟨a0, a1, _⟩ r h
    exact ⟨N, 2, ((run N _ a0 a1).trans rfl).trans h⟩)
end laws_eqLedger
namespace laws_markText
noncomputable def code : Code := Tryz.f56.body.getD .skip
abbrev live : Live := [(4, [0, 3])]
noncomputable def G (N : Nat) : Ctx E := gam []
noncomputable def loop4 : Code := codeAt code [1, 1, 1, 0, 0]
noncomputable def body4 : Code := codeAt loop4 [0]
noncomputable def K4 (N : Nat) (o0 : Orc E R) : KT E R := kAt T (G N) live [] o0 code [1, 1, 1, 0, 0] (kfin T Tryz.f56 (sp N))
noncomputable def St4 (a0 : Int) : (Int × ByteArray) → St E
  | (v0, v1) => { ρ := [(0, .c (.at (.int .i64 v0))), (3, .c (.at (.str v1)))], H := [], nx := 0, n := 20, pin := [] }
noncomputable def m0 (N : Nat) (a0 : Int) (lp4 : Int × ByteArray → Option R) : Option R :=
  bif (decide (a0 ≤ (0:Int))) then
    some (⟨#[109, 48]⟩ : ByteArray)
  else
  lp4 (a0, ByteArray.empty)
theorem run (N : Nat) (o0 : Orc E R) (a0 : Int) : runF T (G N) live [] Tryz.f56 code (sp N) o0 (a0, ()) = m0 N a0 (fun a => o0 loop4 (K4 N o0) (St4 a0 a)) := by kernel_rfl
theorem body4_0 (N : Nat) (o0 : Orc E R) (o1 : Orc E R) (q1 : St E → Option R) (a0 : Int) (v0 : Int) (v1 : ByteArray) : runA T (G N) live [] o1 body4 (St4 a0 (v0, v1)) (kloop [0, 3] q1 (K4 N o0)) = step4 N a0 (fun a => q1 (St4 a0 a)) (v0, v1) := by kernel_rfl
theorem lp4_eq (N : Nat) (a0 : Int) (a : Int × ByteArray) : (orc T (G N) live [] N 2) loop4 (K4 N (orc T (G N) live [] N 2)) (St4 a0 a) = lp4 N a0 a :=
  (orc_loop (b := body4) (live := [0, 3]) (by kernel_rfl)).trans (iter_eq (St4 a0) _ _ (fun q1 a => by
    have hc := congrFun (congrFun (rfl : (step4 N a0) = (step4 N a0)) (fun a => q1 (St4 a0 a))) a
    obtain ⟨u0, u1⟩ := a
    exact (body4_0 N (orc T (G N) live [] N 2) (orc T (G N) live [] N 1) q1 a0 u0 u1).trans hc) N a)
theorem G_ok (N : Nat) : GamOK Tryz.prog (G N) := gam_ok (l := []) (trivial)
theorem snd (N : Nat) : Sound Tryz.prog E 56 (sp N) :=
  Mir.sound T_OK (G_ok N) mixed Tryz.func56 (c := code) (by kernel_rfl) (by kernel_rfl) (sp N) (Nat.le_of_ble_eq_true (by kernel_rfl)) live [] (by
    rintro ⟨a0, _⟩ r h
    exact ⟨N, 2, ((run N _ a0).trans (congrArg (m0 N a0) (funext fun a => lp4_eq N a0 a))).trans h⟩)
end laws_markText
namespace laws_markStringS
noncomputable def code : Code := Tryz.f57.body.getD .skip
abbrev live : Live := [(2, [0, 1, 5])]
noncomputable def G (N : Nat) : Ctx E := gam [(56, [], laws_markText.sp N)]
noncomputable def loop2 : Code := codeAt code [1, 0, 1, 0]
noncomputable def body2 : Code := codeAt loop2 [0]
noncomputable def K2 (N : Nat) (o0 : Orc E R) : KT E R := kAt T (G N) live [] o0 code [1, 0, 1, 0] (kfin T Tryz.f57 (sp N))
noncomputable def St2 (a0 : List ByteArray) (a1 : Int) : (Int × Int × (List ByteArray)) → St E
  | (v0, v1, v2) => { ρ := [(0, .c (.at (.own 0))), (1, .c (.at (.int .i64 v0))), (5, .c (.at (.int .i64 v1)))], H := [(0, .row 9 .str v2 false)], nx := 1, n := 20, pin := [0] }
noncomputable def m0 (N : Nat) (a0 : List ByteArray) (a1 : Int) (lp2 : Int × Int × (List ByteArray) → Option R) : Option R :=
  lp2 (a1, (0:Int), a0)
theorem run (N : Nat) (o0 : Orc E R) (a0 : List ByteArray) (a1 : Int) : runF T (G N) live [] Tryz.f57 code (sp N) o0 (a0, a1, ()) = m0 N a0 a1 (fun a => o0 loop2 (K2 N o0) (St2 a0 a1 a)) := by kernel_rfl
theorem body2_0 (N : Nat) (o0 : Orc E R) (o1 : Orc E R) (q1 : St E → Option R) (a0 : List ByteArray) (a1 : Int) (v0 : Int) (v1 : Int) (v2 : List ByteArray) : runA T (G N) live [] o1 body2 (St2 a0 a1 (v0, v1, v2)) (kloop [0, 1, 5] q1 (K2 N o0)) = step2 N a0 a1 (fun a => q1 (St2 a0 a1 a)) (v0, v1, v2) := by kernel_rfl
theorem lp2_eq (N : Nat) (a0 : List ByteArray) (a1 : Int) (a : Int × Int × (List ByteArray)) : (orc T (G N) live [] N 2) loop2 (K2 N (orc T (G N) live [] N 2)) (St2 a0 a1 a) = lp2 N a0 a1 a :=
  (orc_loop (b := body2) (live := [0, 1, 5]) (by kernel_rfl)).trans (iter_eq (St2 a0 a1) _ _ (fun q1 a => by
    have hc := congrFun (congrFun (rfl : (step2 N a0 a1) = (step2 N a0 a1)) (fun a => q1 (St2 a0 a1 a))) a
    obtain ⟨u0, u1, u2⟩ := a
    exact (body2_0 N (orc T (G N) live [] N 2) (orc T (G N) live [] N 1) q1 a0 a1 u0 u1 u2).trans hc) N a)
theorem G_ok (N : Nat) : GamOK Tryz.prog (G N) := gam_ok (l := [(56, [], laws_markText.sp N)]) (⟨laws_markText.snd N, trivial⟩)
theorem snd (N : Nat) : Sound Tryz.prog E 57 (sp N) :=
  Mir.sound T_OK (G_ok N) mixed Tryz.func57 (c := code) (by kernel_rfl) (by kernel_rfl) (sp N) (Nat.le_of_ble_eq_true (by kernel_rfl)) live [] (by
    rintro ⟨a0, a1, _⟩ r h
    exact ⟨N, 2, ((run N _ a0 a1).trans (congrArg (m0 N a0 a1) (funext fun a => lp2_eq N a0 a1 a))).trans h⟩)
end laws_markStringS
namespace laws_markBranchS
noncomputable def code : Code := Tryz.f105.body.getD .skip
abbrev live : Live := [(2, [0, 1, 5])]
noncomputable def G (N : Nat) (slf : (List Branch) → Int → Option R) : Ctx E := gam [(56, [], laws_markText.sp N), (105, [], spf slf)]
noncomputable def loop2 : Code := codeAt code [1, 0, 1, 0]
noncomputable def body2 : Code := codeAt loop2 [0]
noncomputable def K2 (N : Nat) (slf : (List Branch) → Int → Option R) (o0 : Orc E R) : KT E R := kAt TD (G N slf) live [] o0 code [1, 0, 1, 0] (kfin TD Tryz.f105 (spf (mb N slf)))
noncomputable def St2 (slf : (List Branch) → Int → Option R) (a0 : List Branch) (a1 : Int) : (Int × Int × (List Branch)) → St E
  | (v0, v1, v2) => { ρ := [(0, .c (.at (.own 0))), (1, .c (.at (.int .i64 v0))), (5, .c (.at (.int .i64 v1)))], H := [(0, .drow 27 (.st 27) v2 1), (1, .hdr)], nx := 2, n := 43, pin := [0] }
noncomputable def m0 (N : Nat) (slf : (List Branch) → Int → Option R) (a0 : List Branch) (a1 : Int) (lp2 : Int × Int × (List Branch) → Option R) : Option R :=
  lp2 (a1, (0:Int), a0)
theorem run (N : Nat) (o0 : Orc E R) (slf : (List Branch) → Int → Option R) (a0 : List Branch) (a1 : Int) : runF TD (G N slf) live [] Tryz.f105 code (spf (mb N slf)) o0 (a0, a1, ()) = m0 N slf a0 a1 (fun a => o0 loop2 (K2 N slf o0) (St2 slf a0 a1 a)) := by kernel_rfl
theorem body2_0 (N : Nat) (o0 : Orc E R) (o1 : Orc E R) (q1 : St E → Option R) (slf : (List Branch) → Int → Option R) (a0 : List Branch) (a1 : Int) (v0 : Int) (v1 : Int) (v2 : List Branch) : runA TD (G N slf) live [] o1 body2 (St2 slf a0 a1 (v0, v1, v2)) (kloop [0, 1, 5] q1 (K2 N slf o0)) = step2 N slf a0 a1 (fun a => q1 (St2 slf a0 a1 a)) (v0, v1, v2) := by kernel_rfl
theorem lp2_eq (N : Nat) (slf : (List Branch) → Int → Option R) (a0 : List Branch) (a1 : Int) (a : Int × Int × (List Branch)) : (orc TD (G N slf) live [] N 2) loop2 (K2 N slf (orc TD (G N slf) live [] N 2)) (St2 slf a0 a1 a) = lp2 N slf a0 a1 a :=
  (orc_loop (b := body2) (live := [0, 1, 5]) (by kernel_rfl)).trans (iter_eq (St2 slf a0 a1) _ _ (fun q1 a => by
    have hc := congrFun (congrFun (rfl : (step2 N slf a0 a1) = (step2 N slf a0 a1)) (fun a => q1 (St2 slf a0 a1 a))) a
    obtain ⟨u0, u1, u2⟩ := a
    exact (body2_0 N (orc TD (G N slf) live [] N 2) (orc TD (G N slf) live [] N 1) q1 slf a0 a1 u0 u1 u2).trans hc) N a)
theorem G_ok (N : Nat) (slf : (List Branch) → Int → Option R) (hs : Sound Tryz.prog E 105 (spf slf)) : GamOK Tryz.prog (G N slf) := gam_ok (l := [(56, [], laws_markText.sp N), (105, [], spf slf)]) (⟨laws_markText.snd N, hs, trivial⟩)
theorem sndF (N : Nat) : ∀ n, Sound Tryz.prog E 105 (spf (mF N n))
  | 0 => sound_none Tryz.func105 (c := code) (by kernel_rfl) (by kernel_rfl) (spf (mF N 0)) (fun _ => rfl)
  | n + 1 => by
    have hr := fun (a0 : List Branch) (a1 : Int) => (run N (orc TD (G N (mF N n)) live [] N 2) (mF N n) a0 a1).trans (congrArg (m0 N (mF N n) a0 a1) (funext fun a => lp2_eq N (mF N n) a0 a1 a))
    exact Mir.sound TD_OK (G_ok N (mF N n) (sndF N n)) mixed Tryz.func105 (c := code) (by kernel_rfl) (by kernel_rfl) (spf (mF N (n + 1))) (Nat.le_of_ble_eq_true (by kernel_rfl)) live [] (by
      rintro ⟨a0, a1, _⟩ r h
      exact ⟨N, 2, (hr a0 a1).trans h⟩)
theorem snd (N : Nat) : Sound Tryz.prog E 105 (sp N) := sndF N N
end laws_markBranchS
namespace laws_markBranch
noncomputable def code : Code := Tryz.f58.body.getD .skip
abbrev live : Live := []
noncomputable def G (N : Nat) : Ctx E := gam [(105, [], laws_markBranchS.sp N)]
noncomputable def m0 (N : Nat) (a0 : Branch) (a1 : Int) : Option R :=
  ob (laws_markBranchS.m N a0.Kids a1) fun y1 =>
  some (y1.1, (Branch.mk a0.Key a0.Value a0.At y1.2))
theorem run (N : Nat) (o0 : Orc E R) (a0 : Branch) (a1 : Int) : runF TD (G N) live [] Tryz.f58 code (sp N) o0 (a0, a1, ()) = m0 N a0 a1 := by kernel_rfl
theorem G_ok (N : Nat) : GamOK Tryz.prog (G N) := gam_ok (l := [(105, [], laws_markBranchS.sp N)]) (⟨laws_markBranchS.snd N, trivial⟩)
theorem snd (N : Nat) : Sound Tryz.prog E 58 (sp N) :=
  Mir.sound TD_OK (G_ok N) mixed Tryz.func58 (c := code) (by kernel_rfl) (by kernel_rfl) (sp N) (Nat.le_of_ble_eq_true (by kernel_rfl)) live [] (by
    rintro ⟨a0, a1, _⟩ r h
    exact ⟨N, 2, ((run N _ a0 a1).trans rfl).trans h⟩)
end laws_markBranch
namespace laws_markSessionS
noncomputable def code : Code := Tryz.f59.body.getD .skip
abbrev live : Live := [(2, [0, 1, 5])]
noncomputable def G (N : Nat) : Ctx E := gam [(56, [], laws_markText.sp N)]
noncomputable def loop2 : Code := codeAt code [1, 0, 1, 0]
noncomputable def body2 : Code := codeAt loop2 [0]
noncomputable def K2 (N : Nat) (o0 : Orc E R) : KT E R := kAt T (G N) live [] o0 code [1, 0, 1, 0] (kfin T Tryz.f59 (sp N))
noncomputable def St2 (a0 : List Session) (a1 : Int) : (Int × Int × (List Session)) → St E
  | (v0, v1, v2) => { ρ := [(0, .c (.at (.own 0))), (1, .c (.at (.int .i64 v0))), (5, .c (.at (.int .i64 v1)))], H := [(0, .row 131 (.st 131) v2 false)], nx := 1, n := 52, pin := [0] }
noncomputable def m0 (N : Nat) (a0 : List Session) (a1 : Int) (lp2 : Int × Int × (List Session) → Option R) : Option R :=
  lp2 (a1, (0:Int), a0)
theorem run (N : Nat) (o0 : Orc E R) (a0 : List Session) (a1 : Int) : runF T (G N) live [] Tryz.f59 code (sp N) o0 (a0, a1, ()) = m0 N a0 a1 (fun a => o0 loop2 (K2 N o0) (St2 a0 a1 a)) := by kernel_rfl
theorem body2_0 (N : Nat) (o0 : Orc E R) (o1 : Orc E R) (q1 : St E → Option R) (a0 : List Session) (a1 : Int) (v0 : Int) (v1 : Int) (v2 : List Session) : runA T (G N) live [] o1 body2 (St2 a0 a1 (v0, v1, v2)) (kloop [0, 1, 5] q1 (K2 N o0)) = step2 N a0 a1 (fun a => q1 (St2 a0 a1 a)) (v0, v1, v2) := by kernel_rfl
theorem lp2_eq (N : Nat) (a0 : List Session) (a1 : Int) (a : Int × Int × (List Session)) : (orc T (G N) live [] N 2) loop2 (K2 N (orc T (G N) live [] N 2)) (St2 a0 a1 a) = lp2 N a0 a1 a :=
  (orc_loop (b := body2) (live := [0, 1, 5]) (by kernel_rfl)).trans (iter_eq (St2 a0 a1) _ _ (fun q1 a => by
    have hc := congrFun (congrFun (rfl : (step2 N a0 a1) = (step2 N a0 a1)) (fun a => q1 (St2 a0 a1 a))) a
    obtain ⟨u0, u1, u2⟩ := a
    exact (body2_0 N (orc T (G N) live [] N 2) (orc T (G N) live [] N 1) q1 a0 a1 u0 u1 u2).trans hc) N a)
theorem G_ok (N : Nat) : GamOK Tryz.prog (G N) := gam_ok (l := [(56, [], laws_markText.sp N)]) (⟨laws_markText.snd N, trivial⟩)
theorem snd (N : Nat) : Sound Tryz.prog E 59 (sp N) :=
  Mir.sound T_OK (G_ok N) mixed Tryz.func59 (c := code) (by kernel_rfl) (by kernel_rfl) (sp N) (Nat.le_of_ble_eq_true (by kernel_rfl)) live [] (by
    rintro ⟨a0, a1, _⟩ r h
    exact ⟨N, 2, ((run N _ a0 a1).trans (congrArg (m0 N a0 a1) (funext fun a => lp2_eq N a0 a1 a))).trans h⟩)
end laws_markSessionS
end Mir.Y
