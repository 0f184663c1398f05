/- The models are what the functions do. -/
import Derived.Test.YtohcahijaoemjaaFP2
namespace Mir.Y
set_option linter.unusedVariables false
set_option maxRecDepth 10000
open Go Go.Proofs Mir
namespace impl_inclusion
noncomputable def code : Code := Try.f105.body.getD .skip
abbrev live : Live := []
noncomputable def G (N : Nat) (slf : (List ByteArray) → Int → Option R) : Ctx E := gam [(101, [], impl_split.sp N), (105, [], spf slf), (66, [], impl_treeHash.sp N)]
noncomputable def m0 (N : Nat) (slf : (List ByteArray) → Int → Option R) (a0 : List ByteArray) (a1 : Int) : Option R :=
  bif (decide ((a0.length : Int) ≤ (1:Int))) then
    some ([] : List ByteArray)
  else
  ob (impl_split.m N (a0.length : Int)) fun y1 =>
  bif (decide (a1 < y1)) then
    bif (decide (0 ≤ y1)) then
    bif (decide (y1 ≤ ((a0.length : Nat) : Int))) then
    ob (slf (a0.take (Int.toNat y1)) a1) fun y2 =>
    bif (decide (0 ≤ y1)) then
    bif (decide (y1 ≤ ((a0.length : Nat) : Int))) then
    ob (impl_treeHash.m N (a0.drop (Int.toNat y1))) fun y3 =>
    bif (room (y2.length + ([y3]).length) 16) then
    some (y2 ++ [y3])
    else none
    else none
    else none
    else none
    else none
  else
  bif (decide (0 ≤ y1)) then
  bif (decide (y1 ≤ ((a0.length : Nat) : Int))) then
  ob (slf (a0.drop (Int.toNat y1)) (w64 (a1 - y1))) fun y4 =>
  bif (decide (0 ≤ y1)) then
  bif (decide (y1 ≤ ((a0.length : Nat) : Int))) then
  ob (impl_treeHash.m N (a0.take (Int.toNat y1))) fun y5 =>
  bif (room (y4.length + ([y5]).length) 16) then
  some (y4 ++ [y5])
  else none
  else none
  else none
  else none
  else none
theorem run (N : Nat) (o0 : Orc E R) (slf : (List ByteArray) → Int → Option R) (a0 : List ByteArray) (a1 : Int) : runF T (G N slf) live [] Try.f105 code (spf (mb N slf)) o0 (a0, a1, ()) = m0 N slf a0 a1 := by kernel_rfl
theorem G_ok (N : Nat) (slf : (List ByteArray) → Int → Option R) (hs : Sound Try.prog E 105 (spf slf)) : GamOK Try.prog (G N slf) := gam_ok (l := [(101, [], impl_split.sp N), (105, [], spf slf), (66, [], impl_treeHash.sp N)]) (⟨impl_split.snd N, hs, impl_treeHash.snd N, trivial⟩)
theorem sndF (N : Nat) : ∀ n, Sound Try.prog E 105 (spf (mF N n))
  | 0 => sound_none Try.func105 (c := code) (by kernel_rfl) (by kernel_rfl) (spf (mF N 0)) (fun _ => rfl)
  | n + 1 => by
    have hr := fun (a0 : List ByteArray) (a1 : Int) => (run N (orc T (G N (mF N n)) live [] N 2) (mF N n) a0 a1).trans rfl
    exact Mir.sound T_OK (G_ok N (mF N n) (sndF N n)) mixed Try.func105 (c := code) (by kernel_rfl) (by kernel_rfl) (spf (mF N (n + 1))) (Nat.le_of_ble_eq_true (by kernel_rfl)) live [] (by
      rintro ⟨a0, a1, _⟩ r h
      exact ⟨N, 2, (hr a0 a1).trans h⟩)
theorem snd (N : Nat) : Sound Try.prog E 105 (sp N) := sndF N N
end impl_inclusion
namespace impl_signWith
noncomputable def code : Code := Try.f73.body.getD .skip
abbrev live : Live := [(3, [0, 1, 6, 7, 17, 18, 19])]
noncomputable def G (N : Nat) : Ctx E := gam [(67, [], impl_keyLeaves.sp N), (105, [], impl_inclusion.sp N), (61, [], impl_digits.sp N), (59, [], impl_secretPart.sp N), (55, [], impl_chain.sp N)]
noncomputable def loop3 : Code := codeAt code [1, 1, 0, 1, 0]
noncomputable def body3 : Code := codeAt loop3 [0]
noncomputable def K3 (N : Nat) (o0 : Orc E R) : KT E R := kAt T (G N) live [] o0 code [1, 1, 0, 1, 0] (kfin T Try.f73 (sp N))
noncomputable def St3 (a0 : ByteArray) (a1 : Int) (a2 : ByteArray) : A3 → St E
  | .s0 v2 v3 v4 v6 v7 => { ρ := [(0, .c (.at (.str a0))), (1, .c (.at (.int .i64 a1))), (6, .c (.at (.ptr 0 0))), (7, .c (.at (.ptr 1 0))), (17, .c (.at (.own 3))), (18, .c (.at (.int .i64 v2))), (19, .c (.at (.int .i64 v3)))], H := [(0, .box 44 [.int .i64 v4, .nils, .nils]), (1, .box 44 [.int .i64 a1, .nils, .own 2]), (2, .row 9 .str v6 false), (3, .row 3 (.int .i64) v7 false)], nx := 4, n := 37, pin := [] }
  | .s1 v2 v3 v4 v6 v7 v8 => { ρ := [(0, .c (.at (.str a0))), (1, .c (.at (.int .i64 a1))), (6, .c (.at (.ptr 0 0))), (7, .c (.at (.ptr 1 0))), (17, .c (.at (.own 4))), (18, .c (.at (.int .i64 v2))), (19, .c (.at (.int .i64 v3)))], H := [(0, .box 44 [.int .i64 v4, .nils, .nils]), (1, .box 44 [.int .i64 a1, .own 2, .own 3]), (2, .row 9 .str v6 false), (3, .row 9 .str v7 false), (4, .row 3 (.int .i64) v8 false)], nx := 5, n := 37, pin := [] }
noncomputable def m0 (N : Nat) (a0 : ByteArray) (a1 : Int) (a2 : ByteArray) (lp3 : A3 → Option R) : Option R :=
  ob (impl_keyLeaves.m N a0) fun y1 =>
  ob (impl_inclusion.m N y1 a1) fun y2 =>
  ob (impl_digits.m N a2) fun y3 =>
  lp3 (.s0 (y3.length : Int) (0:Int) (0:Int) y2 y3)
theorem run (N : Nat) (o0 : Orc E R) (a0 : ByteArray) (a1 : Int) (a2 : ByteArray) : runF T (G N) live [] Try.f73 code (sp N) o0 (a0, a1, a2, ()) = m0 N a0 a1 a2 (fun a => o0 loop3 (K3 N o0) (St3 a0 a1 a2 a)) := by kernel_rfl
theorem body3_0 (N : Nat) (o0 : Orc E R) (o1 : Orc E R) (q1 : St E → Option R) (a0 : ByteArray) (a1 : Int) (a2 : ByteArray) (v2 : Int) (v3 : Int) (v4 : Int) (v6 : List ByteArray) (v7 : List Int) : runA T (G N) live [] o1 body3 (St3 a0 a1 a2 (.s0 v2 v3 v4 v6 v7)) (kloop [0, 1, 6, 7, 17, 18, 19] q1 (K3 N o0)) = step3 N a0 a1 a2 (fun a => q1 (St3 a0 a1 a2 a)) (.s0 v2 v3 v4 v6 v7) := by kernel_rfl
theorem body3_1 (N : Nat) (o0 : Orc E R) (o1 : Orc E R) (q1 : St E → Option R) (a0 : ByteArray) (a1 : Int) (a2 : ByteArray) (v2 : Int) (v3 : Int) (v4 : Int) (v6 : List ByteArray) (v7 : List ByteArray) (v8 : List Int) : runA T (G N) live [] o1 body3 (St3 a0 a1 a2 (.s1 v2 v3 v4 v6 v7 v8)) (kloop [0, 1, 6, 7, 17, 18, 19] q1 (K3 N o0)) = step3 N a0 a1 a2 (fun a => q1 (St3 a0 a1 a2 a)) (.s1 v2 v3 v4 v6 v7 v8) := by kernel_rfl
theorem lp3_eq (N : Nat) (a0 : ByteArray) (a1 : Int) (a2 : ByteArray) (a : A3) : (orc T (G N) live [] N 2) loop3 (K3 N (orc T (G N) live [] N 2)) (St3 a0 a1 a2 a) = lp3 N a0 a1 a2 a :=
  (orc_loop (b := body3) (live := [0, 1, 6, 7, 17, 18, 19]) (by kernel_rfl)).trans (iter_eq (St3 a0 a1 a2) _ _ (fun q1 a => by
    have hc := congrFun (congrFun (rfl : (step3 N a0 a1 a2) = (step3 N a0 a1 a2)) (fun a => q1 (St3 a0 a1 a2 a))) a
    cases a with
    | s0 u0 u1 u2 u3 u4 => exact (body3_0 N (orc T (G N) live [] N 2) (orc T (G N) live [] N 1) q1 a0 a1 a2 u0 u1 u2 u3 u4).trans hc
    | s1 u0 u1 u2 u3 u4 u5 => exact (body3_1 N (orc T (G N) live [] N 2) (orc T (G N) live [] N 1) q1 a0 a1 a2 u0 u1 u2 u3 u4 u5).trans hc) N a)
theorem G_ok (N : Nat) : GamOK Try.prog (G N) := gam_ok (l := [(67, [], impl_keyLeaves.sp N), (105, [], impl_inclusion.sp N), (61, [], impl_digits.sp N), (59, [], impl_secretPart.sp N), (55, [], impl_chain.sp N)]) (⟨impl_keyLeaves.snd N, impl_inclusion.snd N, impl_digits.snd N, impl_secretPart.snd N, impl_chain.snd N, trivial⟩)
theorem snd (N : Nat) : Sound Try.prog E 73 (sp N) :=
  Mir.sound T_OK (G_ok N) mixed Try.func73 (c := code) (by kernel_rfl) (by kernel_rfl) (sp N) (Nat.le_of_ble_eq_true (by kernel_rfl)) live [] (by
    rintro ⟨a0, a1, a2, _⟩ r h
    exact ⟨N, 2, ((run N _ a0 a1 a2).trans (congrArg (m0 N a0 a1 a2) (funext fun a => lp3_eq N a0 a1 a2 a))).trans h⟩)
end impl_signWith
namespace impl_SignNext
noncomputable def code : Code := Try.f32.body.getD .skip
abbrev live : Live := []
noncomputable def G (N : Nat) : Ctx E := gam [(52, [], impl_isText.sp N), (34, [], impl_SignerOK.sp N), (54, [], impl_within.sp N), (72, [], slices_Clone_bool_bool.sp N), (73, [], impl_signWith.sp N)]
noncomputable def m0 (N : Nat) (a0 : Signer) (a1 : Int) (a2 : ByteArray) : Option R :=
  ob (impl_isText.m N ([a2])) fun y1 =>
  bif (!y1) then
    some ((Signer.mk ByteArray.empty ([] : List Bool)), (Signature.mk (0:Int) ([] : List ByteArray) ([] : List ByteArray)), (2:Int))
  else
  ob (impl_SignerOK.m N a0) fun y2 =>
  bif (!y2) then
    some ((Signer.mk ByteArray.empty ([] : List Bool)), (Signature.mk (0:Int) ([] : List ByteArray) ([] : List ByteArray)), (1:Int))
  else
  ob (impl_within.m N a1 (0:Int) (3:Int)) fun y3 =>
  bif (!y3) then
    some ((Signer.mk ByteArray.empty ([] : List Bool)), (Signature.mk (0:Int) ([] : List ByteArray) ([] : List ByteArray)), (4:Int))
  else
  ob (slices_Clone_bool_bool.m N a0.Used) fun y4 =>
  bif (decide (0 ≤ a1)) then
  bif (decide (a1 < (a0.Used.length : Int))) then
  bif (a0.Used.getD (Int.toNat a1) false) then
    some ((Signer.mk a0.Seed y4), (Signature.mk (0:Int) ([] : List ByteArray) ([] : List ByteArray)), (13:Int))
  else
  bif (decide (0 ≤ a1)) then
  bif (decide (a1 < (y4.length : Int))) then
  ob (impl_signWith.m N a0.Seed a1 a2) fun y5 =>
  some ((Signer.mk a0.Seed (y4.set (Int.toNat a1) true)), y5, (0:Int))
  else none
  else none
  else none
  else none
theorem run (N : Nat) (o0 : Orc E R) (a0 : Signer) (a1 : Int) (a2 : ByteArray) : runF T (G N) live [] Try.f32 code (sp N) o0 (a0, a1, a2, ()) = m0 N a0 a1 a2 := by kernel_rfl
theorem G_ok (N : Nat) : GamOK Try.prog (G N) := gam_ok (l := [(52, [], impl_isText.sp N), (34, [], impl_SignerOK.sp N), (54, [], impl_within.sp N), (72, [], slices_Clone_bool_bool.sp N), (73, [], impl_signWith.sp N)]) (⟨impl_isText.snd N, impl_SignerOK.snd N, impl_within.snd N, slices_Clone_bool_bool.snd N, impl_signWith.snd N, trivial⟩)
theorem snd (N : Nat) : Sound Try.prog E 32 (sp N) :=
  Mir.sound T_OK (G_ok N) mixed Try.func32 (c := code) (by kernel_rfl) (by kernel_rfl) (sp N) (Nat.le_of_ble_eq_true (by kernel_rfl)) live [] (by
    rintro ⟨a0, a1, a2, _⟩ r h
    exact ⟨N, 2, ((run N _ a0 a1 a2).trans rfl).trans h⟩)
end impl_SignNext
namespace spec_SignerOK
noncomputable def code : Code := Try.f74.body.getD .skip
abbrev live : Live := []
noncomputable def G (N : Nat) : Ctx E := gam []
noncomputable def m0 (N : Nat) (a0 : Signer) : Option R :=
  bif ((a0.Seed.size : Int) == (32:Int)) then
    some (bif true then ((a0.Used.length : Int) == (4:Int)) else false)
  else
  some false
theorem run (N : Nat) (o0 : Orc E R) (a0 : Signer) : runF T (G N) live [] Try.f74 code (sp N) o0 (a0, ()) = m0 N a0 := by kernel_rfl
theorem G_ok (N : Nat) : GamOK Try.prog (G N) := gam_ok (l := []) (trivial)
theorem snd (N : Nat) : Sound Try.prog E 74 (sp N) :=
  Mir.sound T_OK (G_ok N) mixed Try.func74 (c := code) (by kernel_rfl) (by kernel_rfl) (sp N) (Nat.le_of_ble_eq_true (by kernel_rfl)) live [] (by
    rintro ⟨a0, _⟩ r h
    exact ⟨N, 2, ((run N _ a0).trans rfl).trans h⟩)
end spec_SignerOK
namespace spec_l08Leaves
noncomputable def code : Code := Try.f65.body.getD .skip
abbrev live : Live := [(3, [0, 3, 4])]
noncomputable def G (N : Nat) : Ctx E := gam [(62, [], spec_l08Leaf.sp N)]
noncomputable def loop3 : Code := codeAt code [1, 1, 0, 1, 0]
noncomputable def body3 : Code := codeAt loop3 [0]
noncomputable def K3 (N : Nat) (o0 : Orc E R) : KT E R := kAt T (G N) live [] o0 code [1, 1, 0, 1, 0] (kfin T Try.f65 (sp N))
noncomputable def St3 (a0 : ByteArray) : (Int × (List ByteArray)) → St E
  | (v1, v2) => { ρ := [(0, .c (.at (.str a0))), (3, .c (.at (.own 0))), (4, .c (.at (.int .i64 v1)))], H := [(0, .row 9 .str v2 false)], nx := 1, n := 17, pin := [] }
noncomputable def m0 (N : Nat) (a0 : ByteArray) (lp3 : Int × (List ByteArray) → Option R) : Option R :=
  lp3 ((0:Int), ([] : List ByteArray))
theorem run (N : Nat) (o0 : Orc E R) (a0 : ByteArray) : runF T (G N) live [] Try.f65 code (sp N) o0 (a0, ()) = m0 N a0 (fun a => o0 loop3 (K3 N o0) (St3 a0 a)) := by kernel_rfl
theorem body3_0 (N : Nat) (o0 : Orc E R) (o1 : Orc E R) (q1 : St E → Option R) (a0 : ByteArray) (v1 : Int) (v2 : List ByteArray) : runA T (G N) live [] o1 body3 (St3 a0 (v1, v2)) (kloop [0, 3, 4] q1 (K3 N o0)) = step3 N a0 (fun a => q1 (St3 a0 a)) (v1, v2) := by kernel_rfl
theorem lp3_eq (N : Nat) (a0 : ByteArray) (a : Int × (List ByteArray)) : (orc T (G N) live [] N 2) loop3 (K3 N (orc T (G N) live [] N 2)) (St3 a0 a) = lp3 N a0 a :=
  (orc_loop (b := body3) (live := [0, 3, 4]) (by kernel_rfl)).trans (iter_eq (St3 a0) _ _ (fun q1 a => by
    have hc := congrFun (congrFun (rfl : (step3 N a0) = (step3 N a0)) (fun a => q1 (St3 a0 a))) a
    obtain ⟨u0, u1⟩ := a
    exact (body3_0 N (orc T (G N) live [] N 2) (orc T (G N) live [] N 1) q1 a0 u0 u1).trans hc) N a)
theorem G_ok (N : Nat) : GamOK Try.prog (G N) := gam_ok (l := [(62, [], spec_l08Leaf.sp N)]) (⟨spec_l08Leaf.snd N, trivial⟩)
theorem snd (N : Nat) : Sound Try.prog E 65 (sp N) :=
  Mir.sound T_OK (G_ok N) mixed Try.func65 (c := code) (by kernel_rfl) (by kernel_rfl) (sp N) (Nat.le_of_ble_eq_true (by kernel_rfl)) live [] (by
    rintro ⟨a0, _⟩ r h
    exact ⟨N, 2, ((run N _ a0).trans (congrArg (m0 N a0) (funext fun a => lp3_eq N a0 a))).trans h⟩)
end spec_l08Leaves
namespace spec_l06Half
noncomputable def code : Code := Try.f99.body.getD .skip
abbrev live : Live := [(2, [0, 3])]
noncomputable def G (N : Nat) : Ctx E := gam []
noncomputable def loop2 : Code := codeAt code [1, 1, 0, 0]
noncomputable def body2 : Code := codeAt loop2 [0]
noncomputable def K2 (N : Nat) (o0 : Orc E R) : KT E R := kAt T (G N) live [] o0 code [1, 1, 0, 0] (kfin T Try.f99 (sp N))
noncomputable def St2 (a0 : Int) : Int → St E
  | v1 => { ρ := [(0, .c (.at (.int .i64 a0))), (3, .c (.at (.int .i64 v1)))], H := [], nx := 0, n := 11, pin := [] }
noncomputable def m0 (N : Nat) (a0 : Int) (lp2 : Int → Option R) : Option R :=
  lp2 (1:Int)
theorem run (N : Nat) (o0 : Orc E R) (a0 : Int) : runF T (G N) live [] Try.f99 code (sp N) o0 (a0, ()) = m0 N a0 (fun a => o0 loop2 (K2 N o0) (St2 a0 a)) := by kernel_rfl
theorem body2_0 (N : Nat) (o0 : Orc E R) (o1 : Orc E R) (q1 : St E → Option R) (a0 : Int) (v1 : Int) : runA T (G N) live [] o1 body2 (St2 a0 v1) (kloop [0, 3] q1 (K2 N o0)) = step2 N a0 (fun a => q1 (St2 a0 a)) v1 := by kernel_rfl
theorem lp2_eq (N : Nat) (a0 : Int) (a : Int) : (orc T (G N) live [] N 2) loop2 (K2 N (orc T (G N) live [] N 2)) (St2 a0 a) = lp2 N a0 a :=
  (orc_loop (b := body2) (live := [0, 3]) (by kernel_rfl)).trans (iter_eq (St2 a0) _ _ (fun q1 a => by
    have hc := congrFun (congrFun (rfl : (step2 N a0) = (step2 N a0)) (fun a => q1 (St2 a0 a))) a
    exact (body2_0 N (orc T (G N) live [] N 2) (orc T (G N) live [] N 1) q1 a0 a).trans hc) N a)
theorem G_ok (N : Nat) : GamOK Try.prog (G N) := gam_ok (l := []) (trivial)
theorem snd (N : Nat) : Sound Try.prog E 99 (sp N) :=
  Mir.sound T_OK (G_ok N) mixed Try.func99 (c := code) (by kernel_rfl) (by kernel_rfl) (sp N) (Nat.le_of_ble_eq_true (by kernel_rfl)) live [] (by
    rintro ⟨a0, _⟩ r h
    exact ⟨N, 2, ((run N _ a0).trans (congrArg (m0 N a0) (funext fun a => lp2_eq N a0 a))).trans h⟩)
end spec_l06Half
namespace spec_l06Node
noncomputable def code : Code := Try.f100.body.getD .skip
abbrev live : Live := []
noncomputable def G (N : Nat) : Ctx E := gam [(91, [], spec_l01Hash.sp N)]
noncomputable def m0 (N : Nat) (a0 : ByteArray) (a1 : ByteArray) : Option R :=
  bif (room (([(1:Int)]).length + (bytesOf a0).length) 1) then
  bif (room (([(1:Int)] ++ (bytesOf a0)).length + (bytesOf a1).length) 1) then
  ob (spec_l01Hash.m N (([(1:Int)] ++ (bytesOf a0)) ++ (bytesOf a1))) fun y1 =>
  some y1
  else none
  else none
theorem run (N : Nat) (o0 : Orc E R) (a0 : ByteArray) (a1 : ByteArray) : runF T (G N) live [] Try.f100 code (sp N) o0 (a0, a1, ()) = m0 N a0 a1 := by kernel_rfl
theorem G_ok (N : Nat) : GamOK Try.prog (G N) := gam_ok (l := [(91, [], spec_l01Hash.sp N)]) (⟨spec_l01Hash.snd N, trivial⟩)
theorem snd (N : Nat) : Sound Try.prog E 100 (sp N) :=
  Mir.sound T_OK (G_ok N) mixed Try.func100 (c := code) (by kernel_rfl) (by kernel_rfl) (sp N) (Nat.le_of_ble_eq_true (by kernel_rfl)) live [] (by
    rintro ⟨a0, a1, _⟩ r h
    exact ⟨N, 2, ((run N _ a0 a1).trans rfl).trans h⟩)
end spec_l06Node
namespace spec_l06Tree
noncomputable def code : Code := Try.f64.body.getD .skip
abbrev live : Live := []
noncomputable def G (N : Nat) (slf : (List ByteArray) → Option R) : Ctx E := gam [(91, [], spec_l01Hash.sp N), (99, [], spec_l06Half.sp N), (64, [], spf slf), (100, [], spec_l06Node.sp N)]
noncomputable def m0 (N : Nat) (slf : (List ByteArray) → Option R) (a0 : List ByteArray) : Option R :=
  bif ((a0.length : Int) == (0:Int)) then
    ob (spec_l01Hash.m N ([] : List Int)) fun y1 =>
    some y1
  else
  bif ((a0.length : Int) == (1:Int)) then
    bif (decide (0 ≤ (0:Int))) then
    bif (decide ((0:Int) < (a0.length : Int))) then
    some (a0.getD 0 ByteArray.empty)
    else none
    else none
  else
  ob (spec_l06Half.m N (a0.length : Int)) fun y2 =>
  bif (decide (0 ≤ y2)) then
  bif (decide (y2 ≤ ((a0.length : Nat) : Int))) then
  ob (slf (a0.take (Int.toNat y2))) fun y3 =>
  bif (decide (0 ≤ y2)) then
  bif (decide (y2 ≤ ((a0.length : Nat) : Int))) then
  ob (slf (a0.drop (Int.toNat y2))) fun y4 =>
  ob (spec_l06Node.m N y3 y4) fun y5 =>
  some y5
  else none
  else none
  else none
  else none
theorem run (N : Nat) (o0 : Orc E R) (slf : (List ByteArray) → Option R) (a0 : List ByteArray) : runF T (G N slf) live [] Try.f64 code (spf (mb N slf)) o0 (a0, ()) = m0 N slf a0 := by kernel_rfl
theorem G_ok (N : Nat) (slf : (List ByteArray) → Option R) (hs : Sound Try.prog E 64 (spf slf)) : GamOK Try.prog (G N slf) := gam_ok (l := [(91, [], spec_l01Hash.sp N), (99, [], spec_l06Half.sp N), (64, [], spf slf), (100, [], spec_l06Node.sp N)]) (⟨spec_l01Hash.snd N, spec_l06Half.snd N, hs, spec_l06Node.snd N, trivial⟩)
theorem sndF (N : Nat) : ∀ n, Sound Try.prog E 64 (spf (mF N n))
  | 0 => sound_none Try.func64 (c := code) (by kernel_rfl) (by kernel_rfl) (spf (mF N 0)) (fun _ => rfl)
  | n + 1 => by
    have hr := fun (a0 : List ByteArray) => (run N (orc T (G N (mF N n)) live [] N 2) (mF N n) a0).trans rfl
    exact Mir.sound T_OK (G_ok N (mF N n) (sndF N n)) mixed Try.func64 (c := code) (by kernel_rfl) (by kernel_rfl) (spf (mF N (n + 1))) (Nat.le_of_ble_eq_true (by kernel_rfl)) live [] (by
      rintro ⟨a0, _⟩ r h
      exact ⟨N, 2, (hr a0).trans h⟩)
theorem snd (N : Nat) : Sound Try.prog E 64 (sp N) := sndF N N
end spec_l06Tree
namespace spec_l06Path
noncomputable def code : Code := Try.f106.body.getD .skip
abbrev live : Live := []
noncomputable def G (N : Nat) (slf : (List ByteArray) → Int → Option R) : Ctx E := gam [(99, [], spec_l06Half.sp N), (106, [], spf slf), (64, [], spec_l06Tree.sp N)]
noncomputable def m0 (N : Nat) (slf : (List ByteArray) → Int → Option R) (a0 : List ByteArray) (a1 : Int) : Option R :=
  bif ((a0.length : Int) == (1:Int)) then
    some ([] : List ByteArray)
  else
  ob (spec_l06Half.m N (a0.length : Int)) fun y1 =>
  bif (decide (a1 < y1)) then
    bif (decide (0 ≤ y1)) then
    bif (decide (y1 ≤ ((a0.length : Nat) : Int))) then
    ob (slf (a0.take (Int.toNat y1)) a1) fun y2 =>
    bif (decide (0 ≤ y1)) then
    bif (decide (y1 ≤ ((a0.length : Nat) : Int))) then
    ob (spec_l06Tree.m N (a0.drop (Int.toNat y1))) fun y3 =>
    bif (room (y2.length + ([y3]).length) 16) then
    some (y2 ++ [y3])
    else none
    else none
    else none
    else none
    else none
  else
  bif (decide (0 ≤ y1)) then
  bif (decide (y1 ≤ ((a0.length : Nat) : Int))) then
  ob (slf (a0.drop (Int.toNat y1)) (w64 (a1 - y1))) fun y4 =>
  bif (decide (0 ≤ y1)) then
  bif (decide (y1 ≤ ((a0.length : Nat) : Int))) then
  ob (spec_l06Tree.m N (a0.take (Int.toNat y1))) fun y5 =>
  bif (room (y4.length + ([y5]).length) 16) then
  some (y4 ++ [y5])
  else none
  else none
  else none
  else none
  else none
theorem run (N : Nat) (o0 : Orc E R) (slf : (List ByteArray) → Int → Option R) (a0 : List ByteArray) (a1 : Int) : runF T (G N slf) live [] Try.f106 code (spf (mb N slf)) o0 (a0, a1, ()) = m0 N slf a0 a1 := by kernel_rfl
theorem G_ok (N : Nat) (slf : (List ByteArray) → Int → Option R) (hs : Sound Try.prog E 106 (spf slf)) : GamOK Try.prog (G N slf) := gam_ok (l := [(99, [], spec_l06Half.sp N), (106, [], spf slf), (64, [], spec_l06Tree.sp N)]) (⟨spec_l06Half.snd N, hs, spec_l06Tree.snd N, trivial⟩)
theorem sndF (N : Nat) : ∀ n, Sound Try.prog E 106 (spf (mF N n))
  | 0 => sound_none Try.func106 (c := code) (by kernel_rfl) (by kernel_rfl) (spf (mF N 0)) (fun _ => rfl)
  | n + 1 => by
    have hr := fun (a0 : List ByteArray) (a1 : Int) => (run N (orc T (G N (mF N n)) live [] N 2) (mF N n) a0 a1).trans rfl
    exact Mir.sound T_OK (G_ok N (mF N n) (sndF N n)) mixed Try.func106 (c := code) (by kernel_rfl) (by kernel_rfl) (spf (mF N (n + 1))) (Nat.le_of_ble_eq_true (by kernel_rfl)) live [] (by
      rintro ⟨a0, a1, _⟩ r h
      exact ⟨N, 2, (hr a0 a1).trans h⟩)
theorem snd (N : Nat) : Sound Try.prog E 106 (sp N) := sndF N N
end spec_l06Path
namespace spec_l08Sign
noncomputable def code : Code := Try.f75.body.getD .skip
abbrev live : Live := [(4, [0, 1, 6, 7, 8, 9])]
noncomputable def G (N : Nat) : Ctx E := gam [(60, [], spec_l08Digits.sp N), (57, [], spec_l08Secret.sp N), (51, [], spec_l08Chain.sp N), (65, [], spec_l08Leaves.sp N), (106, [], spec_l06Path.sp N)]
noncomputable def loop4 : Code := codeAt code [1, 1, 1, 0, 1, 0]
noncomputable def body4 : Code := codeAt loop4 [0]
noncomputable def K4 (N : Nat) (o0 : Orc E R) : KT E R := kAt T (G N) live [] o0 code [1, 1, 1, 0, 1, 0] (kfin T Try.f75 (sp N))
noncomputable def St4 (a0 : ByteArray) (a1 : Int) (a2 : ByteArray) : (Int × Int × (List ByteArray) × (List Int)) → St E
  | (v2, v3, v5, v6) => { ρ := [(0, .c (.at (.str a0))), (1, .c (.at (.int .i64 a1))), (6, .c (.at (.ptr 0 0))), (7, .c (.at (.ptr 1 0))), (8, .c (.at (.own 3))), (9, .c (.at (.int .i64 v2)))], H := [(0, .box 44 [.int .i64 v3, .nils, .nils]), (1, .box 44 [.int .i64 a1, .own 2, .nils]), (2, .row 9 .str v5 false), (3, .row 3 (.int .i64) v6 false)], nx := 4, n := 39, pin := [] }
noncomputable def m0 (N : Nat) (a0 : ByteArray) (a1 : Int) (a2 : ByteArray) (lp4 : Int × Int × (List ByteArray) × (List Int) → Option R) : Option R :=
  ob (spec_l08Digits.m N a2) fun y1 =>
  lp4 ((0:Int), (0:Int), ([] : List ByteArray), y1)
theorem run (N : Nat) (o0 : Orc E R) (a0 : ByteArray) (a1 : Int) (a2 : ByteArray) : runF T (G N) live [] Try.f75 code (sp N) o0 (a0, a1, a2, ()) = m0 N a0 a1 a2 (fun a => o0 loop4 (K4 N o0) (St4 a0 a1 a2 a)) := by kernel_rfl
theorem body4_0 (N : Nat) (o0 : Orc E R) (o1 : Orc E R) (q1 : St E → Option R) (a0 : ByteArray) (a1 : Int) (a2 : ByteArray) (v2 : Int) (v3 : Int) (v5 : List ByteArray) (v6 : List Int) : runA T (G N) live [] o1 body4 (St4 a0 a1 a2 (v2, v3, v5, v6)) (kloop [0, 1, 6, 7, 8, 9] q1 (K4 N o0)) = step4 N a0 a1 a2 (fun a => q1 (St4 a0 a1 a2 a)) (v2, v3, v5, v6) := by kernel_rfl
theorem lp4_eq (N : Nat) (a0 : ByteArray) (a1 : Int) (a2 : ByteArray) (a : Int × Int × (List ByteArray) × (List Int)) : (orc T (G N) live [] N 2) loop4 (K4 N (orc T (G N) live [] N 2)) (St4 a0 a1 a2 a) = lp4 N a0 a1 a2 a :=
  (orc_loop (b := body4) (live := [0, 1, 6, 7, 8, 9]) (by kernel_rfl)).trans (iter_eq (St4 a0 a1 a2) _ _ (fun q1 a => by
    have hc := congrFun (congrFun (rfl : (step4 N a0 a1 a2) = (step4 N a0 a1 a2)) (fun a => q1 (St4 a0 a1 a2 a))) a
    obtain ⟨u0, u1, u2, u3⟩ := a
    exact (body4_0 N (orc T (G N) live [] N 2) (orc T (G N) live [] N 1) q1 a0 a1 a2 u0 u1 u2 u3).trans hc) N a)
theorem G_ok (N : Nat) : GamOK Try.prog (G N) := gam_ok (l := [(60, [], spec_l08Digits.sp N), (57, [], spec_l08Secret.sp N), (51, [], spec_l08Chain.sp N), (65, [], spec_l08Leaves.sp N), (106, [], spec_l06Path.sp N)]) (⟨spec_l08Digits.snd N, spec_l08Secret.snd N, spec_l08Chain.snd N, spec_l08Leaves.snd N, spec_l06Path.snd N, trivial⟩)
theorem snd (N : Nat) : Sound Try.prog E 75 (sp N) :=
  Mir.sound T_OK (G_ok N) mixed Try.func75 (c := code) (by kernel_rfl) (by kernel_rfl) (sp N) (Nat.le_of_ble_eq_true (by kernel_rfl)) live [] (by
    rintro ⟨a0, a1, a2, _⟩ r h
    exact ⟨N, 2, ((run N _ a0 a1 a2).trans (congrArg (m0 N a0 a1 a2) (funext fun a => lp4_eq N a0 a1 a2 a))).trans h⟩)
end spec_l08Sign
namespace spec_SignNext
noncomputable def code : Code := Try.f33.body.getD .skip
abbrev live : Live := []
noncomputable def G (N : Nat) : Ctx E := gam [(74, [], spec_SignerOK.sp N), (56, [], spec_l08Index.sp N), (75, [], spec_l08Sign.sp N)]
noncomputable def m0 (N : Nat) (a0 : Signer) (a1 : Int) (a2 : ByteArray) : Option R :=
  bif (decide ((a2.size : Int) > (65536:Int))) then
    some ((Signer.mk ByteArray.empty ([] : List Bool)), (Signature.mk (0:Int) ([] : List ByteArray) ([] : List ByteArray)), (2:Int))
  else
  ob (spec_SignerOK.m N a0) fun y1 =>
  bif (!y1) then
    some ((Signer.mk ByteArray.empty ([] : List Bool)), (Signature.mk (0:Int) ([] : List ByteArray) ([] : List ByteArray)), (1:Int))
  else
  ob (spec_l08Index.m N a1) fun y2 =>
  bif (!y2) then
    some ((Signer.mk ByteArray.empty ([] : List Bool)), (Signature.mk (0:Int) ([] : List ByteArray) ([] : List ByteArray)), (4:Int))
  else
  bif (room (([] : List Bool).length + a0.Used.length) 1) then
  bif (decide (0 ≤ a1)) then
  bif (decide (a1 < (a0.Used.length : Int))) then
  bif (a0.Used.getD (Int.toNat a1) false) then
    some ((Signer.mk a0.Seed (([] : List Bool) ++ a0.Used)), (Signature.mk (0:Int) ([] : List ByteArray) ([] : List ByteArray)), (13:Int))
  else
  bif (decide (0 ≤ a1)) then
  bif (decide (a1 < ((([] : List Bool) ++ a0.Used).length : Int))) then
  ob (spec_l08Sign.m N a0.Seed a1 a2) fun y3 =>
  some ((Signer.mk a0.Seed ((([] : List Bool) ++ a0.Used).set (Int.toNat a1) true)), y3, (0:Int))
  else none
  else none
  else none
  else none
  else none
theorem run (N : Nat) (o0 : Orc E R) (a0 : Signer) (a1 : Int) (a2 : ByteArray) : runF T (G N) live [] Try.f33 code (sp N) o0 (a0, a1, a2, ()) = m0 N a0 a1 a2 := by kernel_rfl
theorem G_ok (N : Nat) : GamOK Try.prog (G N) := gam_ok (l := [(74, [], spec_SignerOK.sp N), (56, [], spec_l08Index.sp N), (75, [], spec_l08Sign.sp N)]) (⟨spec_SignerOK.snd N, spec_l08Index.snd N, spec_l08Sign.snd N, trivial⟩)
theorem snd (N : Nat) : Sound Try.prog E 33 (sp N) :=
  Mir.sound T_OK (G_ok N) mixed Try.func33 (c := code) (by kernel_rfl) (by kernel_rfl) (sp N) (Nat.le_of_ble_eq_true (by kernel_rfl)) live [] (by
    rintro ⟨a0, a1, a2, _⟩ r h
    exact ⟨N, 2, ((run N _ a0 a1 a2).trans rfl).trans h⟩)
end spec_SignNext
namespace laws_FnOnce
noncomputable def code : Code := Try.f9.body.getD .skip
abbrev live : Live := [(11, [6, 7, 10, 13, 16])]
noncomputable def G (N : Nat) : Ctx E := gam [(30, [], spec_HashOf.sp N), (31, [], laws_at.sp N), (28, [], spec_MessageOf.sp N), (32, [], impl_SignNext.sp N), (33, [], spec_SignNext.sp N), (34, [], impl_SignerOK.sp N)]
noncomputable def loop11 : Code := codeAt code [1, 1, 1, 1, 1, 1, 1, 1, 0, 1, 0]
noncomputable def body11 : Code := codeAt loop11 [0]
noncomputable def K11 (N : Nat) (o0 : Orc E R) : KT E R := kAt T (G N) live [] o0 code [1, 1, 1, 1, 1, 1, 1, 1, 0, 1, 0] (kfin T Try.f9 (sp N))
noncomputable def St11 (a0 : List Int) (a1 : List Int) : (Int × Int × ByteArray × (List Bool) × ByteArray × (List Bool) × ByteArray × (List Bool)) → St E
  | (v0, v1, v2, v3, v4, v5, v6, v7) => { ρ := [(6, .c (.at (.int .i64 v0))), (7, .c (.at (.ptr 0 0))), (10, .c (.at (.ptr 2 0))), (13, .c (.at (.ptr 4 0))), (16, .c (.at (.int .i64 v1)))], H := [(0, .box 41 [.str v2, .own 1]), (1, .row 4 .bool v3 false), (2, .box 41 [.str v4, .own 3]), (3, .row 4 .bool v5 false), (4, .box 41 [.str v6, .own 5]), (5, .row 4 .bool v7 false)], nx := 6, n := 132, pin := [] }
noncomputable def m0 (N : Nat) (a0 : List Int) (a1 : List Int) (lp11 : Int × Int × ByteArray × (List Bool) × ByteArray × (List Bool) × ByteArray × (List Bool) → Option R) : Option R :=
  bif (decide ((a0.length : Int) > (1048576:Int))) then
    some true
  else
  bif (bif false then true else (decide ((a1.length : Int) > (1048576:Int)))) then
    some true
  else
  ob (spec_HashOf.m N a0) fun y1 =>
  bif (decide (0 ≤ (4:Int))) then
  bif (room 4 1) then
  ob (laws_at.m N a1 (0:Int) (4:Int)) fun y2 =>
  ob (spec_MessageOf.m N a0) fun y3 =>
  ob (impl_SignNext.m N (Signer.mk y1 (List.replicate 4 false)) y2 y3) fun y4 =>
  ob (spec_MessageOf.m N a0) fun y5 =>
  ob (spec_SignNext.m N (Signer.mk y1 (List.replicate 4 false)) y2 y5) fun y6 =>
  ob (spec_MessageOf.m N a1) fun y7 =>
  ob (impl_SignNext.m N y4.1 y2 y7) fun y8 =>
  bif (y4.2.2 != (0:Int)) then
    some false
  else
  bif (bif false then true else (y8.2.2 != (13:Int))) then
    some false
  else
  bif (bif false then true else ((y8.2.1.Parts.length : Int) != (0:Int))) then
    some false
  else
  bif (bif false then true else ((y4.1.Used.length : Int) != (4:Int))) then
    some false
  else
  bif (bif false then true else ((y8.1.Used.length : Int) != (4:Int))) then
    some false
  else
  ob (impl_SignerOK.m N y4.1) fun y9 =>
  bif (bif false then true else (!y9)) then
    some false
  else
  bif (bif false then true else ((y4.2.1.Parts.length : Int) != (18:Int))) then
    some false
  else
  lp11 (y2, (0:Int), y4.1.Seed, y4.1.Used, y6.1.Seed, y6.1.Used, y8.1.Seed, y8.1.Used)
  else none
  else none
theorem run (N : Nat) (o0 : Orc E R) (a0 : List Int) (a1 : List Int) : runF T (G N) live [] Try.f9 code (sp N) o0 (a0, a1, ()) = m0 N a0 a1 (fun a => o0 loop11 (K11 N o0) (St11 a0 a1 a)) := by kernel_rfl
theorem body11_0 (N : Nat) (o0 : Orc E R) (o1 : Orc E R) (q1 : St E → Option R) (a0 : List Int) (a1 : List Int) (v0 : Int) (v1 : Int) (v2 : ByteArray) (v3 : List Bool) (v4 : ByteArray) (v5 : List Bool) (v6 : ByteArray) (v7 : List Bool) : runA T (G N) live [] o1 body11 (St11 a0 a1 (v0, v1, v2, v3, v4, v5, v6, v7)) (kloop [6, 7, 10, 13, 16] q1 (K11 N o0)) = step11 N a0 a1 (fun a => q1 (St11 a0 a1 a)) (v0, v1, v2, v3, v4, v5, v6, v7) := by kernel_rfl
theorem lp11_eq (N : Nat) (a0 : List Int) (a1 : List Int) (a : Int × Int × ByteArray × (List Bool) × ByteArray × (List Bool) × ByteArray × (List Bool)) : (orc T (G N) live [] N 2) loop11 (K11 N (orc T (G N) live [] N 2)) (St11 a0 a1 a) = lp11 N a0 a1 a :=
  (orc_loop (b := body11) (live := [6, 7, 10, 13, 16]) (by kernel_rfl)).trans (iter_eq (St11 a0 a1) _ _ (fun q1 a => by
    have hc := congrFun (congrFun (rfl : (step11 N a0 a1) = (step11 N a0 a1)) (fun a => q1 (St11 a0 a1 a))) a
    obtain ⟨u0, u1, u2, u3, u4, u5, u6, u7⟩ := a
    exact (body11_0 N (orc T (G N) live [] N 2) (orc T (G N) live [] N 1) q1 a0 a1 u0 u1 u2 u3 u4 u5 u6 u7).trans hc) N a)
theorem G_ok (N : Nat) : GamOK Try.prog (G N) := gam_ok (l := [(30, [], spec_HashOf.sp N), (31, [], laws_at.sp N), (28, [], spec_MessageOf.sp N), (32, [], impl_SignNext.sp N), (33, [], spec_SignNext.sp N), (34, [], impl_SignerOK.sp N)]) (⟨spec_HashOf.snd N, laws_at.snd N, spec_MessageOf.snd N, impl_SignNext.snd N, spec_SignNext.snd N, impl_SignerOK.snd N, trivial⟩)
theorem snd (N : Nat) : Sound Try.prog E 9 (sp N) :=
  Mir.sound T_OK (G_ok N) mixed Try.func9 (c := code) (by kernel_rfl) (by kernel_rfl) (sp N) (Nat.le_of_ble_eq_true (by kernel_rfl)) live [] (by
    rintro ⟨a0, a1, _⟩ r h
    exact ⟨N, 2, ((run N _ a0 a1).trans (congrArg (m0 N a0 a1) (funext fun a => lp11_eq N a0 a1 a))).trans h⟩)
end laws_FnOnce
namespace impl_PublicRoot
noncomputable def code : Code := Try.f26.body.getD .skip
abbrev live : Live := []
noncomputable def G (N : Nat) : Ctx E := gam [(58, [], impl_seedCode.sp N), (67, [], impl_keyLeaves.sp N), (66, [], impl_treeHash.sp N)]
noncomputable def m0 (N : Nat) (a0 : ByteArray) : Option R :=
  ob (impl_seedCode.m N a0 (0:Int)) fun y1 =>
  bif (y1 != (0:Int)) then
    some (ByteArray.empty, y1)
  else
  ob (impl_keyLeaves.m N a0) fun y2 =>
  ob (impl_treeHash.m N y2) fun y3 =>
  some (y3, (0:Int))
theorem run (N : Nat) (o0 : Orc E R) (a0 : ByteArray) : runF T (G N) live [] Try.f26 code (sp N) o0 (a0, ()) = m0 N a0 := by kernel_rfl
theorem G_ok (N : Nat) : GamOK Try.prog (G N) := gam_ok (l := [(58, [], impl_seedCode.sp N), (67, [], impl_keyLeaves.sp N), (66, [], impl_treeHash.sp N)]) (⟨impl_seedCode.snd N, impl_keyLeaves.snd N, impl_treeHash.snd N, trivial⟩)
theorem snd (N : Nat) : Sound Try.prog E 26 (sp N) :=
  Mir.sound T_OK (G_ok N) mixed Try.func26 (c := code) (by kernel_rfl) (by kernel_rfl) (sp N) (Nat.le_of_ble_eq_true (by kernel_rfl)) live [] (by
    rintro ⟨a0, _⟩ r h
    exact ⟨N, 2, ((run N _ a0).trans rfl).trans h⟩)
end impl_PublicRoot
namespace impl_SignWith
noncomputable def code : Code := Try.f41.body.getD .skip
abbrev live : Live := []
noncomputable def G (N : Nat) : Ctx E := gam [(52, [], impl_isText.sp N), (58, [], impl_seedCode.sp N), (73, [], impl_signWith.sp N)]
noncomputable def m0 (N : Nat) (a0 : ByteArray) (a1 : Int) (a2 : ByteArray) : Option R :=
  ob (impl_isText.m N ([a2])) fun y1 =>
  bif (!y1) then
    some ((Signature.mk (0:Int) ([] : List ByteArray) ([] : List ByteArray)), (2:Int))
  else
  ob (impl_seedCode.m N a0 a1) fun y2 =>
  bif (y2 != (0:Int)) then
    some ((Signature.mk (0:Int) ([] : List ByteArray) ([] : List ByteArray)), y2)
  else
  ob (impl_signWith.m N a0 a1 a2) fun y3 =>
  some (y3, (0:Int))
theorem run (N : Nat) (o0 : Orc E R) (a0 : ByteArray) (a1 : Int) (a2 : ByteArray) : runF T (G N) live [] Try.f41 code (sp N) o0 (a0, a1, a2, ()) = m0 N a0 a1 a2 := by kernel_rfl
theorem G_ok (N : Nat) : GamOK Try.prog (G N) := gam_ok (l := [(52, [], impl_isText.sp N), (58, [], impl_seedCode.sp N), (73, [], impl_signWith.sp N)]) (⟨impl_isText.snd N, impl_seedCode.snd N, impl_signWith.snd N, trivial⟩)
theorem snd (N : Nat) : Sound Try.prog E 41 (sp N) :=
  Mir.sound T_OK (G_ok N) mixed Try.func41 (c := code) (by kernel_rfl) (by kernel_rfl) (sp N) (Nat.le_of_ble_eq_true (by kernel_rfl)) live [] (by
    rintro ⟨a0, a1, a2, _⟩ r h
    exact ⟨N, 2, ((run N _ a0 a1 a2).trans rfl).trans h⟩)
end impl_SignWith
namespace spec_SignWith
noncomputable def code : Code := Try.f40.body.getD .skip
abbrev live : Live := []
noncomputable def G (N : Nat) : Ctx E := gam [(56, [], spec_l08Index.sp N), (75, [], spec_l08Sign.sp N)]
noncomputable def m0 (N : Nat) (a0 : ByteArray) (a1 : Int) (a2 : ByteArray) : Option R :=
  bif (decide ((a0.size : Int) > (65536:Int))) then
    some ((Signature.mk (0:Int) ([] : List ByteArray) ([] : List ByteArray)), (2:Int))
  else
  bif (decide ((a2.size : Int) > (65536:Int))) then
    some ((Signature.mk (0:Int) ([] : List ByteArray) ([] : List ByteArray)), (2:Int))
  else
  bif ((a0.size : Int) != (32:Int)) then
    some ((Signature.mk (0:Int) ([] : List ByteArray) ([] : List ByteArray)), (1:Int))
  else
  ob (spec_l08Index.m N a1) fun y1 =>
  bif (!y1) then
    some ((Signature.mk (0:Int) ([] : List ByteArray) ([] : List ByteArray)), (4:Int))
  else
  ob (spec_l08Sign.m N a0 a1 a2) fun y2 =>
  some (y2, (0:Int))
theorem run (N : Nat) (o0 : Orc E R) (a0 : ByteArray) (a1 : Int) (a2 : ByteArray) : runF T (G N) live [] Try.f40 code (sp N) o0 (a0, a1, a2, ()) = m0 N a0 a1 a2 := by kernel_rfl
theorem G_ok (N : Nat) : GamOK Try.prog (G N) := gam_ok (l := [(56, [], spec_l08Index.sp N), (75, [], spec_l08Sign.sp N)]) (⟨spec_l08Index.snd N, spec_l08Sign.snd N, trivial⟩)
theorem snd (N : Nat) : Sound Try.prog E 40 (sp N) :=
  Mir.sound T_OK (G_ok N) mixed Try.func40 (c := code) (by kernel_rfl) (by kernel_rfl) (sp N) (Nat.le_of_ble_eq_true (by kernel_rfl)) live [] (by
    rintro ⟨a0, a1, a2, _⟩ r h
    exact ⟨N, 2, ((run N _ a0 a1 a2).trans rfl).trans h⟩)
end spec_SignWith
namespace laws_sameTexts
noncomputable def code : Code := Try.f90.body.getD .skip
abbrev live : Live := [(4, [0, 1, 5])]
noncomputable def G (N : Nat) : Ctx E := gam []
noncomputable def loop4 : Code := codeAt code [1, 1, 0, 1, 0]
noncomputable def body4 : Code := codeAt loop4 [0]
noncomputable def K4 (N : Nat) (o0 : Orc E R) : KT E R := kAt T (G N) live [] o0 code [1, 1, 0, 1, 0] (kfin T Try.f90 (sp N))
noncomputable def St4 (a0 : List ByteArray) (a1 : List ByteArray) : Int → St E
  | v2 => { ρ := [(0, .c (.at (.ro 9 .str a0))), (1, .c (.at (.ro 9 .str a1))), (5, .c (.at (.int .i64 v2)))], H := [], nx := 0, n := 26, pin := [] }
noncomputable def m0 (N : Nat) (a0 : List ByteArray) (a1 : List ByteArray) (lp4 : Int → Option R) : Option R :=
  bif ((a0.length : Int) != (a1.length : Int)) then
    some false
  else
  lp4 (0:Int)
theorem run (N : Nat) (o0 : Orc E R) (a0 : List ByteArray) (a1 : List ByteArray) : runF T (G N) live [] Try.f90 code (sp N) o0 (a0, a1, ()) = m0 N a0 a1 (fun a => o0 loop4 (K4 N o0) (St4 a0 a1 a)) := by kernel_rfl
theorem body4_0 (N : Nat) (o0 : Orc E R) (o1 : Orc E R) (q1 : St E → Option R) (a0 : List ByteArray) (a1 : List ByteArray) (v2 : Int) : runA T (G N) live [] o1 body4 (St4 a0 a1 v2) (kloop [0, 1, 5] q1 (K4 N o0)) = step4 N a0 a1 (fun a => q1 (St4 a0 a1 a)) v2 := by kernel_rfl
theorem lp4_eq (N : Nat) (a0 : List ByteArray) (a1 : List ByteArray) (a : Int) : (orc T (G N) live [] N 2) loop4 (K4 N (orc T (G N) live [] N 2)) (St4 a0 a1 a) = lp4 N a0 a1 a :=
  (orc_loop (b := body4) (live := [0, 1, 5]) (by kernel_rfl)).trans (iter_eq (St4 a0 a1) _ _ (fun q1 a => by
    have hc := congrFun (congrFun (rfl : (step4 N a0 a1) = (step4 N a0 a1)) (fun a => q1 (St4 a0 a1 a))) a
    exact (body4_0 N (orc T (G N) live [] N 2) (orc T (G N) live [] N 1) q1 a0 a1 a).trans hc) N a)
theorem G_ok (N : Nat) : GamOK Try.prog (G N) := gam_ok (l := []) (trivial)
theorem snd (N : Nat) : Sound Try.prog E 90 (sp N) :=
  Mir.sound T_OK (G_ok N) mixed Try.func90 (c := code) (by kernel_rfl) (by kernel_rfl) (sp N) (Nat.le_of_ble_eq_true (by kernel_rfl)) live [] (by
    rintro ⟨a0, a1, _⟩ r h
    exact ⟨N, 2, ((run N _ a0 a1).trans (congrArg (m0 N a0 a1) (funext fun a => lp4_eq N a0 a1 a))).trans h⟩)
end laws_sameTexts
namespace laws_sameSignature
noncomputable def code : Code := Try.f49.body.getD .skip
abbrev live : Live := []
noncomputable def G (N : Nat) : Ctx E := gam [(90, [], laws_sameTexts.sp N)]
noncomputable def m0 (N : Nat) (a0 : Signature) (a1 : Signature) : Option R :=
  bif (a0.Index == a1.Index) then
    ob (laws_sameTexts.m N a0.Parts a1.Parts) fun y1 =>
    bif (bif true then y1 else false) then
      ob (laws_sameTexts.m N a0.Path a1.Path) fun y2 =>
      some (bif true then y2 else false)
    else
    some false
  else
  some false
theorem run (N : Nat) (o0 : Orc E R) (a0 : Signature) (a1 : Signature) : runF T (G N) live [] Try.f49 code (sp N) o0 (a0, a1, ()) = m0 N a0 a1 := by kernel_rfl
theorem G_ok (N : Nat) : GamOK Try.prog (G N) := gam_ok (l := [(90, [], laws_sameTexts.sp N)]) (⟨laws_sameTexts.snd N, trivial⟩)
theorem snd (N : Nat) : Sound Try.prog E 49 (sp N) :=
  Mir.sound T_OK (G_ok N) mixed Try.func49 (c := code) (by kernel_rfl) (by kernel_rfl) (sp N) (Nat.le_of_ble_eq_true (by kernel_rfl)) live [] (by
    rintro ⟨a0, a1, _⟩ r h
    exact ⟨N, 2, ((run N _ a0 a1).trans rfl).trans h⟩)
end laws_sameSignature
namespace impl_isList_string
noncomputable def code : Code := Try.f80.body.getD .skip
abbrev live : Live := []
noncomputable def G (N : Nat) : Ctx E := gam []
noncomputable def m0 (N : Nat) (a0 : List ByteArray) : Option R :=
  some (decide ((a0.length : Int) ≤ (4096:Int)))
theorem run (N : Nat) (o0 : Orc E R) (a0 : List ByteArray) : runF T (G N) live [] Try.f80 code (sp N) o0 (a0, ()) = m0 N a0 := by kernel_rfl
theorem G_ok (N : Nat) : GamOK Try.prog (G N) := gam_ok (l := []) (trivial)
theorem snd (N : Nat) : Sound Try.prog E 80 (sp N) :=
  Mir.sound T_OK (G_ok N) mixed Try.func80 (c := code) (by kernel_rfl) (by kernel_rfl) (sp N) (Nat.le_of_ble_eq_true (by kernel_rfl)) live [] (by
    rintro ⟨a0, _⟩ r h
    exact ⟨N, 2, ((run N _ a0).trans rfl).trans h⟩)
end impl_isList_string
namespace impl_prover_next_
noncomputable def code : Code := Try.f129.body.getD .skip
abbrev live : Live := []
noncomputable def G (N : Nat) : Ctx E := gam []
noncomputable def m0 (N : Nat) (a0 : prover) : Option R :=
  bif ((a0.proof.length : Int) == (0:Int)) then
    some (ByteArray.empty, (prover.mk a0.proof true a0.steps))
  else
  bif (decide (0 ≤ (0:Int))) then
  bif (decide ((0:Int) < (a0.proof.length : Int))) then
  bif (decide (0 ≤ (1:Int))) then
  bif (decide ((1:Int) ≤ ((a0.proof.length : Nat) : Int))) then
  some ((a0.proof.getD 0 ByteArray.empty), (prover.mk (a0.proof.drop 1) a0.bad a0.steps))
  else none
  else none
  else none
  else none
theorem run (N : Nat) (o0 : Orc E R) (a0 : prover) : runF T (G N) live [] Try.f129 code (sp N) o0 (a0, ()) = m0 N a0 := by kernel_rfl
theorem G_ok (N : Nat) : GamOK Try.prog (G N) := gam_ok (l := []) (trivial)
theorem snd (N : Nat) : Sound Try.prog E 129 (sp N) :=
  Mir.sound T_OK (G_ok N) mixed Try.func129 (c := code) (by kernel_rfl) (by kernel_rfl) (sp N) (Nat.le_of_ble_eq_true (by kernel_rfl)) live [] (by
    rintro ⟨a0, _⟩ r h
    exact ⟨N, 2, ((run N _ a0).trans rfl).trans h⟩)
end impl_prover_next_
namespace impl_prover_node
noncomputable def code : Code := Try.f128.body.getD .skip
abbrev live : Live := []
noncomputable def G (N : Nat) : Ctx E := gam [(102, [], impl_nodeHash.sp N)]
noncomputable def m0 (N : Nat) (a0 : prover) (a1 : ByteArray) (a2 : ByteArray) : Option R :=
  bif (decide ((⟨#[1]⟩ : ByteArray).size + a1.size ≤ 9223372036854775807)) then
  bif (decide (((⟨#[1]⟩ : ByteArray) ++ a1).size + a2.size ≤ 9223372036854775807)) then
  bif (room (a0.steps.length + ([(((⟨#[1]⟩ : ByteArray) ++ a1) ++ a2)]).length) 16) then
  ob (impl_nodeHash.m N a1 a2) fun y1 =>
  some (y1, (prover.mk a0.proof a0.bad (a0.steps ++ [(((⟨#[1]⟩ : ByteArray) ++ a1) ++ a2)])))
  else none
  else none
  else none
theorem run (N : Nat) (o0 : Orc E R) (a0 : prover) (a1 : ByteArray) (a2 : ByteArray) : runF T (G N) live [] Try.f128 code (sp N) o0 (a0, a1, a2, ()) = m0 N a0 a1 a2 := by kernel_rfl
theorem G_ok (N : Nat) : GamOK Try.prog (G N) := gam_ok (l := [(102, [], impl_nodeHash.sp N)]) (⟨impl_nodeHash.snd N, trivial⟩)
theorem snd (N : Nat) : Sound Try.prog E 128 (sp N) :=
  Mir.sound T_OK (G_ok N) mixed Try.func128 (c := code) (by kernel_rfl) (by kernel_rfl) (sp N) (Nat.le_of_ble_eq_true (by kernel_rfl)) live [] (by
    rintro ⟨a0, a1, a2, _⟩ r h
    exact ⟨N, 2, ((run N _ a0 a1 a2).trans rfl).trans h⟩)
end impl_prover_node
namespace impl_prover_inclusion
noncomputable def code : Code := Try.f118.body.getD .skip
abbrev live : Live := []
noncomputable def G (N : Nat) (slf : prover → ByteArray → Int → Int → Option R) : Ctx E := gam [(101, [], impl_split.sp N), (118, [], spf slf), (129, [], impl_prover_next_.sp N), (128, [], impl_prover_node.sp N)]
noncomputable def m0 (N : Nat) (slf : prover → ByteArray → Int → Int → Option R) (a0 : prover) (a1 : ByteArray) (a2 : Int) (a3 : Int) : Option R :=
  bif (decide (a3 ≤ (1:Int))) then
    some (a1, a0)
  else
  ob (impl_split.m N a3) fun y1 =>
  bif (decide (a2 < y1)) then
    ob (slf a0 a1 a2 y1) fun y2 =>
    ob (impl_prover_next_.m N y2.2) fun y3 =>
    ob (impl_prover_node.m N y3.2 y2.1 y3.1) fun y4 =>
    some (y4.1, y4.2)
  else
  ob (slf a0 a1 (w64 (a2 - y1)) (w64 (a3 - y1))) fun y5 =>
  ob (impl_prover_next_.m N y5.2) fun y6 =>
  ob (impl_prover_node.m N y6.2 y6.1 y5.1) fun y7 =>
  some (y7.1, y7.2)
theorem run (N : Nat) (o0 : Orc E R) (slf : prover → ByteArray → Int → Int → Option R) (a0 : prover) (a1 : ByteArray) (a2 : Int) (a3 : Int) : runF T (G N slf) live [] Try.f118 code (spf (mb N slf)) o0 (a0, a1, a2, a3, ()) = m0 N slf a0 a1 a2 a3 := by kernel_rfl
theorem G_ok (N : Nat) (slf : prover → ByteArray → Int → Int → Option R) (hs : Sound Try.prog E 118 (spf slf)) : GamOK Try.prog (G N slf) := gam_ok (l := [(101, [], impl_split.sp N), (118, [], spf slf), (129, [], impl_prover_next_.sp N), (128, [], impl_prover_node.sp N)]) (⟨impl_split.snd N, hs, impl_prover_next_.snd N, impl_prover_node.snd N, trivial⟩)
theorem sndF (N : Nat) : ∀ n, Sound Try.prog E 118 (spf (mF N n))
  | 0 => sound_none Try.func118 (c := code) (by kernel_rfl) (by kernel_rfl) (spf (mF N 0)) (fun _ => rfl)
  | n + 1 => by
    have hr := fun (a0 : prover) (a1 : ByteArray) (a2 : Int) (a3 : Int) => (run N (orc T (G N (mF N n)) live [] N 2) (mF N n) a0 a1 a2 a3).trans rfl
    exact Mir.sound T_OK (G_ok N (mF N n) (sndF N n)) mixed Try.func118 (c := code) (by kernel_rfl) (by kernel_rfl) (spf (mF N (n + 1))) (Nat.le_of_ble_eq_true (by kernel_rfl)) live [] (by
      rintro ⟨a0, a1, a2, a3, _⟩ r h
      exact ⟨N, 2, (hr a0 a1 a2 a3).trans h⟩)
theorem snd (N : Nat) : Sound Try.prog E 118 (sp N) := sndF N N
end impl_prover_inclusion
namespace impl_inclusionRoot
noncomputable def code : Code := Try.f108.body.getD .skip
abbrev live : Live := []
noncomputable def G (N : Nat) : Ctx E := gam [(54, [], impl_within.sp N), (118, [], impl_prover_inclusion.sp N)]
noncomputable def m0 (N : Nat) (a0 : ByteArray) (a1 : Int) (a2 : Int) (a3 : List ByteArray) : Option R :=
  ob (impl_within.m N a2 (1:Int) (64:Int)) fun y1 =>
  bif (!y1) then
    some (ByteArray.empty, ([] : List ByteArray), (4:Int))
  else
  ob (impl_within.m N a1 (0:Int) (w64 (a2 - (1:Int)))) fun y2 =>
  bif (bif false then true else (!y2)) then
    some (ByteArray.empty, ([] : List ByteArray), (4:Int))
  else
  ob (impl_prover_inclusion.m N (prover.mk a3 false ([] : List ByteArray)) a0 a1 a2) fun y3 =>
  bif y3.2.bad then
    some (ByteArray.empty, ([] : List ByteArray), (10:Int))
  else
  bif (bif false then true else (decide ((y3.2.proof.length : Int) > (0:Int)))) then
    some (ByteArray.empty, ([] : List ByteArray), (10:Int))
  else
  some (y3.1, y3.2.steps, (0:Int))
theorem run (N : Nat) (o0 : Orc E R) (a0 : ByteArray) (a1 : Int) (a2 : Int) (a3 : List ByteArray) : runF T (G N) live [] Try.f108 code (sp N) o0 (a0, a1, a2, a3, ()) = m0 N a0 a1 a2 a3 := by kernel_rfl
theorem G_ok (N : Nat) : GamOK Try.prog (G N) := gam_ok (l := [(54, [], impl_within.sp N), (118, [], impl_prover_inclusion.sp N)]) (⟨impl_within.snd N, impl_prover_inclusion.snd N, trivial⟩)
theorem snd (N : Nat) : Sound Try.prog E 108 (sp N) :=
  Mir.sound T_OK (G_ok N) mixed Try.func108 (c := code) (by kernel_rfl) (by kernel_rfl) (sp N) (Nat.le_of_ble_eq_true (by kernel_rfl)) live [] (by
    rintro ⟨a0, a1, a2, a3, _⟩ r h
    exact ⟨N, 2, ((run N _ a0 a1 a2 a3).trans rfl).trans h⟩)
end impl_inclusionRoot
namespace impl_Signature_leadsTo
noncomputable def code : Code := Try.f81.body.getD .skip
abbrev live : Live := [(3, [1, 3, 8, 16, 17, 18])]
noncomputable def G (N : Nat) : Ctx E := gam [(61, [], impl_digits.sp N), (55, [], impl_chain.sp N), (98, [], impl_endsLeaf.sp N), (108, [], impl_inclusionRoot.sp N)]
noncomputable def loop3 : Code := codeAt code [1, 1, 0, 1, 0]
noncomputable def body3 : Code := codeAt loop3 [0]
noncomputable def K3 (N : Nat) (o0 : Orc E R) : KT E R := kAt T (G N) live [] o0 code [1, 1, 0, 1, 0] (kfin T Try.f81 (sp N))
noncomputable def St3 (a0 : Signature) (a1 : ByteArray) (a2 : ByteArray) : (Int × Int × (List ByteArray) × (List Int)) → St E
  | (v1, v2, v6, v7) => { ρ := [(1, .c (.at (.str a1))), (3, .c (.at (.ptr 0 0))), (8, .c (.at (.own 1))), (16, .c (.at (.own 2))), (17, .c (.at (.int .i64 v1))), (18, .c (.at (.int .i64 v2)))], H := [(0, .box 44 [.int .i64 a0.Index, .ro 9 .str a0.Parts, .ro 9 .str a0.Path]), (1, .row 9 .str v6 false), (2, .row 3 (.int .i64) v7 false)], nx := 3, n := 52, pin := [] }
noncomputable def m0 (N : Nat) (a0 : Signature) (a1 : ByteArray) (a2 : ByteArray) (lp3 : Int × Int × (List ByteArray) × (List Int) → Option R) : Option R :=
  ob (impl_digits.m N a2) fun y1 =>
  lp3 ((y1.length : Int), (0:Int), ([] : List ByteArray), y1)
theorem run (N : Nat) (o0 : Orc E R) (a0 : Signature) (a1 : ByteArray) (a2 : ByteArray) : runF T (G N) live [] Try.f81 code (sp N) o0 (a0, a1, a2, ()) = m0 N a0 a1 a2 (fun a => o0 loop3 (K3 N o0) (St3 a0 a1 a2 a)) := by kernel_rfl
theorem body3_0 (N : Nat) (o0 : Orc E R) (o1 : Orc E R) (q1 : St E → Option R) (a0 : Signature) (a1 : ByteArray) (a2 : ByteArray) (v1 : Int) (v2 : Int) (v6 : List ByteArray) (v7 : List Int) : runA T (G N) live [] o1 body3 (St3 a0 a1 a2 (v1, v2, v6, v7)) (kloop [1, 3, 8, 16, 17, 18] q1 (K3 N o0)) = step3 N a0 a1 a2 (fun a => q1 (St3 a0 a1 a2 a)) (v1, v2, v6, v7) := by kernel_rfl
theorem lp3_eq (N : Nat) (a0 : Signature) (a1 : ByteArray) (a2 : ByteArray) (a : Int × Int × (List ByteArray) × (List Int)) : (orc T (G N) live [] N 2) loop3 (K3 N (orc T (G N) live [] N 2)) (St3 a0 a1 a2 a) = lp3 N a0 a1 a2 a :=
  (orc_loop (b := body3) (live := [1, 3, 8, 16, 17, 18]) (by kernel_rfl)).trans (iter_eq (St3 a0 a1 a2) _ _ (fun q1 a => by
    have hc := congrFun (congrFun (rfl : (step3 N a0 a1 a2) = (step3 N a0 a1 a2)) (fun a => q1 (St3 a0 a1 a2 a))) a
    obtain ⟨u0, u1, u2, u3⟩ := a
    exact (body3_0 N (orc T (G N) live [] N 2) (orc T (G N) live [] N 1) q1 a0 a1 a2 u0 u1 u2 u3).trans hc) N a)
theorem G_ok (N : Nat) : GamOK Try.prog (G N) := gam_ok (l := [(61, [], impl_digits.sp N), (55, [], impl_chain.sp N), (98, [], impl_endsLeaf.sp N), (108, [], impl_inclusionRoot.sp N)]) (⟨impl_digits.snd N, impl_chain.snd N, impl_endsLeaf.snd N, impl_inclusionRoot.snd N, trivial⟩)
theorem snd (N : Nat) : Sound Try.prog E 81 (sp N) :=
  Mir.sound T_OK (G_ok N) mixed Try.func81 (c := code) (by kernel_rfl) (by kernel_rfl) (sp N) (Nat.le_of_ble_eq_true (by kernel_rfl)) live [] (by
    rintro ⟨a0, a1, a2, _⟩ r h
    exact ⟨N, 2, ((run N _ a0 a1 a2).trans (congrArg (m0 N a0 a1 a2) (funext fun a => lp3_eq N a0 a1 a2 a))).trans h⟩)
end impl_Signature_leadsTo
namespace impl_VerifySignature
noncomputable def code : Code := Try.f38.body.getD .skip
abbrev live : Live := []
noncomputable def G (N : Nat) : Ctx E := gam [(52, [], impl_isText.sp N), (80, [], impl_isList_string.sp N), (53, [], impl_isHash.sp N), (54, [], impl_within.sp N), (81, [], impl_Signature_leadsTo.sp N)]
noncomputable def m0 (N : Nat) (a0 : ByteArray) (a1 : ByteArray) (a2 : Signature) : Option R :=
  ob (impl_isText.m N ([a0, a1])) fun y1 =>
  bif (!y1) then
    some (2:Int)
  else
  ob (impl_isList_string.m N a2.Parts) fun y2 =>
  bif (bif false then true else (!y2)) then
    some (2:Int)
  else
  ob (impl_isList_string.m N a2.Path) fun y3 =>
  bif (bif false then true else (!y3)) then
    some (2:Int)
  else
  ob (impl_isHash.m N ([a0])) fun y4 =>
  bif (!y4) then
    some (1:Int)
  else
  (let w5 : Bool := (bif false then true else (decide ((if (a2.Parts.length : Int) < (a2.Path.length : Int) then (a2.Path.length : Int) else (a2.Parts.length : Int)) > (64:Int))))
  bif w5 then
    some (1:Int)
  else
  ob (impl_isHash.m N a2.Parts) fun y6 =>
  bif (bif false then true else (!y6)) then
    some (1:Int)
  else
  ob (impl_isHash.m N a2.Path) fun y7 =>
  bif (bif false then true else (!y7)) then
    some (1:Int)
  else
  ob (impl_within.m N a2.Index (0:Int) (3:Int)) fun y8 =>
  bif (!y8) then
    some (4:Int)
  else
  bif (bif false then true else ((a2.Parts.length : Int) != (18:Int))) then
    some (4:Int)
  else
  ob (impl_Signature_leadsTo.m N a2 a0 a1) fun y9 =>
  bif (!y9.2) then
    some (10:Int)
  else
  bif (!y9.1) then
    some (12:Int)
  else
  some (0:Int))
theorem run (N : Nat) (o0 : Orc E R) (a0 : ByteArray) (a1 : ByteArray) (a2 : Signature) : runF T (G N) live [] Try.f38 code (sp N) o0 (a0, a1, a2, ()) = m0 N a0 a1 a2 := by kernel_rfl
theorem G_ok (N : Nat) : GamOK Try.prog (G N) := gam_ok (l := [(52, [], impl_isText.sp N), (80, [], impl_isList_string.sp N), (53, [], impl_isHash.sp N), (54, [], impl_within.sp N), (81, [], impl_Signature_leadsTo.sp N)]) (⟨impl_isText.snd N, impl_isList_string.snd N, impl_isHash.snd N, impl_within.snd N, impl_Signature_leadsTo.snd N, trivial⟩)
theorem snd (N : Nat) : Sound Try.prog E 38 (sp N) :=
  Mir.sound T_OK (G_ok N) mixed Try.func38 (c := code) (by kernel_rfl) (by kernel_rfl) (sp N) (Nat.le_of_ble_eq_true (by kernel_rfl)) live [] (by
    rintro ⟨a0, a1, a2, _⟩ r h
    exact ⟨N, 2, ((run N _ a0 a1 a2).trans rfl).trans h⟩)
end impl_VerifySignature
namespace spec_l06Hashes
noncomputable def code : Code := Try.f77.body.getD .skip
abbrev live : Live := [(4, [0, 3])]
noncomputable def G (N : Nat) : Ctx E := gam []
noncomputable def loop4 : Code := codeAt code [1, 1, 0, 1, 0]
noncomputable def body4 : Code := codeAt loop4 [0]
noncomputable def K4 (N : Nat) (o0 : Orc E R) : KT E R := kAt T (G N) live [] o0 code [1, 1, 0, 1, 0] (kfin T Try.f77 (sp N))
noncomputable def St4 (a0 : List ByteArray) : Int → St E
  | v1 => { ρ := [(0, .c (.at (.ro 9 .str a0))), (3, .c (.at (.int .i64 v1)))], H := [], nx := 0, n := 19, pin := [] }
noncomputable def m0 (N : Nat) (a0 : List ByteArray) (lp4 : Int → Option R) : Option R :=
  bif (decide ((a0.length : Int) > (64:Int))) then
    some false
  else
  lp4 (0:Int)
theorem run (N : Nat) (o0 : Orc E R) (a0 : List ByteArray) : runF T (G N) live [] Try.f77 code (sp N) o0 (a0, ()) = m0 N a0 (fun a => o0 loop4 (K4 N o0) (St4 a0 a)) := by kernel_rfl
theorem body4_0 (N : Nat) (o0 : Orc E R) (o1 : Orc E R) (q1 : St E → Option R) (a0 : List ByteArray) (v1 : Int) : runA T (G N) live [] o1 body4 (St4 a0 v1) (kloop [0, 3] q1 (K4 N o0)) = step4 N a0 (fun a => q1 (St4 a0 a)) v1 := by kernel_rfl
theorem lp4_eq (N : Nat) (a0 : List ByteArray) (a : Int) : (orc T (G N) live [] N 2) loop4 (K4 N (orc T (G N) live [] N 2)) (St4 a0 a) = lp4 N a0 a :=
  (orc_loop (b := body4) (live := [0, 3]) (by kernel_rfl)).trans (iter_eq (St4 a0) _ _ (fun q1 a => by
    have hc := congrFun (congrFun (rfl : (step4 N a0) = (step4 N a0)) (fun a => q1 (St4 a0 a))) a
    exact (body4_0 N (orc T (G N) live [] N 2) (orc T (G N) live [] N 1) q1 a0 a).trans hc) N a)
theorem G_ok (N : Nat) : GamOK Try.prog (G N) := gam_ok (l := []) (trivial)
theorem snd (N : Nat) : Sound Try.prog E 77 (sp N) :=
  Mir.sound T_OK (G_ok N) mixed Try.func77 (c := code) (by kernel_rfl) (by kernel_rfl) (sp N) (Nat.le_of_ble_eq_true (by kernel_rfl)) live [] (by
    rintro ⟨a0, _⟩ r h
    exact ⟨N, 2, ((run N _ a0).trans (congrArg (m0 N a0) (funext fun a => lp4_eq N a0 a))).trans h⟩)
end spec_l06Hashes
namespace spec_l06Up
noncomputable def code : Code := Try.f107.body.getD .skip
abbrev live : Live := []
noncomputable def G (N : Nat) (slf : ByteArray → Int → Int → (List ByteArray) → Option R) : Ctx E := gam [(99, [], spec_l06Half.sp N), (107, [], spf slf), (100, [], spec_l06Node.sp N)]
noncomputable def m0 (N : Nat) (slf : ByteArray → Int → Int → (List ByteArray) → Option R) (a0 : ByteArray) (a1 : Int) (a2 : Int) (a3 : List ByteArray) : Option R :=
  bif (a2 == (1:Int)) then
    some (a0, ((a3.length : Int) == (0:Int)))
  else
  bif ((a3.length : Int) == (0:Int)) then
    some (ByteArray.empty, false)
  else
  ob (spec_l06Half.m N a2) fun y1 =>
  bif (decide (0 ≤ (w64 ((a3.length : Int) - (1:Int))))) then
  bif (decide ((w64 ((a3.length : Int) - (1:Int))) < (a3.length : Int))) then
  bif (decide (0 ≤ (w64 ((a3.length : Int) - (1:Int))))) then
  bif (decide ((w64 ((a3.length : Int) - (1:Int))) ≤ ((a3.length : Nat) : Int))) then
  bif (decide (a1 < y1)) then
    ob (slf a0 a1 y1 (a3.take (Int.toNat (w64 ((a3.length : Int) - (1:Int)))))) fun y2 =>
    ob (spec_l06Node.m N y2.1 (a3.getD (Int.toNat (w64 ((a3.length : Int) - (1:Int)))) ByteArray.empty)) fun y3 =>
    some (y3, y2.2)
  else
  ob (slf a0 (w64 (a1 - y1)) (w64 (a2 - y1)) (a3.take (Int.toNat (w64 ((a3.length : Int) - (1:Int)))))) fun y4 =>
  ob (spec_l06Node.m N (a3.getD (Int.toNat (w64 ((a3.length : Int) - (1:Int)))) ByteArray.empty) y4.1) fun y5 =>
  some (y5, y4.2)
  else none
  else none
  else none
  else none
theorem run (N : Nat) (o0 : Orc E R) (slf : ByteArray → Int → Int → (List ByteArray) → Option R) (a0 : ByteArray) (a1 : Int) (a2 : Int) (a3 : List ByteArray) : runF T (G N slf) live [] Try.f107 code (spf (mb N slf)) o0 (a0, a1, a2, a3, ()) = m0 N slf a0 a1 a2 a3 := by kernel_rfl
theorem G_ok (N : Nat) (slf : ByteArray → Int → Int → (List ByteArray) → Option R) (hs : Sound Try.prog E 107 (spf slf)) : GamOK Try.prog (G N slf) := gam_ok (l := [(99, [], spec_l06Half.sp N), (107, [], spf slf), (100, [], spec_l06Node.sp N)]) (⟨spec_l06Half.snd N, hs, spec_l06Node.snd N, trivial⟩)
theorem sndF (N : Nat) : ∀ n, Sound Try.prog E 107 (spf (mF N n))
  | 0 => sound_none Try.func107 (c := code) (by kernel_rfl) (by kernel_rfl) (spf (mF N 0)) (fun _ => rfl)
  | n + 1 => by
    have hr := fun (a0 : ByteArray) (a1 : Int) (a2 : Int) (a3 : List ByteArray) => (run N (orc T (G N (mF N n)) live [] N 2) (mF N n) a0 a1 a2 a3).trans rfl
    exact Mir.sound T_OK (G_ok N (mF N n) (sndF N n)) mixed Try.func107 (c := code) (by kernel_rfl) (by kernel_rfl) (spf (mF N (n + 1))) (Nat.le_of_ble_eq_true (by kernel_rfl)) live [] (by
      rintro ⟨a0, a1, a2, a3, _⟩ r h
      exact ⟨N, 2, (hr a0 a1 a2 a3).trans h⟩)
theorem snd (N : Nat) : Sound Try.prog E 107 (sp N) := sndF N N
end spec_l06Up
namespace spec_l08Root
noncomputable def code : Code := Try.f78.body.getD .skip
abbrev live : Live := [(4, [3, 6, 7, 8])]
noncomputable def G (N : Nat) : Ctx E := gam [(60, [], spec_l08Digits.sp N), (51, [], spec_l08Chain.sp N), (97, [], spec_l08Ends.sp N), (107, [], spec_l06Up.sp N)]
noncomputable def loop4 : Code := codeAt code [1, 1, 1, 0, 1, 0]
noncomputable def body4 : Code := codeAt loop4 [0]
noncomputable def K4 (N : Nat) (o0 : Orc E R) : KT E R := kAt T (G N) live [] o0 code [1, 1, 1, 0, 1, 0] (kfin T Try.f78 (sp N))
noncomputable def St4 (a0 : ByteArray) (a1 : Signature) : (Int × (List ByteArray) × (List Int)) → St E
  | (v0, v4, v5) => { ρ := [(3, .c (.at (.ptr 0 0))), (6, .c (.at (.own 1))), (7, .c (.at (.own 2))), (8, .c (.at (.int .i64 v0)))], H := [(0, .box 44 [.int .i64 a1.Index, .ro 9 .str a1.Parts, .ro 9 .str a1.Path]), (1, .row 9 .str v4 false), (2, .row 3 (.int .i64) v5 false)], nx := 3, n := 43, pin := [] }
noncomputable def m0 (N : Nat) (a0 : ByteArray) (a1 : Signature) (lp4 : Int × (List ByteArray) × (List Int) → Option R) : Option R :=
  ob (spec_l08Digits.m N a0) fun y1 =>
  lp4 ((0:Int), ([] : List ByteArray), y1)
theorem run (N : Nat) (o0 : Orc E R) (a0 : ByteArray) (a1 : Signature) : runF T (G N) live [] Try.f78 code (sp N) o0 (a0, a1, ()) = m0 N a0 a1 (fun a => o0 loop4 (K4 N o0) (St4 a0 a1 a)) := by kernel_rfl
theorem body4_0 (N : Nat) (o0 : Orc E R) (o1 : Orc E R) (q1 : St E → Option R) (a0 : ByteArray) (a1 : Signature) (v0 : Int) (v4 : List ByteArray) (v5 : List Int) : runA T (G N) live [] o1 body4 (St4 a0 a1 (v0, v4, v5)) (kloop [3, 6, 7, 8] q1 (K4 N o0)) = step4 N a0 a1 (fun a => q1 (St4 a0 a1 a)) (v0, v4, v5) := by kernel_rfl
theorem lp4_eq (N : Nat) (a0 : ByteArray) (a1 : Signature) (a : Int × (List ByteArray) × (List Int)) : (orc T (G N) live [] N 2) loop4 (K4 N (orc T (G N) live [] N 2)) (St4 a0 a1 a) = lp4 N a0 a1 a :=
  (orc_loop (b := body4) (live := [3, 6, 7, 8]) (by kernel_rfl)).trans (iter_eq (St4 a0 a1) _ _ (fun q1 a => by
    have hc := congrFun (congrFun (rfl : (step4 N a0 a1) = (step4 N a0 a1)) (fun a => q1 (St4 a0 a1 a))) a
    obtain ⟨u0, u1, u2⟩ := a
    exact (body4_0 N (orc T (G N) live [] N 2) (orc T (G N) live [] N 1) q1 a0 a1 u0 u1 u2).trans hc) N a)
theorem G_ok (N : Nat) : GamOK Try.prog (G N) := gam_ok (l := [(60, [], spec_l08Digits.sp N), (51, [], spec_l08Chain.sp N), (97, [], spec_l08Ends.sp N), (107, [], spec_l06Up.sp N)]) (⟨spec_l08Digits.snd N, spec_l08Chain.snd N, spec_l08Ends.snd N, spec_l06Up.snd N, trivial⟩)
theorem snd (N : Nat) : Sound Try.prog E 78 (sp N) :=
  Mir.sound T_OK (G_ok N) mixed Try.func78 (c := code) (by kernel_rfl) (by kernel_rfl) (sp N) (Nat.le_of_ble_eq_true (by kernel_rfl)) live [] (by
    rintro ⟨a0, a1, _⟩ r h
    exact ⟨N, 2, ((run N _ a0 a1).trans (congrArg (m0 N a0 a1) (funext fun a => lp4_eq N a0 a1 a))).trans h⟩)
end spec_l08Root
end Mir.Y
