/- The models are what the functions do. -/
import Derived.Test.YtohcahijaoemjaaDP2
namespace Mir.Y
set_option linter.unusedVariables false
set_option maxRecDepth 10000
open Go Go.Proofs Mir
namespace spec_l08Sign
noncomputable def code : Code := Try.f75.body.getD .skip
abbrev live : Live := [(4, [0, 1, 6, 7, 8, 9])]
noncomputable def G (N : Nat) : Ctx E := gam [(60, [], spec_l08Digits.sp N), (57, [], spec_l08Secret.sp N), (51, [], spec_l08Chain.sp N), (65, [], spec_l08Leaves.sp N), (106, [], spec_l06Path.sp N)]
noncomputable def loop4 : Code := codeAt code [1, 1, 1, 0, 1, 0]
noncomputable def body4 : Code := codeAt loop4 [0]
noncomputable def K4 (N : Nat) (o0 : Orc E R) : KT E R := kAt T (G N) live [] o0 code [1, 1, 1, 0, 1, 0] (kfin T Try.f75 (sp N))
noncomputable def St4 (a0 : ByteArray) (a1 : Int) (a2 : ByteArray) : (Int × Int × (List ByteArray) × (List Int)) → St E
  | (v2, v3, v5, v6) => { ρ := [(0, .c (.at (.str a0))), (1, .c (.at (.int .i64 a1))), (6, .c (.at (.ptr 0 0))), (7, .c (.at (.ptr 1 0))), (8, .c (.at (.own 3))), (9, .c (.at (.int .i64 v2)))], H := [(0, .box 44 [.int .i64 v3, .nils, .nils]), (1, .box 44 [.int .i64 a1, .own 2, .nils]), (2, .row 9 .str v5 false), (3, .row 3 (.int .i64) v6 false)], nx := 4, n := 39, pin := [] }
noncomputable def m0 (N : Nat) (a0 : ByteArray) (a1 : Int) (a2 : ByteArray) (lp4 : Int × Int × (List ByteArray) × (List Int) → Option R) : Option R :=
  ob (spec_l08Digits.m N a2) fun y1 =>
  lp4 ((0:Int), (0:Int), ([] : List ByteArray), y1)
theorem run (N : Nat) (o0 : Orc E R) (a0 : ByteArray) (a1 : Int) (a2 : ByteArray) : runF T (G N) live [] Try.f75 code (sp N) o0 (a0, a1, a2, ()) = m0 N a0 a1 a2 (fun a => o0 loop4 (K4 N o0) (St4 a0 a1 a2 a)) := by kernel_rfl
theorem body4_0 (N : Nat) (o0 : Orc E R) (o1 : Orc E R) (q1 : St E → Option R) (a0 : ByteArray) (a1 : Int) (a2 : ByteArray) (v2 : Int) (v3 : Int) (v5 : List ByteArray) (v6 : List Int) : runA T (G N) live [] o1 body4 (St4 a0 a1 a2 (v2, v3, v5, v6)) (kloop [0, 1, 6, 7, 8, 9] q1 (K4 N o0)) = step4 N a0 a1 a2 (fun a => q1 (St4 a0 a1 a2 a)) (v2, v3, v5, v6) := by kernel_rfl
theorem lp4_eq (N : Nat) (a0 : ByteArray) (a1 : Int) (a2 : ByteArray) (a : Int × Int × (List ByteArray) × (List Int)) : (orc T (G N) live [] N 2) loop4 (K4 N (orc T (G N) live [] N 2)) (St4 a0 a1 a2 a) = lp4 N a0 a1 a2 a :=
  (orc_loop (b := body4) (live := [0, 1, 6, 7, 8, 9]) (by kernel_rfl)).trans (iter_eq (St4 a0 a1 a2) _ _ (fun q1 a => by
    have hc := congrFun (congrFun (rfl : (step4 N a0 a1 a2) = (step4 N a0 a1 a2)) (fun a => q1 (St4 a0 a1 a2 a))) a
    obtain ⟨u0, u1, u2, u3⟩ := a
    exact (body4_0 N (orc T (G N) live [] N 2) (orc T (G N) live [] N 1) q1 a0 a1 a2 u0 u1 u2 u3).trans hc) N a)
theorem G_ok (N : Nat) : GamOK Try.prog (G N) := gam_ok (l := [(60, [], spec_l08Digits.sp N), (57, [], spec_l08Secret.sp N), (51, [], spec_l08Chain.sp N), (65, [], spec_l08Leaves.sp N), (106, [], spec_l06Path.sp N)]) (⟨spec_l08Digits.snd N, spec_l08Secret.snd N, spec_l08Chain.snd N, spec_l08Leaves.snd N, spec_l06Path.snd N, trivial⟩)
theorem snd (N : Nat) : Sound Try.prog E 75 (sp N) :=
  Mir.sound T_OK (G_ok N) mixed Try.func75 (c := code) (by kernel_rfl) (by kernel_rfl) (sp N) (Nat.le_of_ble_eq_true (by kernel_rfl)) live [] (by
    rintro ⟨a0, a1, a2, _⟩ r h
    exact ⟨N, 2, ((run N _ a0 a1 a2).trans (congrArg (m0 N a0 a1 a2) (funext fun a => lp4_eq N a0 a1 a2 a))).trans h⟩)
end spec_l08Sign
namespace spec_SignWith
noncomputable def code : Code := Try.f40.body.getD .skip
abbrev live : Live := []
noncomputable def G (N : Nat) : Ctx E := gam [(56, [], spec_l08Index.sp N), (75, [], spec_l08Sign.sp N)]
noncomputable def m0 (N : Nat) (a0 : ByteArray) (a1 : Int) (a2 : ByteArray) : Option R :=
  bif (decide ((a0.size : Int) > (65536:Int))) then
    some ((Signature.mk (0:Int) ([] : List ByteArray) ([] : List ByteArray)), (2:Int))
  else
  bif (decide ((a2.size : Int) > (65536:Int))) then
    some ((Signature.mk (0:Int) ([] : List ByteArray) ([] : List ByteArray)), (2:Int))
  else
  bif ((a0.size : Int) != (32:Int)) then
    some ((Signature.mk (0:Int) ([] : List ByteArray) ([] : List ByteArray)), (1:Int))
  else
  ob (spec_l08Index.m N a1) fun y1 =>
  bif (!y1) then
    some ((Signature.mk (0:Int) ([] : List ByteArray) ([] : List ByteArray)), (4:Int))
  else
  ob (spec_l08Sign.m N a0 a1 a2) fun y2 =>
  some (y2, (0:Int))
theorem run (N : Nat) (o0 : Orc E R) (a0 : ByteArray) (a1 : Int) (a2 : ByteArray) : runF T (G N) live [] Try.f40 code (sp N) o0 (a0, a1, a2, ()) = m0 N a0 a1 a2 := by kernel_rfl
theorem G_ok (N : Nat) : GamOK Try.prog (G N) := gam_ok (l := [(56, [], spec_l08Index.sp N), (75, [], spec_l08Sign.sp N)]) (⟨spec_l08Index.snd N, spec_l08Sign.snd N, trivial⟩)
theorem snd (N : Nat) : Sound Try.prog E 40 (sp N) :=
  Mir.sound T_OK (G_ok N) mixed Try.func40 (c := code) (by kernel_rfl) (by kernel_rfl) (sp N) (Nat.le_of_ble_eq_true (by kernel_rfl)) live [] (by
    rintro ⟨a0, a1, a2, _⟩ r h
    exact ⟨N, 2, ((run N _ a0 a1 a2).trans rfl).trans h⟩)
end spec_SignWith
namespace impl_seedCode
noncomputable def code : Code := Try.f58.body.getD .skip
abbrev live : Live := []
noncomputable def G (N : Nat) : Ctx E := gam [(52, [], impl_isText.sp N), (53, [], impl_isHash.sp N), (54, [], impl_within.sp N)]
noncomputable def m0 (N : Nat) (a0 : ByteArray) (a1 : Int) : Option R :=
  ob (impl_isText.m N ([a0])) fun y1 =>
  bif (!y1) then
    some (2:Int)
  else
  ob (impl_isHash.m N ([a0])) fun y2 =>
  bif (!y2) then
    some (1:Int)
  else
  ob (impl_within.m N a1 (0:Int) (3:Int)) fun y3 =>
  bif (!y3) then
    some (4:Int)
  else
  some (0:Int)
theorem run (N : Nat) (o0 : Orc E R) (a0 : ByteArray) (a1 : Int) : runF T (G N) live [] Try.f58 code (sp N) o0 (a0, a1, ()) = m0 N a0 a1 := by kernel_rfl
theorem G_ok (N : Nat) : GamOK Try.prog (G N) := gam_ok (l := [(52, [], impl_isText.sp N), (53, [], impl_isHash.sp N), (54, [], impl_within.sp N)]) (⟨impl_isText.snd N, impl_isHash.snd N, impl_within.snd N, trivial⟩)
theorem snd (N : Nat) : Sound Try.prog E 58 (sp N) :=
  Mir.sound T_OK (G_ok N) mixed Try.func58 (c := code) (by kernel_rfl) (by kernel_rfl) (sp N) (Nat.le_of_ble_eq_true (by kernel_rfl)) live [] (by
    rintro ⟨a0, a1, _⟩ r h
    exact ⟨N, 2, ((run N _ a0 a1).trans rfl).trans h⟩)
end impl_seedCode
namespace impl_secretPart
noncomputable def code : Code := Try.f59.body.getD .skip
abbrev live : Live := []
noncomputable def G (N : Nat) : Ctx E := gam [(96, [], impl_number.sp N), (95, [], impl_hash.sp N)]
noncomputable def m0 (N : Nat) (a0 : ByteArray) (a1 : Int) (a2 : Int) : Option R :=
  ob (impl_number.m N a1 (1:Int)) fun y1 =>
  bif (decide ((⟨#[4]⟩ : ByteArray).size + y1.size ≤ 9223372036854775807)) then
  ob (impl_number.m N a2 (1:Int)) fun y2 =>
  bif (decide (((⟨#[4]⟩ : ByteArray) ++ y1).size + y2.size ≤ 9223372036854775807)) then
  bif (decide ((((⟨#[4]⟩ : ByteArray) ++ y1) ++ y2).size + a0.size ≤ 9223372036854775807)) then
  ob (impl_hash.m N ((((⟨#[4]⟩ : ByteArray) ++ y1) ++ y2) ++ a0)) fun y3 =>
  some y3
  else none
  else none
  else none
theorem run (N : Nat) (o0 : Orc E R) (a0 : ByteArray) (a1 : Int) (a2 : Int) : runF T (G N) live [] Try.f59 code (sp N) o0 (a0, a1, a2, ()) = m0 N a0 a1 a2 := by kernel_rfl
theorem G_ok (N : Nat) : GamOK Try.prog (G N) := gam_ok (l := [(96, [], impl_number.sp N), (95, [], impl_hash.sp N)]) (⟨impl_number.snd N, impl_hash.snd N, trivial⟩)
theorem snd (N : Nat) : Sound Try.prog E 59 (sp N) :=
  Mir.sound T_OK (G_ok N) mixed Try.func59 (c := code) (by kernel_rfl) (by kernel_rfl) (sp N) (Nat.le_of_ble_eq_true (by kernel_rfl)) live [] (by
    rintro ⟨a0, a1, a2, _⟩ r h
    exact ⟨N, 2, ((run N _ a0 a1 a2).trans rfl).trans h⟩)
end impl_secretPart
namespace impl_leafKey
noncomputable def code : Code := Try.f63.body.getD .skip
abbrev live : Live := [(3, [0, 1, 5, 8])]
noncomputable def G (N : Nat) : Ctx E := gam [(59, [], impl_secretPart.sp N), (55, [], impl_chain.sp N), (98, [], impl_endsLeaf.sp N)]
noncomputable def loop3 : Code := codeAt code [1, 1, 0, 1, 0]
noncomputable def body3 : Code := codeAt loop3 [0]
noncomputable def K3 (N : Nat) (o0 : Orc E R) : KT E R := kAt T (G N) live [] o0 code [1, 1, 0, 1, 0] (kfin T Try.f63 (sp N))
noncomputable def St3 (a0 : ByteArray) (a1 : Int) : (Int × (List ByteArray)) → St E
  | (v2, v3) => { ρ := [(0, .c (.at (.str a0))), (1, .c (.at (.int .i64 a1))), (5, .c (.at (.own 0))), (8, .c (.at (.int .i64 v2)))], H := [(0, .row 9 .str v3 false)], nx := 1, n := 22, pin := [] }
noncomputable def m0 (N : Nat) (a0 : ByteArray) (a1 : Int) (lp3 : Int × (List ByteArray) → Option R) : Option R :=
  lp3 ((0:Int), ([] : List ByteArray))
theorem run (N : Nat) (o0 : Orc E R) (a0 : ByteArray) (a1 : Int) : runF T (G N) live [] Try.f63 code (sp N) o0 (a0, a1, ()) = m0 N a0 a1 (fun a => o0 loop3 (K3 N o0) (St3 a0 a1 a)) := by kernel_rfl
theorem body3_0 (N : Nat) (o0 : Orc E R) (o1 : Orc E R) (q1 : St E → Option R) (a0 : ByteArray) (a1 : Int) (v2 : Int) (v3 : List ByteArray) : runA T (G N) live [] o1 body3 (St3 a0 a1 (v2, v3)) (kloop [0, 1, 5, 8] q1 (K3 N o0)) = step3 N a0 a1 (fun a => q1 (St3 a0 a1 a)) (v2, v3) := by kernel_rfl
theorem lp3_eq (N : Nat) (a0 : ByteArray) (a1 : Int) (a : Int × (List ByteArray)) : (orc T (G N) live [] N 2) loop3 (K3 N (orc T (G N) live [] N 2)) (St3 a0 a1 a) = lp3 N a0 a1 a :=
  (orc_loop (b := body3) (live := [0, 1, 5, 8]) (by kernel_rfl)).trans (iter_eq (St3 a0 a1) _ _ (fun q1 a => by
    have hc := congrFun (congrFun (rfl : (step3 N a0 a1) = (step3 N a0 a1)) (fun a => q1 (St3 a0 a1 a))) a
    obtain ⟨u0, u1⟩ := a
    exact (body3_0 N (orc T (G N) live [] N 2) (orc T (G N) live [] N 1) q1 a0 a1 u0 u1).trans hc) N a)
theorem G_ok (N : Nat) : GamOK Try.prog (G N) := gam_ok (l := [(59, [], impl_secretPart.sp N), (55, [], impl_chain.sp N), (98, [], impl_endsLeaf.sp N)]) (⟨impl_secretPart.snd N, impl_chain.snd N, impl_endsLeaf.snd N, trivial⟩)
theorem snd (N : Nat) : Sound Try.prog E 63 (sp N) :=
  Mir.sound T_OK (G_ok N) mixed Try.func63 (c := code) (by kernel_rfl) (by kernel_rfl) (sp N) (Nat.le_of_ble_eq_true (by kernel_rfl)) live [] (by
    rintro ⟨a0, a1, _⟩ r h
    exact ⟨N, 2, ((run N _ a0 a1).trans (congrArg (m0 N a0 a1) (funext fun a => lp3_eq N a0 a1 a))).trans h⟩)
end impl_leafKey
namespace impl_keyLeaves
noncomputable def code : Code := Try.f67.body.getD .skip
abbrev live : Live := [(3, [0, 3, 6])]
noncomputable def G (N : Nat) : Ctx E := gam [(63, [], impl_leafKey.sp N)]
noncomputable def loop3 : Code := codeAt code [1, 1, 0, 1, 0]
noncomputable def body3 : Code := codeAt loop3 [0]
noncomputable def K3 (N : Nat) (o0 : Orc E R) : KT E R := kAt T (G N) live [] o0 code [1, 1, 0, 1, 0] (kfin T Try.f67 (sp N))
noncomputable def St3 (a0 : ByteArray) : (Int × (List ByteArray)) → St E
  | (v1, v2) => { ρ := [(0, .c (.at (.str a0))), (3, .c (.at (.own 0))), (6, .c (.at (.int .i64 v1)))], H := [(0, .row 9 .str v2 false)], nx := 1, n := 17, pin := [] }
noncomputable def m0 (N : Nat) (a0 : ByteArray) (lp3 : Int × (List ByteArray) → Option R) : Option R :=
  lp3 ((0:Int), ([] : List ByteArray))
theorem run (N : Nat) (o0 : Orc E R) (a0 : ByteArray) : runF T (G N) live [] Try.f67 code (sp N) o0 (a0, ()) = m0 N a0 (fun a => o0 loop3 (K3 N o0) (St3 a0 a)) := by kernel_rfl
theorem body3_0 (N : Nat) (o0 : Orc E R) (o1 : Orc E R) (q1 : St E → Option R) (a0 : ByteArray) (v1 : Int) (v2 : List ByteArray) : runA T (G N) live [] o1 body3 (St3 a0 (v1, v2)) (kloop [0, 3, 6] q1 (K3 N o0)) = step3 N a0 (fun a => q1 (St3 a0 a)) (v1, v2) := by kernel_rfl
theorem lp3_eq (N : Nat) (a0 : ByteArray) (a : Int × (List ByteArray)) : (orc T (G N) live [] N 2) loop3 (K3 N (orc T (G N) live [] N 2)) (St3 a0 a) = lp3 N a0 a :=
  (orc_loop (b := body3) (live := [0, 3, 6]) (by kernel_rfl)).trans (iter_eq (St3 a0) _ _ (fun q1 a => by
    have hc := congrFun (congrFun (rfl : (step3 N a0) = (step3 N a0)) (fun a => q1 (St3 a0 a))) a
    obtain ⟨u0, u1⟩ := a
    exact (body3_0 N (orc T (G N) live [] N 2) (orc T (G N) live [] N 1) q1 a0 u0 u1).trans hc) N a)
theorem G_ok (N : Nat) : GamOK Try.prog (G N) := gam_ok (l := [(63, [], impl_leafKey.sp N)]) (⟨impl_leafKey.snd N, trivial⟩)
theorem snd (N : Nat) : Sound Try.prog E 67 (sp N) :=
  Mir.sound T_OK (G_ok N) mixed Try.func67 (c := code) (by kernel_rfl) (by kernel_rfl) (sp N) (Nat.le_of_ble_eq_true (by kernel_rfl)) live [] (by
    rintro ⟨a0, _⟩ r h
    exact ⟨N, 2, ((run N _ a0).trans (congrArg (m0 N a0) (funext fun a => lp3_eq N a0 a))).trans h⟩)
end impl_keyLeaves
namespace impl_treeHash
noncomputable def code : Code := Try.f66.body.getD .skip
abbrev live : Live := []
noncomputable def G (N : Nat) (slf : (List ByteArray) → Option R) : Ctx E := gam [(95, [], impl_hash.sp N), (101, [], impl_split.sp N), (66, [], spf slf), (102, [], impl_nodeHash.sp N)]
noncomputable def m0 (N : Nat) (slf : (List ByteArray) → Option R) (a0 : List ByteArray) : Option R :=
  bif ((a0.length : Int) == (0:Int)) then
    ob (impl_hash.m N ByteArray.empty) fun y1 =>
    some y1
  else
  bif ((a0.length : Int) == (1:Int)) then
    bif (decide (0 ≤ (0:Int))) then
    bif (decide ((0:Int) < (a0.length : Int))) then
    some (a0.getD 0 ByteArray.empty)
    else none
    else none
  else
  ob (impl_split.m N (a0.length : Int)) fun y2 =>
  bif (decide (0 ≤ y2)) then
  bif (decide (y2 ≤ ((a0.length : Nat) : Int))) then
  ob (slf (a0.take (Int.toNat y2))) fun y3 =>
  bif (decide (0 ≤ y2)) then
  bif (decide (y2 ≤ ((a0.length : Nat) : Int))) then
  ob (slf (a0.drop (Int.toNat y2))) fun y4 =>
  ob (impl_nodeHash.m N y3 y4) fun y5 =>
  some y5
  else none
  else none
  else none
  else none
theorem run (N : Nat) (o0 : Orc E R) (slf : (List ByteArray) → Option R) (a0 : List ByteArray) : runF T (G N slf) live [] Try.f66 code (spf (mb N slf)) o0 (a0, ()) = m0 N slf a0 := by kernel_rfl
theorem G_ok (N : Nat) (slf : (List ByteArray) → Option R) (hs : Sound Try.prog E 66 (spf slf)) : GamOK Try.prog (G N slf) := gam_ok (l := [(95, [], impl_hash.sp N), (101, [], impl_split.sp N), (66, [], spf slf), (102, [], impl_nodeHash.sp N)]) (⟨impl_hash.snd N, impl_split.snd N, hs, impl_nodeHash.snd N, trivial⟩)
theorem sndF (N : Nat) : ∀ n, Sound Try.prog E 66 (spf (mF N n))
  | 0 => sound_none Try.func66 (c := code) (by kernel_rfl) (by kernel_rfl) (spf (mF N 0)) (fun _ => rfl)
  | n + 1 => by
    have hr := fun (a0 : List ByteArray) => (run N (orc T (G N (mF N n)) live [] N 2) (mF N n) a0).trans rfl
    exact Mir.sound T_OK (G_ok N (mF N n) (sndF N n)) mixed Try.func66 (c := code) (by kernel_rfl) (by kernel_rfl) (spf (mF N (n + 1))) (Nat.le_of_ble_eq_true (by kernel_rfl)) live [] (by
      rintro ⟨a0, _⟩ r h
      exact ⟨N, 2, (hr a0).trans h⟩)
theorem snd (N : Nat) : Sound Try.prog E 66 (sp N) := sndF N N
end impl_treeHash
namespace impl_inclusion
noncomputable def code : Code := Try.f105.body.getD .skip
abbrev live : Live := []
noncomputable def G (N : Nat) (slf : (List ByteArray) → Int → Option R) : Ctx E := gam [(101, [], impl_split.sp N), (105, [], spf slf), (66, [], impl_treeHash.sp N)]
noncomputable def m0 (N : Nat) (slf : (List ByteArray) → Int → Option R) (a0 : List ByteArray) (a1 : Int) : Option R :=
  bif (decide ((a0.length : Int) ≤ (1:Int))) then
    some ([] : List ByteArray)
  else
  ob (impl_split.m N (a0.length : Int)) fun y1 =>
  bif (decide (a1 < y1)) then
    bif (decide (0 ≤ y1)) then
    bif (decide (y1 ≤ ((a0.length : Nat) : Int))) then
    ob (slf (a0.take (Int.toNat y1)) a1) fun y2 =>
    bif (decide (0 ≤ y1)) then
    bif (decide (y1 ≤ ((a0.length : Nat) : Int))) then
    ob (impl_treeHash.m N (a0.drop (Int.toNat y1))) fun y3 =>
    bif (room (y2.length + ([y3]).length) 16) then
    some (y2 ++ [y3])
    else none
    else none
    else none
    else none
    else none
  else
  bif (decide (0 ≤ y1)) then
  bif (decide (y1 ≤ ((a0.length : Nat) : Int))) then
  ob (slf (a0.drop (Int.toNat y1)) (w64 (a1 - y1))) fun y4 =>
  bif (decide (0 ≤ y1)) then
  bif (decide (y1 ≤ ((a0.length : Nat) : Int))) then
  ob (impl_treeHash.m N (a0.take (Int.toNat y1))) fun y5 =>
  bif (room (y4.length + ([y5]).length) 16) then
  some (y4 ++ [y5])
  else none
  else none
  else none
  else none
  else none
theorem run (N : Nat) (o0 : Orc E R) (slf : (List ByteArray) → Int → Option R) (a0 : List ByteArray) (a1 : Int) : runF T (G N slf) live [] Try.f105 code (spf (mb N slf)) o0 (a0, a1, ()) = m0 N slf a0 a1 := by kernel_rfl
theorem G_ok (N : Nat) (slf : (List ByteArray) → Int → Option R) (hs : Sound Try.prog E 105 (spf slf)) : GamOK Try.prog (G N slf) := gam_ok (l := [(101, [], impl_split.sp N), (105, [], spf slf), (66, [], impl_treeHash.sp N)]) (⟨impl_split.snd N, hs, impl_treeHash.snd N, trivial⟩)
theorem sndF (N : Nat) : ∀ n, Sound Try.prog E 105 (spf (mF N n))
  | 0 => sound_none Try.func105 (c := code) (by kernel_rfl) (by kernel_rfl) (spf (mF N 0)) (fun _ => rfl)
  | n + 1 => by
    have hr := fun (a0 : List ByteArray) (a1 : Int) => (run N (orc T (G N (mF N n)) live [] N 2) (mF N n) a0 a1).trans rfl
    exact Mir.sound T_OK (G_ok N (mF N n) (sndF N n)) mixed Try.func105 (c := code) (by kernel_rfl) (by kernel_rfl) (spf (mF N (n + 1))) (Nat.le_of_ble_eq_true (by kernel_rfl)) live [] (by
      rintro ⟨a0, a1, _⟩ r h
      exact ⟨N, 2, (hr a0 a1).trans h⟩)
theorem snd (N : Nat) : Sound Try.prog E 105 (sp N) := sndF N N
end impl_inclusion
namespace impl_signWith
noncomputable def code : Code := Try.f73.body.getD .skip
abbrev live : Live := [(3, [0, 1, 6, 7, 17, 18, 19])]
noncomputable def G (N : Nat) : Ctx E := gam [(67, [], impl_keyLeaves.sp N), (105, [], impl_inclusion.sp N), (61, [], impl_digits.sp N), (59, [], impl_secretPart.sp N), (55, [], impl_chain.sp N)]
noncomputable def loop3 : Code := codeAt code [1, 1, 0, 1, 0]
noncomputable def body3 : Code := codeAt loop3 [0]
noncomputable def K3 (N : Nat) (o0 : Orc E R) : KT E R := kAt T (G N) live [] o0 code [1, 1, 0, 1, 0] (kfin T Try.f73 (sp N))
noncomputable def St3 (a0 : ByteArray) (a1 : Int) (a2 : ByteArray) : A3 → St E
  | .s0 v2 v3 v4 v6 v7 => { ρ := [(0, .c (.at (.str a0))), (1, .c (.at (.int .i64 a1))), (6, .c (.at (.ptr 0 0))), (7, .c (.at (.ptr 1 0))), (17, .c (.at (.own 3))), (18, .c (.at (.int .i64 v2))), (19, .c (.at (.int .i64 v3)))], H := [(0, .box 44 [.int .i64 v4, .nils, .nils]), (1, .box 44 [.int .i64 a1, .nils, .own 2]), (2, .row 9 .str v6 false), (3, .row 3 (.int .i64) v7 false)], nx := 4, n := 37, pin := [] }
  | .s1 v2 v3 v4 v6 v7 v8 => { ρ := [(0, .c (.at (.str a0))), (1, .c (.at (.int .i64 a1))), (6, .c (.at (.ptr 0 0))), (7, .c (.at (.ptr 1 0))), (17, .c (.at (.own 4))), (18, .c (.at (.int .i64 v2))), (19, .c (.at (.int .i64 v3)))], H := [(0, .box 44 [.int .i64 v4, .nils, .nils]), (1, .box 44 [.int .i64 a1, .own 2, .own 3]), (2, .row 9 .str v6 false), (3, .row 9 .str v7 false), (4, .row 3 (.int .i64) v8 false)], nx := 5, n := 37, pin := [] }
noncomputable def m0 (N : Nat) (a0 : ByteArray) (a1 : Int) (a2 : ByteArray) (lp3 : A3 → Option R) : Option R :=
  ob (impl_keyLeaves.m N a0) fun y1 =>
  ob (impl_inclusion.m N y1 a1) fun y2 =>
  ob (impl_digits.m N a2) fun y3 =>
  lp3 (.s0 (y3.length : Int) (0:Int) (0:Int) y2 y3)
theorem run (N : Nat) (o0 : Orc E R) (a0 : ByteArray) (a1 : Int) (a2 : ByteArray) : runF T (G N) live [] Try.f73 code (sp N) o0 (a0, a1, a2, ()) = m0 N a0 a1 a2 (fun a => o0 loop3 (K3 N o0) (St3 a0 a1 a2 a)) := by kernel_rfl
theorem body3_0 (N : Nat) (o0 : Orc E R) (o1 : Orc E R) (q1 : St E → Option R) (a0 : ByteArray) (a1 : Int) (a2 : ByteArray) (v2 : Int) (v3 : Int) (v4 : Int) (v6 : List ByteArray) (v7 : List Int) : runA T (G N) live [] o1 body3 (St3 a0 a1 a2 (.s0 v2 v3 v4 v6 v7)) (kloop [0, 1, 6, 7, 17, 18, 19] q1 (K3 N o0)) = step3 N a0 a1 a2 (fun a => q1 (St3 a0 a1 a2 a)) (.s0 v2 v3 v4 v6 v7) := by kernel_rfl
theorem body3_1 (N : Nat) (o0 : Orc E R) (o1 : Orc E R) (q1 : St E → Option R) (a0 : ByteArray) (a1 : Int) (a2 : ByteArray) (v2 : Int) (v3 : Int) (v4 : Int) (v6 : List ByteArray) (v7 : List ByteArray) (v8 : List Int) : runA T (G N) live [] o1 body3 (St3 a0 a1 a2 (.s1 v2 v3 v4 v6 v7 v8)) (kloop [0, 1, 6, 7, 17, 18, 19] q1 (K3 N o0)) = step3 N a0 a1 a2 (fun a => q1 (St3 a0 a1 a2 a)) (.s1 v2 v3 v4 v6 v7 v8) := by kernel_rfl
theorem lp3_eq (N : Nat) (a0 : ByteArray) (a1 : Int) (a2 : ByteArray) (a : A3) : (orc T (G N) live [] N 2) loop3 (K3 N (orc T (G N) live [] N 2)) (St3 a0 a1 a2 a) = lp3 N a0 a1 a2 a :=
  (orc_loop (b := body3) (live := [0, 1, 6, 7, 17, 18, 19]) (by kernel_rfl)).trans (iter_eq (St3 a0 a1 a2) _ _ (fun q1 a => by
    have hc := congrFun (congrFun (rfl : (step3 N a0 a1 a2) = (step3 N a0 a1 a2)) (fun a => q1 (St3 a0 a1 a2 a))) a
    cases a with
    | s0 u0 u1 u2 u3 u4 => exact (body3_0 N (orc T (G N) live [] N 2) (orc T (G N) live [] N 1) q1 a0 a1 a2 u0 u1 u2 u3 u4).trans hc
    | s1 u0 u1 u2 u3 u4 u5 => exact (body3_1 N (orc T (G N) live [] N 2) (orc T (G N) live [] N 1) q1 a0 a1 a2 u0 u1 u2 u3 u4 u5).trans hc) N a)
theorem G_ok (N : Nat) : GamOK Try.prog (G N) := gam_ok (l := [(67, [], impl_keyLeaves.sp N), (105, [], impl_inclusion.sp N), (61, [], impl_digits.sp N), (59, [], impl_secretPart.sp N), (55, [], impl_chain.sp N)]) (⟨impl_keyLeaves.snd N, impl_inclusion.snd N, impl_digits.snd N, impl_secretPart.snd N, impl_chain.snd N, trivial⟩)
theorem snd (N : Nat) : Sound Try.prog E 73 (sp N) :=
  Mir.sound T_OK (G_ok N) mixed Try.func73 (c := code) (by kernel_rfl) (by kernel_rfl) (sp N) (Nat.le_of_ble_eq_true (by kernel_rfl)) live [] (by
    rintro ⟨a0, a1, a2, _⟩ r h
    exact ⟨N, 2, ((run N _ a0 a1 a2).trans (congrArg (m0 N a0 a1 a2) (funext fun a => lp3_eq N a0 a1 a2 a))).trans h⟩)
end impl_signWith
namespace impl_SignWith
noncomputable def code : Code := Try.f41.body.getD .skip
abbrev live : Live := []
noncomputable def G (N : Nat) : Ctx E := gam [(52, [], impl_isText.sp N), (58, [], impl_seedCode.sp N), (73, [], impl_signWith.sp N)]
noncomputable def m0 (N : Nat) (a0 : ByteArray) (a1 : Int) (a2 : ByteArray) : Option R :=
  ob (impl_isText.m N ([a2])) fun y1 =>
  bif (!y1) then
    some ((Signature.mk (0:Int) ([] : List ByteArray) ([] : List ByteArray)), (2:Int))
  else
  ob (impl_seedCode.m N a0 a1) fun y2 =>
  bif (y2 != (0:Int)) then
    some ((Signature.mk (0:Int) ([] : List ByteArray) ([] : List ByteArray)), y2)
  else
  ob (impl_signWith.m N a0 a1 a2) fun y3 =>
  some (y3, (0:Int))
theorem run (N : Nat) (o0 : Orc E R) (a0 : ByteArray) (a1 : Int) (a2 : ByteArray) : runF T (G N) live [] Try.f41 code (sp N) o0 (a0, a1, a2, ()) = m0 N a0 a1 a2 := by kernel_rfl
theorem G_ok (N : Nat) : GamOK Try.prog (G N) := gam_ok (l := [(52, [], impl_isText.sp N), (58, [], impl_seedCode.sp N), (73, [], impl_signWith.sp N)]) (⟨impl_isText.snd N, impl_seedCode.snd N, impl_signWith.snd N, trivial⟩)
theorem snd (N : Nat) : Sound Try.prog E 41 (sp N) :=
  Mir.sound T_OK (G_ok N) mixed Try.func41 (c := code) (by kernel_rfl) (by kernel_rfl) (sp N) (Nat.le_of_ble_eq_true (by kernel_rfl)) live [] (by
    rintro ⟨a0, a1, a2, _⟩ r h
    exact ⟨N, 2, ((run N _ a0 a1 a2).trans rfl).trans h⟩)
end impl_SignWith
namespace laws_markText
noncomputable def code : Code := Try.f109.body.getD .skip
abbrev live : Live := [(4, [0, 3])]
noncomputable def G (N : Nat) : Ctx E := gam []
noncomputable def loop4 : Code := codeAt code [1, 1, 1, 0, 0]
noncomputable def body4 : Code := codeAt loop4 [0]
noncomputable def K4 (N : Nat) (o0 : Orc E R) : KT E R := kAt T (G N) live [] o0 code [1, 1, 1, 0, 0] (kfin T Try.f109 (sp N))
noncomputable def St4 (a0 : Int) : (Int × ByteArray) → St E
  | (v0, v1) => { ρ := [(0, .c (.at (.int .i64 v0))), (3, .c (.at (.str v1)))], H := [], nx := 0, n := 20, pin := [] }
noncomputable def m0 (N : Nat) (a0 : Int) (lp4 : Int × ByteArray → Option R) : Option R :=
  bif (decide (a0 ≤ (0:Int))) then
    some (⟨#[109, 48]⟩ : ByteArray)
  else
  lp4 (a0, ByteArray.empty)
theorem run (N : Nat) (o0 : Orc E R) (a0 : Int) : runF T (G N) live [] Try.f109 code (sp N) o0 (a0, ()) = m0 N a0 (fun a => o0 loop4 (K4 N o0) (St4 a0 a)) := by kernel_rfl
theorem body4_0 (N : Nat) (o0 : Orc E R) (o1 : Orc E R) (q1 : St E → Option R) (a0 : Int) (v0 : Int) (v1 : ByteArray) : runA T (G N) live [] o1 body4 (St4 a0 (v0, v1)) (kloop [0, 3] q1 (K4 N o0)) = step4 N a0 (fun a => q1 (St4 a0 a)) (v0, v1) := by kernel_rfl
theorem lp4_eq (N : Nat) (a0 : Int) (a : Int × ByteArray) : (orc T (G N) live [] N 2) loop4 (K4 N (orc T (G N) live [] N 2)) (St4 a0 a) = lp4 N a0 a :=
  (orc_loop (b := body4) (live := [0, 3]) (by kernel_rfl)).trans (iter_eq (St4 a0) _ _ (fun q1 a => by
    have hc := congrFun (congrFun (rfl : (step4 N a0) = (step4 N a0)) (fun a => q1 (St4 a0 a))) a
    obtain ⟨u0, u1⟩ := a
    exact (body4_0 N (orc T (G N) live [] N 2) (orc T (G N) live [] N 1) q1 a0 u0 u1).trans hc) N a)
theorem G_ok (N : Nat) : GamOK Try.prog (G N) := gam_ok (l := []) (trivial)
theorem snd (N : Nat) : Sound Try.prog E 109 (sp N) :=
  Mir.sound T_OK (G_ok N) mixed Try.func109 (c := code) (by kernel_rfl) (by kernel_rfl) (sp N) (Nat.le_of_ble_eq_true (by kernel_rfl)) live [] (by
    rintro ⟨a0, _⟩ r h
    exact ⟨N, 2, ((run N _ a0).trans (congrArg (m0 N a0) (funext fun a => lp4_eq N a0 a))).trans h⟩)
end laws_markText
namespace laws_markStringS
noncomputable def code : Code := Try.f83.body.getD .skip
abbrev live : Live := [(2, [0, 1, 5])]
noncomputable def G (N : Nat) : Ctx E := gam [(109, [], laws_markText.sp N)]
noncomputable def loop2 : Code := codeAt code [1, 0, 1, 0]
noncomputable def body2 : Code := codeAt loop2 [0]
noncomputable def K2 (N : Nat) (o0 : Orc E R) : KT E R := kAt T (G N) live [] o0 code [1, 0, 1, 0] (kfin T Try.f83 (sp N))
noncomputable def St2 (a0 : List ByteArray) (a1 : Int) : (Int × Int × (List ByteArray)) → St E
  | (v0, v1, v2) => { ρ := [(0, .c (.at (.own 0))), (1, .c (.at (.int .i64 v0))), (5, .c (.at (.int .i64 v1)))], H := [(0, .row 9 .str v2 false)], nx := 1, n := 20, pin := [0] }
noncomputable def m0 (N : Nat) (a0 : List ByteArray) (a1 : Int) (lp2 : Int × Int × (List ByteArray) → Option R) : Option R :=
  lp2 (a1, (0:Int), a0)
theorem run (N : Nat) (o0 : Orc E R) (a0 : List ByteArray) (a1 : Int) : runF T (G N) live [] Try.f83 code (sp N) o0 (a0, a1, ()) = m0 N a0 a1 (fun a => o0 loop2 (K2 N o0) (St2 a0 a1 a)) := by kernel_rfl
theorem body2_0 (N : Nat) (o0 : Orc E R) (o1 : Orc E R) (q1 : St E → Option R) (a0 : List ByteArray) (a1 : Int) (v0 : Int) (v1 : Int) (v2 : List ByteArray) : runA T (G N) live [] o1 body2 (St2 a0 a1 (v0, v1, v2)) (kloop [0, 1, 5] q1 (K2 N o0)) = step2 N a0 a1 (fun a => q1 (St2 a0 a1 a)) (v0, v1, v2) := by kernel_rfl
theorem lp2_eq (N : Nat) (a0 : List ByteArray) (a1 : Int) (a : Int × Int × (List ByteArray)) : (orc T (G N) live [] N 2) loop2 (K2 N (orc T (G N) live [] N 2)) (St2 a0 a1 a) = lp2 N a0 a1 a :=
  (orc_loop (b := body2) (live := [0, 1, 5]) (by kernel_rfl)).trans (iter_eq (St2 a0 a1) _ _ (fun q1 a => by
    have hc := congrFun (congrFun (rfl : (step2 N a0 a1) = (step2 N a0 a1)) (fun a => q1 (St2 a0 a1 a))) a
    obtain ⟨u0, u1, u2⟩ := a
    exact (body2_0 N (orc T (G N) live [] N 2) (orc T (G N) live [] N 1) q1 a0 a1 u0 u1 u2).trans hc) N a)
theorem G_ok (N : Nat) : GamOK Try.prog (G N) := gam_ok (l := [(109, [], laws_markText.sp N)]) (⟨laws_markText.snd N, trivial⟩)
theorem snd (N : Nat) : Sound Try.prog E 83 (sp N) :=
  Mir.sound T_OK (G_ok N) mixed Try.func83 (c := code) (by kernel_rfl) (by kernel_rfl) (sp N) (Nat.le_of_ble_eq_true (by kernel_rfl)) live [] (by
    rintro ⟨a0, a1, _⟩ r h
    exact ⟨N, 2, ((run N _ a0 a1).trans (congrArg (m0 N a0 a1) (funext fun a => lp2_eq N a0 a1 a))).trans h⟩)
end laws_markStringS
namespace laws_markSignature
noncomputable def code : Code := Try.f42.body.getD .skip
abbrev live : Live := []
noncomputable def G (N : Nat) : Ctx E := gam [(83, [], laws_markStringS.sp N)]
noncomputable def m0 (N : Nat) (a0 : Signature) (a1 : Int) : Option R :=
  ob (laws_markStringS.m N a0.Parts a1) fun y1 =>
  ob (laws_markStringS.m N a0.Path y1.1) fun y2 =>
  some (y2.1, (Signature.mk a0.Index y1.2 y2.2))
theorem run (N : Nat) (o0 : Orc E R) (a0 : Signature) (a1 : Int) : runF T (G N) live [] Try.f42 code (sp N) o0 (a0, a1, ()) = m0 N a0 a1 := by kernel_rfl
theorem G_ok (N : Nat) : GamOK Try.prog (G N) := gam_ok (l := [(83, [], laws_markStringS.sp N)]) (⟨laws_markStringS.snd N, trivial⟩)
theorem snd (N : Nat) : Sound Try.prog E 42 (sp N) :=
  Mir.sound T_OK (G_ok N) mixed Try.func42 (c := code) (by kernel_rfl) (by kernel_rfl) (sp N) (Nat.le_of_ble_eq_true (by kernel_rfl)) live [] (by
    rintro ⟨a0, a1, _⟩ r h
    exact ⟨N, 2, ((run N _ a0 a1).trans rfl).trans h⟩)
end laws_markSignature
namespace laws_heldStringS
noncomputable def code : Code := Try.f84.body.getD .skip
abbrev live : Live := [(2, [0, 1, 5])]
noncomputable def G (N : Nat) : Ctx E := gam [(109, [], laws_markText.sp N)]
noncomputable def loop2 : Code := codeAt code [1, 0, 1, 0]
noncomputable def body2 : Code := codeAt loop2 [0]
noncomputable def K2 (N : Nat) (o0 : Orc E R) : KT E R := kAt T (G N) live [] o0 code [1, 0, 1, 0] (kfin T Try.f84 (sp N))
noncomputable def St2 (a0 : List ByteArray) (a1 : Int) : (Int × Int) → St E
  | (v1, v2) => { ρ := [(0, .c (.at (.ro 9 .str a0))), (1, .c (.at (.int .i64 v1))), (5, .c (.at (.int .i64 v2)))], H := [], nx := 0, n := 22, pin := [] }
noncomputable def m0 (N : Nat) (a0 : List ByteArray) (a1 : Int) (lp2 : Int × Int → Option R) : Option R :=
  lp2 (a1, (0:Int))
theorem run (N : Nat) (o0 : Orc E R) (a0 : List ByteArray) (a1 : Int) : runF T (G N) live [] Try.f84 code (sp N) o0 (a0, a1, ()) = m0 N a0 a1 (fun a => o0 loop2 (K2 N o0) (St2 a0 a1 a)) := by kernel_rfl
theorem body2_0 (N : Nat) (o0 : Orc E R) (o1 : Orc E R) (q1 : St E → Option R) (a0 : List ByteArray) (a1 : Int) (v1 : Int) (v2 : Int) : runA T (G N) live [] o1 body2 (St2 a0 a1 (v1, v2)) (kloop [0, 1, 5] q1 (K2 N o0)) = step2 N a0 a1 (fun a => q1 (St2 a0 a1 a)) (v1, v2) := by kernel_rfl
theorem lp2_eq (N : Nat) (a0 : List ByteArray) (a1 : Int) (a : Int × Int) : (orc T (G N) live [] N 2) loop2 (K2 N (orc T (G N) live [] N 2)) (St2 a0 a1 a) = lp2 N a0 a1 a :=
  (orc_loop (b := body2) (live := [0, 1, 5]) (by kernel_rfl)).trans (iter_eq (St2 a0 a1) _ _ (fun q1 a => by
    have hc := congrFun (congrFun (rfl : (step2 N a0 a1) = (step2 N a0 a1)) (fun a => q1 (St2 a0 a1 a))) a
    obtain ⟨u0, u1⟩ := a
    exact (body2_0 N (orc T (G N) live [] N 2) (orc T (G N) live [] N 1) q1 a0 a1 u0 u1).trans hc) N a)
theorem G_ok (N : Nat) : GamOK Try.prog (G N) := gam_ok (l := [(109, [], laws_markText.sp N)]) (⟨laws_markText.snd N, trivial⟩)
theorem snd (N : Nat) : Sound Try.prog E 84 (sp N) :=
  Mir.sound T_OK (G_ok N) mixed Try.func84 (c := code) (by kernel_rfl) (by kernel_rfl) (sp N) (Nat.le_of_ble_eq_true (by kernel_rfl)) live [] (by
    rintro ⟨a0, a1, _⟩ r h
    exact ⟨N, 2, ((run N _ a0 a1).trans (congrArg (m0 N a0 a1) (funext fun a => lp2_eq N a0 a1 a))).trans h⟩)
end laws_heldStringS
namespace laws_heldSignature
noncomputable def code : Code := Try.f43.body.getD .skip
abbrev live : Live := []
noncomputable def G (N : Nat) : Ctx E := gam [(84, [], laws_heldStringS.sp N)]
noncomputable def m0 (N : Nat) (a0 : Signature) (a1 : Int) : Option R :=
  ob (laws_heldStringS.m N a0.Parts a1) fun y1 =>
  bif (decide (y1 < (0:Int))) then
    some (-1:Int)
  else
  ob (laws_heldStringS.m N a0.Path y1) fun y2 =>
  bif (decide (y2 < (0:Int))) then
    some (-1:Int)
  else
  some y2
theorem run (N : Nat) (o0 : Orc E R) (a0 : Signature) (a1 : Int) : runF T (G N) live [] Try.f43 code (sp N) o0 (a0, a1, ()) = m0 N a0 a1 := by kernel_rfl
theorem G_ok (N : Nat) : GamOK Try.prog (G N) := gam_ok (l := [(84, [], laws_heldStringS.sp N)]) (⟨laws_heldStringS.snd N, trivial⟩)
theorem snd (N : Nat) : Sound Try.prog E 43 (sp N) :=
  Mir.sound T_OK (G_ok N) mixed Try.func43 (c := code) (by kernel_rfl) (by kernel_rfl) (sp N) (Nat.le_of_ble_eq_true (by kernel_rfl)) live [] (by
    rintro ⟨a0, a1, _⟩ r h
    exact ⟨N, 2, ((run N _ a0 a1).trans rfl).trans h⟩)
end laws_heldSignature
namespace laws_FnExactSignWith
noncomputable def code : Code := Try.f11.body.getD .skip
abbrev live : Live := []
noncomputable def G (N : Nat) : Ctx E := gam [(40, [], spec_SignWith.sp N), (41, [], impl_SignWith.sp N), (39, [], laws_eqSignature.sp N), (42, [], laws_markSignature.sp N), (43, [], laws_heldSignature.sp N)]
noncomputable def m0 (N : Nat) (a0 : ByteArray) (a1 : Int) (a2 : ByteArray) : Option R :=
  bif (decide ((a0.size : Int) > (1048576:Int))) then
    some true
  else
  bif (decide ((a2.size : Int) > (1048576:Int))) then
    some true
  else
  ob (spec_SignWith.m N a0 a1 a2) fun y1 =>
  ob (impl_SignWith.m N a0 a1 a2) fun y2 =>
  ob (laws_eqSignature.m N y2.1 y1.1) fun y3 =>
  bif (!y3) then
    some false
  else
  bif (bif false then true else (y2.2 != y1.2)) then
    some false
  else
  ob (laws_markSignature.m N y2.1 (1:Int)) fun y4 =>
  ob (laws_heldSignature.m N (Signature.mk y2.1.Index y4.2.Parts y4.2.Path) (1:Int)) fun y5 =>
  bif (decide (y5 < (0:Int))) then
    some false
  else
  bif (y5 != y4.1) then
    some false
  else
  ob (impl_SignWith.m N a0 a1 a2) fun y6 =>
  ob (laws_eqSignature.m N y6.1 y1.1) fun y7 =>
  bif (!y7) then
    some false
  else
  bif (bif false then true else (y6.2 != y1.2)) then
    some false
  else
  ob (laws_heldSignature.m N (Signature.mk y2.1.Index y4.2.Parts y4.2.Path) (1:Int)) fun y8 =>
  bif (decide (y8 < (0:Int))) then
    some false
  else
  bif (y8 != y4.1) then
    some false
  else
  some true
theorem run (N : Nat) (o0 : Orc E R) (a0 : ByteArray) (a1 : Int) (a2 : ByteArray) : runF T (G N) live [] Try.f11 code (sp N) o0 (a0, a1, a2, ()) = m0 N a0 a1 a2 := by kernel_rfl
theorem G_ok (N : Nat) : GamOK Try.prog (G N) := gam_ok (l := [(40, [], spec_SignWith.sp N), (41, [], impl_SignWith.sp N), (39, [], laws_eqSignature.sp N), (42, [], laws_markSignature.sp N), (43, [], laws_heldSignature.sp N)]) (⟨spec_SignWith.snd N, impl_SignWith.snd N, laws_eqSignature.snd N, laws_markSignature.snd N, laws_heldSignature.snd N, trivial⟩)
theorem snd (N : Nat) : Sound Try.prog E 11 (sp N) :=
  Mir.sound T_OK (G_ok N) mixed Try.func11 (c := code) (by kernel_rfl) (by kernel_rfl) (sp N) (Nat.le_of_ble_eq_true (by kernel_rfl)) live [] (by
    rintro ⟨a0, a1, a2, _⟩ r h
    exact ⟨N, 2, ((run N _ a0 a1 a2).trans rfl).trans h⟩)
end laws_FnExactSignWith
namespace laws_szBoolS
noncomputable def code : Code := Try.f85.body.getD .skip
abbrev live : Live := []
noncomputable def G (N : Nat) : Ctx E := gam []
noncomputable def m0 (N : Nat) (a0 : List Bool) (a1 : Int) : Option R :=
  bif (decide ((w64 (a1 - (a0.length : Int))) < (0:Int))) then
    some (-1:Int)
  else
  some (w64 (a1 - (a0.length : Int)))
theorem run (N : Nat) (o0 : Orc E R) (a0 : List Bool) (a1 : Int) : runF T (G N) live [] Try.f85 code (sp N) o0 (a0, a1, ()) = m0 N a0 a1 := by kernel_rfl
theorem G_ok (N : Nat) : GamOK Try.prog (G N) := gam_ok (l := []) (trivial)
theorem snd (N : Nat) : Sound Try.prog E 85 (sp N) :=
  Mir.sound T_OK (G_ok N) mixed Try.func85 (c := code) (by kernel_rfl) (by kernel_rfl) (sp N) (Nat.le_of_ble_eq_true (by kernel_rfl)) live [] (by
    rintro ⟨a0, a1, _⟩ r h
    exact ⟨N, 2, ((run N _ a0 a1).trans rfl).trans h⟩)
end laws_szBoolS
namespace laws_szSigner
noncomputable def code : Code := Try.f44.body.getD .skip
abbrev live : Live := []
noncomputable def G (N : Nat) : Ctx E := gam [(85, [], laws_szBoolS.sp N)]
noncomputable def m0 (N : Nat) (a0 : Signer) (a1 : Int) : Option R :=
  bif (decide ((w64 (a1 - (a0.Seed.size : Int))) < (0:Int))) then
    some (-1:Int)
  else
  ob (laws_szBoolS.m N a0.Used (w64 (a1 - (a0.Seed.size : Int)))) fun y1 =>
  bif (decide (y1 < (0:Int))) then
    some (-1:Int)
  else
  some y1
theorem run (N : Nat) (o0 : Orc E R) (a0 : Signer) (a1 : Int) : runF T (G N) live [] Try.f44 code (sp N) o0 (a0, a1, ()) = m0 N a0 a1 := by kernel_rfl
theorem G_ok (N : Nat) : GamOK Try.prog (G N) := gam_ok (l := [(85, [], laws_szBoolS.sp N)]) (⟨laws_szBoolS.snd N, trivial⟩)
theorem snd (N : Nat) : Sound Try.prog E 44 (sp N) :=
  Mir.sound T_OK (G_ok N) mixed Try.func44 (c := code) (by kernel_rfl) (by kernel_rfl) (sp N) (Nat.le_of_ble_eq_true (by kernel_rfl)) live [] (by
    rintro ⟨a0, a1, _⟩ r h
    exact ⟨N, 2, ((run N _ a0 a1).trans rfl).trans h⟩)
end laws_szSigner
namespace laws_toBoolS
noncomputable def code : Code := Try.f86.body.getD .skip
abbrev live : Live := [(3, [0, 3, 4])]
noncomputable def G (N : Nat) : Ctx E := gam []
noncomputable def loop3 : Code := codeAt code [1, 1, 0, 1, 0]
noncomputable def body3 : Code := codeAt loop3 [0]
noncomputable def K3 (N : Nat) (o0 : Orc E R) : KT E R := kAt T (G N) live [] o0 code [1, 1, 0, 1, 0] (kfin T Try.f86 (sp N))
noncomputable def St3 (a0 : List Bool) : (Int × (List Bool)) → St E
  | (v1, v2) => { ρ := [(0, .c (.at (.ro 4 .bool a0))), (3, .c (.at (.own 0))), (4, .c (.at (.int .i64 v1)))], H := [(0, .row 4 .bool v2 false)], nx := 1, n := 22, pin := [] }
noncomputable def m0 (N : Nat) (a0 : List Bool) (lp3 : Int × (List Bool) → Option R) : Option R :=
  bif (decide (0 ≤ (a0.length : Int))) then
  bif (room (Int.toNat (a0.length : Int)) 1) then
  lp3 ((0:Int), (List.replicate (Int.toNat (a0.length : Int)) false))
  else none
  else none
theorem run (N : Nat) (o0 : Orc E R) (a0 : List Bool) : runF T (G N) live [] Try.f86 code (sp N) o0 (a0, ()) = m0 N a0 (fun a => o0 loop3 (K3 N o0) (St3 a0 a)) := by kernel_rfl
theorem body3_0 (N : Nat) (o0 : Orc E R) (o1 : Orc E R) (q1 : St E → Option R) (a0 : List Bool) (v1 : Int) (v2 : List Bool) : runA T (G N) live [] o1 body3 (St3 a0 (v1, v2)) (kloop [0, 3, 4] q1 (K3 N o0)) = step3 N a0 (fun a => q1 (St3 a0 a)) (v1, v2) := by kernel_rfl
theorem lp3_eq (N : Nat) (a0 : List Bool) (a : Int × (List Bool)) : (orc T (G N) live [] N 2) loop3 (K3 N (orc T (G N) live [] N 2)) (St3 a0 a) = lp3 N a0 a :=
  (orc_loop (b := body3) (live := [0, 3, 4]) (by kernel_rfl)).trans (iter_eq (St3 a0) _ _ (fun q1 a => by
    have hc := congrFun (congrFun (rfl : (step3 N a0) = (step3 N a0)) (fun a => q1 (St3 a0 a))) a
    obtain ⟨u0, u1⟩ := a
    exact (body3_0 N (orc T (G N) live [] N 2) (orc T (G N) live [] N 1) q1 a0 u0 u1).trans hc) N a)
theorem G_ok (N : Nat) : GamOK Try.prog (G N) := gam_ok (l := []) (trivial)
theorem snd (N : Nat) : Sound Try.prog E 86 (sp N) :=
  Mir.sound T_OK (G_ok N) mixed Try.func86 (c := code) (by kernel_rfl) (by kernel_rfl) (sp N) (Nat.le_of_ble_eq_true (by kernel_rfl)) live [] (by
    rintro ⟨a0, _⟩ r h
    exact ⟨N, 2, ((run N _ a0).trans (congrArg (m0 N a0) (funext fun a => lp3_eq N a0 a))).trans h⟩)
end laws_toBoolS
namespace laws_toSigner
noncomputable def code : Code := Try.f45.body.getD .skip
abbrev live : Live := []
noncomputable def G (N : Nat) : Ctx E := gam [(86, [], laws_toBoolS.sp N)]
noncomputable def m0 (N : Nat) (a0 : Signer) : Option R :=
  ob (laws_toBoolS.m N a0.Used) fun y1 =>
  some (Signer.mk a0.Seed y1)
theorem run (N : Nat) (o0 : Orc E R) (a0 : Signer) : runF T (G N) live [] Try.f45 code (sp N) o0 (a0, ()) = m0 N a0 := by kernel_rfl
theorem G_ok (N : Nat) : GamOK Try.prog (G N) := gam_ok (l := [(86, [], laws_toBoolS.sp N)]) (⟨laws_toBoolS.snd N, trivial⟩)
theorem snd (N : Nat) : Sound Try.prog E 45 (sp N) :=
  Mir.sound T_OK (G_ok N) mixed Try.func45 (c := code) (by kernel_rfl) (by kernel_rfl) (sp N) (Nat.le_of_ble_eq_true (by kernel_rfl)) live [] (by
    rintro ⟨a0, _⟩ r h
    exact ⟨N, 2, ((run N _ a0).trans rfl).trans h⟩)
end laws_toSigner
namespace spec_SignerOK
noncomputable def code : Code := Try.f74.body.getD .skip
abbrev live : Live := []
noncomputable def G (N : Nat) : Ctx E := gam []
noncomputable def m0 (N : Nat) (a0 : Signer) : Option R :=
  bif ((a0.Seed.size : Int) == (32:Int)) then
    some (bif true then ((a0.Used.length : Int) == (4:Int)) else false)
  else
  some false
theorem run (N : Nat) (o0 : Orc E R) (a0 : Signer) : runF T (G N) live [] Try.f74 code (sp N) o0 (a0, ()) = m0 N a0 := by kernel_rfl
theorem G_ok (N : Nat) : GamOK Try.prog (G N) := gam_ok (l := []) (trivial)
theorem snd (N : Nat) : Sound Try.prog E 74 (sp N) :=
  Mir.sound T_OK (G_ok N) mixed Try.func74 (c := code) (by kernel_rfl) (by kernel_rfl) (sp N) (Nat.le_of_ble_eq_true (by kernel_rfl)) live [] (by
    rintro ⟨a0, _⟩ r h
    exact ⟨N, 2, ((run N _ a0).trans rfl).trans h⟩)
end spec_SignerOK
namespace spec_SignNext
noncomputable def code : Code := Try.f33.body.getD .skip
abbrev live : Live := []
noncomputable def G (N : Nat) : Ctx E := gam [(74, [], spec_SignerOK.sp N), (56, [], spec_l08Index.sp N), (75, [], spec_l08Sign.sp N)]
noncomputable def m0 (N : Nat) (a0 : Signer) (a1 : Int) (a2 : ByteArray) : Option R :=
  bif (decide ((a2.size : Int) > (65536:Int))) then
    some ((Signer.mk ByteArray.empty ([] : List Bool)), (Signature.mk (0:Int) ([] : List ByteArray) ([] : List ByteArray)), (2:Int))
  else
  ob (spec_SignerOK.m N a0) fun y1 =>
  bif (!y1) then
    some ((Signer.mk ByteArray.empty ([] : List Bool)), (Signature.mk (0:Int) ([] : List ByteArray) ([] : List ByteArray)), (1:Int))
  else
  ob (spec_l08Index.m N a1) fun y2 =>
  bif (!y2) then
    some ((Signer.mk ByteArray.empty ([] : List Bool)), (Signature.mk (0:Int) ([] : List ByteArray) ([] : List ByteArray)), (4:Int))
  else
  bif (room (([] : List Bool).length + a0.Used.length) 1) then
  bif (decide (0 ≤ a1)) then
  bif (decide (a1 < (a0.Used.length : Int))) then
  bif (a0.Used.getD (Int.toNat a1) false) then
    some ((Signer.mk a0.Seed (([] : List Bool) ++ a0.Used)), (Signature.mk (0:Int) ([] : List ByteArray) ([] : List ByteArray)), (13:Int))
  else
  bif (decide (0 ≤ a1)) then
  bif (decide (a1 < ((([] : List Bool) ++ a0.Used).length : Int))) then
  ob (spec_l08Sign.m N a0.Seed a1 a2) fun y3 =>
  some ((Signer.mk a0.Seed ((([] : List Bool) ++ a0.Used).set (Int.toNat a1) true)), y3, (0:Int))
  else none
  else none
  else none
  else none
  else none
theorem run (N : Nat) (o0 : Orc E R) (a0 : Signer) (a1 : Int) (a2 : ByteArray) : runF T (G N) live [] Try.f33 code (sp N) o0 (a0, a1, a2, ()) = m0 N a0 a1 a2 := by kernel_rfl
theorem G_ok (N : Nat) : GamOK Try.prog (G N) := gam_ok (l := [(74, [], spec_SignerOK.sp N), (56, [], spec_l08Index.sp N), (75, [], spec_l08Sign.sp N)]) (⟨spec_SignerOK.snd N, spec_l08Index.snd N, spec_l08Sign.snd N, trivial⟩)
theorem snd (N : Nat) : Sound Try.prog E 33 (sp N) :=
  Mir.sound T_OK (G_ok N) mixed Try.func33 (c := code) (by kernel_rfl) (by kernel_rfl) (sp N) (Nat.le_of_ble_eq_true (by kernel_rfl)) live [] (by
    rintro ⟨a0, a1, a2, _⟩ r h
    exact ⟨N, 2, ((run N _ a0 a1 a2).trans rfl).trans h⟩)
end spec_SignNext
namespace impl_SignerOK
noncomputable def code : Code := Try.f34.body.getD .skip
abbrev live : Live := []
noncomputable def G (N : Nat) : Ctx E := gam [(53, [], impl_isHash.sp N)]
noncomputable def m0 (N : Nat) (a0 : Signer) : Option R :=
  ob (impl_isHash.m N ([a0.Seed])) fun y1 =>
  bif y1 then
    some (bif true then ((a0.Used.length : Int) == (4:Int)) else false)
  else
  some false
theorem run (N : Nat) (o0 : Orc E R) (a0 : Signer) : runF T (G N) live [] Try.f34 code (sp N) o0 (a0, ()) = m0 N a0 := by kernel_rfl
theorem G_ok (N : Nat) : GamOK Try.prog (G N) := gam_ok (l := [(53, [], impl_isHash.sp N)]) (⟨impl_isHash.snd N, trivial⟩)
theorem snd (N : Nat) : Sound Try.prog E 34 (sp N) :=
  Mir.sound T_OK (G_ok N) mixed Try.func34 (c := code) (by kernel_rfl) (by kernel_rfl) (sp N) (Nat.le_of_ble_eq_true (by kernel_rfl)) live [] (by
    rintro ⟨a0, _⟩ r h
    exact ⟨N, 2, ((run N _ a0).trans rfl).trans h⟩)
end impl_SignerOK
namespace slices_Clone_bool_bool
noncomputable def code : Code := Try.f72.body.getD .skip
abbrev live : Live := []
noncomputable def G (N : Nat) : Ctx E := gam []
noncomputable def m0 (N : Nat) (a0 : List Bool) : Option R :=
  amb (a0.isEmpty) true
    (some ([] : List Bool))
    (bif (room (([] : List Bool).length + a0.length) 1) then
    some (([] : List Bool) ++ a0)
    else none)
theorem run (N : Nat) (o0 : Orc E R) (a0 : List Bool) : runF T (G N) live [] Try.f72 code (sp N) o0 (a0, ()) = m0 N a0 := by kernel_rfl
theorem G_ok (N : Nat) : GamOK Try.prog (G N) := gam_ok (l := []) (trivial)
theorem snd (N : Nat) : Sound Try.prog E 72 (sp N) :=
  Mir.sound T_OK (G_ok N) mixed Try.func72 (c := code) (by kernel_rfl) (by kernel_rfl) (sp N) (Nat.le_of_ble_eq_true (by kernel_rfl)) live [] (by
    rintro ⟨a0, _⟩ r h
    exact ⟨N, 2, ((run N _ a0).trans rfl).trans h⟩)
end slices_Clone_bool_bool
namespace impl_SignNext
noncomputable def code : Code := Try.f32.body.getD .skip
abbrev live : Live := []
noncomputable def G (N : Nat) : Ctx E := gam [(52, [], impl_isText.sp N), (34, [], impl_SignerOK.sp N), (54, [], impl_within.sp N), (72, [], slices_Clone_bool_bool.sp N), (73, [], impl_signWith.sp N)]
noncomputable def m0 (N : Nat) (a0 : Signer) (a1 : Int) (a2 : ByteArray) : Option R :=
  ob (impl_isText.m N ([a2])) fun y1 =>
  bif (!y1) then
    some ((Signer.mk ByteArray.empty ([] : List Bool)), (Signature.mk (0:Int) ([] : List ByteArray) ([] : List ByteArray)), (2:Int))
  else
  ob (impl_SignerOK.m N a0) fun y2 =>
  bif (!y2) then
    some ((Signer.mk ByteArray.empty ([] : List Bool)), (Signature.mk (0:Int) ([] : List ByteArray) ([] : List ByteArray)), (1:Int))
  else
  ob (impl_within.m N a1 (0:Int) (3:Int)) fun y3 =>
  bif (!y3) then
    some ((Signer.mk ByteArray.empty ([] : List Bool)), (Signature.mk (0:Int) ([] : List ByteArray) ([] : List ByteArray)), (4:Int))
  else
  ob (slices_Clone_bool_bool.m N a0.Used) fun y4 =>
  bif (decide (0 ≤ a1)) then
  bif (decide (a1 < (a0.Used.length : Int))) then
  bif (a0.Used.getD (Int.toNat a1) false) then
    some ((Signer.mk a0.Seed y4), (Signature.mk (0:Int) ([] : List ByteArray) ([] : List ByteArray)), (13:Int))
  else
  bif (decide (0 ≤ a1)) then
  bif (decide (a1 < (y4.length : Int))) then
  ob (impl_signWith.m N a0.Seed a1 a2) fun y5 =>
  some ((Signer.mk a0.Seed (y4.set (Int.toNat a1) true)), y5, (0:Int))
  else none
  else none
  else none
  else none
theorem run (N : Nat) (o0 : Orc E R) (a0 : Signer) (a1 : Int) (a2 : ByteArray) : runF T (G N) live [] Try.f32 code (sp N) o0 (a0, a1, a2, ()) = m0 N a0 a1 a2 := by kernel_rfl
theorem G_ok (N : Nat) : GamOK Try.prog (G N) := gam_ok (l := [(52, [], impl_isText.sp N), (34, [], impl_SignerOK.sp N), (54, [], impl_within.sp N), (72, [], slices_Clone_bool_bool.sp N), (73, [], impl_signWith.sp N)]) (⟨impl_isText.snd N, impl_SignerOK.snd N, impl_within.snd N, slices_Clone_bool_bool.snd N, impl_signWith.snd N, trivial⟩)
theorem snd (N : Nat) : Sound Try.prog E 32 (sp N) :=
  Mir.sound T_OK (G_ok N) mixed Try.func32 (c := code) (by kernel_rfl) (by kernel_rfl) (sp N) (Nat.le_of_ble_eq_true (by kernel_rfl)) live [] (by
    rintro ⟨a0, a1, a2, _⟩ r h
    exact ⟨N, 2, ((run N _ a0 a1 a2).trans rfl).trans h⟩)
end impl_SignNext
namespace laws_eqBoolS
noncomputable def code : Code := Try.f87.body.getD .skip
abbrev live : Live := [(4, [0, 1, 5])]
noncomputable def G (N : Nat) : Ctx E := gam []
noncomputable def loop4 : Code := codeAt code [1, 1, 0, 1, 0]
noncomputable def body4 : Code := codeAt loop4 [0]
noncomputable def K4 (N : Nat) (o0 : Orc E R) : KT E R := kAt T (G N) live [] o0 code [1, 1, 0, 1, 0] (kfin T Try.f87 (sp N))
noncomputable def St4 (a0 : List Bool) (a1 : List Bool) : Int → St E
  | v2 => { ρ := [(0, .c (.at (.ro 4 .bool a0))), (1, .c (.at (.ro 4 .bool a1))), (5, .c (.at (.int .i64 v2)))], H := [], nx := 0, n := 26, pin := [] }
noncomputable def m0 (N : Nat) (a0 : List Bool) (a1 : List Bool) (lp4 : Int → Option R) : Option R :=
  bif ((a0.length : Int) != (a1.length : Int)) then
    some false
  else
  lp4 (0:Int)
theorem run (N : Nat) (o0 : Orc E R) (a0 : List Bool) (a1 : List Bool) : runF T (G N) live [] Try.f87 code (sp N) o0 (a0, a1, ()) = m0 N a0 a1 (fun a => o0 loop4 (K4 N o0) (St4 a0 a1 a)) := by kernel_rfl
theorem body4_0 (N : Nat) (o0 : Orc E R) (o1 : Orc E R) (q1 : St E → Option R) (a0 : List Bool) (a1 : List Bool) (v2 : Int) : runA T (G N) live [] o1 body4 (St4 a0 a1 v2) (kloop [0, 1, 5] q1 (K4 N o0)) = step4 N a0 a1 (fun a => q1 (St4 a0 a1 a)) v2 := by kernel_rfl
theorem lp4_eq (N : Nat) (a0 : List Bool) (a1 : List Bool) (a : Int) : (orc T (G N) live [] N 2) loop4 (K4 N (orc T (G N) live [] N 2)) (St4 a0 a1 a) = lp4 N a0 a1 a :=
  (orc_loop (b := body4) (live := [0, 1, 5]) (by kernel_rfl)).trans (iter_eq (St4 a0 a1) _ _ (fun q1 a => by
    have hc := congrFun (congrFun (rfl : (step4 N a0 a1) = (step4 N a0 a1)) (fun a => q1 (St4 a0 a1 a))) a
    exact (body4_0 N (orc T (G N) live [] N 2) (orc T (G N) live [] N 1) q1 a0 a1 a).trans hc) N a)
theorem G_ok (N : Nat) : GamOK Try.prog (G N) := gam_ok (l := []) (trivial)
theorem snd (N : Nat) : Sound Try.prog E 87 (sp N) :=
  Mir.sound T_OK (G_ok N) mixed Try.func87 (c := code) (by kernel_rfl) (by kernel_rfl) (sp N) (Nat.le_of_ble_eq_true (by kernel_rfl)) live [] (by
    rintro ⟨a0, a1, _⟩ r h
    exact ⟨N, 2, ((run N _ a0 a1).trans (congrArg (m0 N a0 a1) (funext fun a => lp4_eq N a0 a1 a))).trans h⟩)
end laws_eqBoolS
namespace laws_eqSigner
noncomputable def code : Code := Try.f46.body.getD .skip
abbrev live : Live := []
noncomputable def G (N : Nat) : Ctx E := gam [(87, [], laws_eqBoolS.sp N)]
noncomputable def m0 (N : Nat) (a0 : Signer) (a1 : Signer) : Option R :=
  bif (!seq a0.Seed a1.Seed) then
    some false
  else
  ob (laws_eqBoolS.m N a0.Used a1.Used) fun y1 =>
  bif (!y1) then
    some false
  else
  some true
theorem run (N : Nat) (o0 : Orc E R) (a0 : Signer) (a1 : Signer) : runF T (G N) live [] Try.f46 code (sp N) o0 (a0, a1, ()) = m0 N a0 a1 := by kernel_rfl
theorem G_ok (N : Nat) : GamOK Try.prog (G N) := gam_ok (l := [(87, [], laws_eqBoolS.sp N)]) (⟨laws_eqBoolS.snd N, trivial⟩)
theorem snd (N : Nat) : Sound Try.prog E 46 (sp N) :=
  Mir.sound T_OK (G_ok N) mixed Try.func46 (c := code) (by kernel_rfl) (by kernel_rfl) (sp N) (Nat.le_of_ble_eq_true (by kernel_rfl)) live [] (by
    rintro ⟨a0, a1, _⟩ r h
    exact ⟨N, 2, ((run N _ a0 a1).trans rfl).trans h⟩)
end laws_eqSigner
namespace laws_markBoolS
noncomputable def code : Code := Try.f88.body.getD .skip
abbrev live : Live := [(2, [0, 1, 5])]
noncomputable def G (N : Nat) : Ctx E := gam []
noncomputable def loop2 : Code := codeAt code [1, 0, 1, 0]
noncomputable def body2 : Code := codeAt loop2 [0]
noncomputable def K2 (N : Nat) (o0 : Orc E R) : KT E R := kAt T (G N) live [] o0 code [1, 0, 1, 0] (kfin T Try.f88 (sp N))
noncomputable def St2 (a0 : List Bool) (a1 : Int) : (Int × Int × (List Bool)) → St E
  | (v0, v1, v2) => { ρ := [(0, .c (.at (.own 0))), (1, .c (.at (.int .i64 v0))), (5, .c (.at (.int .i64 v1)))], H := [(0, .row 4 .bool v2 false)], nx := 1, n := 21, pin := [0] }
noncomputable def m0 (N : Nat) (a0 : List Bool) (a1 : Int) (lp2 : Int × Int × (List Bool) → Option R) : Option R :=
  lp2 (a1, (0:Int), a0)
theorem run (N : Nat) (o0 : Orc E R) (a0 : List Bool) (a1 : Int) : runF T (G N) live [] Try.f88 code (sp N) o0 (a0, a1, ()) = m0 N a0 a1 (fun a => o0 loop2 (K2 N o0) (St2 a0 a1 a)) := by kernel_rfl
theorem body2_0 (N : Nat) (o0 : Orc E R) (o1 : Orc E R) (q1 : St E → Option R) (a0 : List Bool) (a1 : Int) (v0 : Int) (v1 : Int) (v2 : List Bool) : runA T (G N) live [] o1 body2 (St2 a0 a1 (v0, v1, v2)) (kloop [0, 1, 5] q1 (K2 N o0)) = step2 N a0 a1 (fun a => q1 (St2 a0 a1 a)) (v0, v1, v2) := by kernel_rfl
theorem lp2_eq (N : Nat) (a0 : List Bool) (a1 : Int) (a : Int × Int × (List Bool)) : (orc T (G N) live [] N 2) loop2 (K2 N (orc T (G N) live [] N 2)) (St2 a0 a1 a) = lp2 N a0 a1 a :=
  (orc_loop (b := body2) (live := [0, 1, 5]) (by kernel_rfl)).trans (iter_eq (St2 a0 a1) _ _ (fun q1 a => by
    have hc := congrFun (congrFun (rfl : (step2 N a0 a1) = (step2 N a0 a1)) (fun a => q1 (St2 a0 a1 a))) a
    obtain ⟨u0, u1, u2⟩ := a
    exact (body2_0 N (orc T (G N) live [] N 2) (orc T (G N) live [] N 1) q1 a0 a1 u0 u1 u2).trans hc) N a)
theorem G_ok (N : Nat) : GamOK Try.prog (G N) := gam_ok (l := []) (trivial)
theorem snd (N : Nat) : Sound Try.prog E 88 (sp N) :=
  Mir.sound T_OK (G_ok N) mixed Try.func88 (c := code) (by kernel_rfl) (by kernel_rfl) (sp N) (Nat.le_of_ble_eq_true (by kernel_rfl)) live [] (by
    rintro ⟨a0, a1, _⟩ r h
    exact ⟨N, 2, ((run N _ a0 a1).trans (congrArg (m0 N a0 a1) (funext fun a => lp2_eq N a0 a1 a))).trans h⟩)
end laws_markBoolS
namespace laws_markSigner
noncomputable def code : Code := Try.f47.body.getD .skip
abbrev live : Live := []
noncomputable def G (N : Nat) : Ctx E := gam [(88, [], laws_markBoolS.sp N)]
noncomputable def m0 (N : Nat) (a0 : Signer) (a1 : Int) : Option R :=
  ob (laws_markBoolS.m N a0.Used a1) fun y1 =>
  some (y1.1, (Signer.mk a0.Seed y1.2))
theorem run (N : Nat) (o0 : Orc E R) (a0 : Signer) (a1 : Int) : runF T (G N) live [] Try.f47 code (sp N) o0 (a0, a1, ()) = m0 N a0 a1 := by kernel_rfl
theorem G_ok (N : Nat) : GamOK Try.prog (G N) := gam_ok (l := [(88, [], laws_markBoolS.sp N)]) (⟨laws_markBoolS.snd N, trivial⟩)
theorem snd (N : Nat) : Sound Try.prog E 47 (sp N) :=
  Mir.sound T_OK (G_ok N) mixed Try.func47 (c := code) (by kernel_rfl) (by kernel_rfl) (sp N) (Nat.le_of_ble_eq_true (by kernel_rfl)) live [] (by
    rintro ⟨a0, a1, _⟩ r h
    exact ⟨N, 2, ((run N _ a0 a1).trans rfl).trans h⟩)
end laws_markSigner
namespace laws_heldBoolS
noncomputable def code : Code := Try.f89.body.getD .skip
abbrev live : Live := [(2, [0, 1, 5])]
noncomputable def G (N : Nat) : Ctx E := gam []
noncomputable def loop2 : Code := codeAt code [1, 0, 1, 0]
noncomputable def body2 : Code := codeAt loop2 [0]
noncomputable def K2 (N : Nat) (o0 : Orc E R) : KT E R := kAt T (G N) live [] o0 code [1, 0, 1, 0] (kfin T Try.f89 (sp N))
noncomputable def St2 (a0 : List Bool) (a1 : Int) : (Int × Int) → St E
  | (v1, v2) => { ρ := [(0, .c (.at (.ro 4 .bool a0))), (1, .c (.at (.int .i64 v1))), (5, .c (.at (.int .i64 v2)))], H := [], nx := 0, n := 23, pin := [] }
noncomputable def m0 (N : Nat) (a0 : List Bool) (a1 : Int) (lp2 : Int × Int → Option R) : Option R :=
  lp2 (a1, (0:Int))
theorem run (N : Nat) (o0 : Orc E R) (a0 : List Bool) (a1 : Int) : runF T (G N) live [] Try.f89 code (sp N) o0 (a0, a1, ()) = m0 N a0 a1 (fun a => o0 loop2 (K2 N o0) (St2 a0 a1 a)) := by kernel_rfl
theorem body2_0 (N : Nat) (o0 : Orc E R) (o1 : Orc E R) (q1 : St E → Option R) (a0 : List Bool) (a1 : Int) (v1 : Int) (v2 : Int) : runA T (G N) live [] o1 body2 (St2 a0 a1 (v1, v2)) (kloop [0, 1, 5] q1 (K2 N o0)) = step2 N a0 a1 (fun a => q1 (St2 a0 a1 a)) (v1, v2) := by kernel_rfl
theorem lp2_eq (N : Nat) (a0 : List Bool) (a1 : Int) (a : Int × Int) : (orc T (G N) live [] N 2) loop2 (K2 N (orc T (G N) live [] N 2)) (St2 a0 a1 a) = lp2 N a0 a1 a :=
  (orc_loop (b := body2) (live := [0, 1, 5]) (by kernel_rfl)).trans (iter_eq (St2 a0 a1) _ _ (fun q1 a => by
    have hc := congrFun (congrFun (rfl : (step2 N a0 a1) = (step2 N a0 a1)) (fun a => q1 (St2 a0 a1 a))) a
    obtain ⟨u0, u1⟩ := a
    exact (body2_0 N (orc T (G N) live [] N 2) (orc T (G N) live [] N 1) q1 a0 a1 u0 u1).trans hc) N a)
theorem G_ok (N : Nat) : GamOK Try.prog (G N) := gam_ok (l := []) (trivial)
theorem snd (N : Nat) : Sound Try.prog E 89 (sp N) :=
  Mir.sound T_OK (G_ok N) mixed Try.func89 (c := code) (by kernel_rfl) (by kernel_rfl) (sp N) (Nat.le_of_ble_eq_true (by kernel_rfl)) live [] (by
    rintro ⟨a0, a1, _⟩ r h
    exact ⟨N, 2, ((run N _ a0 a1).trans (congrArg (m0 N a0 a1) (funext fun a => lp2_eq N a0 a1 a))).trans h⟩)
end laws_heldBoolS
namespace laws_heldSigner
noncomputable def code : Code := Try.f48.body.getD .skip
abbrev live : Live := []
noncomputable def G (N : Nat) : Ctx E := gam [(89, [], laws_heldBoolS.sp N)]
noncomputable def m0 (N : Nat) (a0 : Signer) (a1 : Int) : Option R :=
  ob (laws_heldBoolS.m N a0.Used a1) fun y1 =>
  bif (decide (y1 < (0:Int))) then
    some (-1:Int)
  else
  some y1
theorem run (N : Nat) (o0 : Orc E R) (a0 : Signer) (a1 : Int) : runF T (G N) live [] Try.f48 code (sp N) o0 (a0, a1, ()) = m0 N a0 a1 := by kernel_rfl
theorem G_ok (N : Nat) : GamOK Try.prog (G N) := gam_ok (l := [(89, [], laws_heldBoolS.sp N)]) (⟨laws_heldBoolS.snd N, trivial⟩)
theorem snd (N : Nat) : Sound Try.prog E 48 (sp N) :=
  Mir.sound T_OK (G_ok N) mixed Try.func48 (c := code) (by kernel_rfl) (by kernel_rfl) (sp N) (Nat.le_of_ble_eq_true (by kernel_rfl)) live [] (by
    rintro ⟨a0, a1, _⟩ r h
    exact ⟨N, 2, ((run N _ a0 a1).trans rfl).trans h⟩)
end laws_heldSigner
namespace laws_FnExactSignNext
noncomputable def code : Code := Try.f12.body.getD .skip
abbrev live : Live := []
noncomputable def G (N : Nat) : Ctx E := gam [(44, [], laws_szSigner.sp N), (45, [], laws_toSigner.sp N), (33, [], spec_SignNext.sp N), (32, [], impl_SignNext.sp N), (46, [], laws_eqSigner.sp N), (39, [], laws_eqSignature.sp N), (47, [], laws_markSigner.sp N), (42, [], laws_markSignature.sp N), (48, [], laws_heldSigner.sp N), (43, [], laws_heldSignature.sp N)]
noncomputable def m0 (N : Nat) (a0 : Signer) (a1 : Int) (a2 : ByteArray) : Option R :=
  bif (decide ((a2.size : Int) > (1048576:Int))) then
    some true
  else
  ob (laws_szSigner.m N a0 (1048576:Int)) fun y1 =>
  bif (decide (y1 < (0:Int))) then
    some true
  else
  ob (laws_toSigner.m N a0) fun y2 =>
  ob (spec_SignNext.m N y2 a1 a2) fun y3 =>
  ob (laws_toSigner.m N a0) fun y4 =>
  ob (impl_SignNext.m N y4 a1 a2) fun y5 =>
  ob (laws_eqSigner.m N y5.1 y3.1) fun y6 =>
  bif (!y6) then
    some false
  else
  ob (laws_eqSignature.m N y5.2.1 y3.2.1) fun y7 =>
  bif (bif false then true else (!y7)) then
    some false
  else
  bif (bif false then true else (y5.2.2 != y3.2.2)) then
    some false
  else
  ob (laws_toSigner.m N a0) fun y8 =>
  ob (laws_eqSigner.m N y4 y8) fun y9 =>
  bif (!y9) then
    some false
  else
  ob (laws_markSigner.m N y4 (1:Int)) fun y10 =>
  bif (decide (y10.1 < (0:Int))) then
    some false
  else
  ob (laws_eqSigner.m N y5.1 y3.1) fun y11 =>
  bif (bif false then true else (!y11)) then
    some false
  else
  ob (laws_eqSignature.m N y5.2.1 y3.2.1) fun y12 =>
  bif (bif false then true else (!y12)) then
    some false
  else
  bif (bif false then true else (y5.2.2 != y3.2.2)) then
    some false
  else
  ob (laws_markSigner.m N y5.1 (1:Int)) fun y13 =>
  ob (laws_markSignature.m N y5.2.1 y13.1) fun y14 =>
  ob (laws_heldSigner.m N (Signer.mk y5.1.Seed y13.2.Used) (1:Int)) fun y15 =>
  bif (decide (y15 < (0:Int))) then
    some false
  else
  ob (laws_heldSignature.m N (Signature.mk y5.2.1.Index y14.2.Parts y14.2.Path) y15) fun y16 =>
  bif (decide (y16 < (0:Int))) then
    some false
  else
  bif (y16 != y14.1) then
    some false
  else
  ob (laws_toSigner.m N a0) fun y17 =>
  ob (impl_SignNext.m N y17 a1 a2) fun y18 =>
  ob (laws_eqSigner.m N y18.1 y3.1) fun y19 =>
  bif (!y19) then
    some false
  else
  ob (laws_eqSignature.m N y18.2.1 y3.2.1) fun y20 =>
  bif (bif false then true else (!y20)) then
    some false
  else
  bif (bif false then true else (y18.2.2 != y3.2.2)) then
    some false
  else
  ob (laws_heldSigner.m N (Signer.mk y5.1.Seed y13.2.Used) (1:Int)) fun y21 =>
  bif (decide (y21 < (0:Int))) then
    some false
  else
  ob (laws_heldSignature.m N (Signature.mk y5.2.1.Index y14.2.Parts y14.2.Path) y21) fun y22 =>
  bif (decide (y22 < (0:Int))) then
    some false
  else
  bif (y22 != y14.1) then
    some false
  else
  some true
theorem run (N : Nat) (o0 : Orc E R) (a0 : Signer) (a1 : Int) (a2 : ByteArray) : runF T (G N) live [] Try.f12 code (sp N) o0 (a0, a1, a2, ()) = m0 N a0 a1 a2 := by kernel_rfl
theorem G_ok (N : Nat) : GamOK Try.prog (G N) := gam_ok (l := [(44, [], laws_szSigner.sp N), (45, [], laws_toSigner.sp N), (33, [], spec_SignNext.sp N), (32, [], impl_SignNext.sp N), (46, [], laws_eqSigner.sp N), (39, [], laws_eqSignature.sp N), (47, [], laws_markSigner.sp N), (42, [], laws_markSignature.sp N), (48, [], laws_heldSigner.sp N), (43, [], laws_heldSignature.sp N)]) (⟨laws_szSigner.snd N, laws_toSigner.snd N, spec_SignNext.snd N, impl_SignNext.snd N, laws_eqSigner.snd N, laws_eqSignature.snd N, laws_markSigner.snd N, laws_markSignature.snd N, laws_heldSigner.snd N, laws_heldSignature.snd N, trivial⟩)
theorem snd (N : Nat) : Sound Try.prog E 12 (sp N) :=
  Mir.sound T_OK (G_ok N) mixed Try.func12 (c := code) (by kernel_rfl) (by kernel_rfl) (sp N) (Nat.le_of_ble_eq_true (by kernel_rfl)) live [] (by
    rintro ⟨a0, a1, a2, _⟩ r h
    exact ⟨N, 2, ((run N _ a0 a1 a2).trans rfl).trans h⟩)
end laws_FnExactSignNext
end Mir.Y
