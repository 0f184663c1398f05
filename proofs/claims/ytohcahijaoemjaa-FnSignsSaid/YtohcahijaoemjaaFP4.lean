/- The models are what the functions do. -/
import Derived.Test.YtohcahijaoemjaaFP3
namespace Mir.Y
set_option linter.unusedVariables false
set_option maxRecDepth 10000
open Go Go.Proofs Mir
namespace spec_VerifySignature
noncomputable def code : Code := Try.f36.body.getD .skip
abbrev live : Live := []
noncomputable def G (N : Nat) : Ctx E := gam [(77, [], spec_l06Hashes.sp N), (56, [], spec_l08Index.sp N), (78, [], spec_l08Root.sp N)]
noncomputable def m0 (N : Nat) (a0 : ByteArray) (a1 : ByteArray) (a2 : Signature) : Option R :=
  bif (decide ((a0.size : Int) > (65536:Int))) then
    some (2:Int)
  else
  bif (decide ((a1.size : Int) > (65536:Int))) then
    some (2:Int)
  else
  bif (bif false then true else (decide ((a2.Parts.length : Int) > (4096:Int)))) then
    some (2:Int)
  else
  bif (bif false then true else (decide ((a2.Path.length : Int) > (4096:Int)))) then
    some (2:Int)
  else
  bif ((a0.size : Int) != (32:Int)) then
    some (1:Int)
  else
  ob (spec_l06Hashes.m N a2.Parts) fun y1 =>
  bif (bif false then true else (!y1)) then
    some (1:Int)
  else
  ob (spec_l06Hashes.m N a2.Path) fun y2 =>
  bif (bif false then true else (!y2)) then
    some (1:Int)
  else
  ob (spec_l08Index.m N a2.Index) fun y3 =>
  bif (!y3) then
    some (4:Int)
  else
  bif (bif false then true else ((a2.Parts.length : Int) != (18:Int))) then
    some (4:Int)
  else
  ob (spec_l08Root.m N a1 a2) fun y4 =>
  bif (!y4.2) then
    some (10:Int)
  else
  bif (!seq y4.1 a0) then
    some (12:Int)
  else
  some (0:Int)
theorem run (N : Nat) (o0 : Orc E R) (a0 : ByteArray) (a1 : ByteArray) (a2 : Signature) : runF T (G N) live [] Try.f36 code (sp N) o0 (a0, a1, a2, ()) = m0 N a0 a1 a2 := by kernel_rfl
theorem G_ok (N : Nat) : GamOK Try.prog (G N) := gam_ok (l := [(77, [], spec_l06Hashes.sp N), (56, [], spec_l08Index.sp N), (78, [], spec_l08Root.sp N)]) (⟨spec_l06Hashes.snd N, spec_l08Index.snd N, spec_l08Root.snd N, trivial⟩)
theorem snd (N : Nat) : Sound Try.prog E 36 (sp N) :=
  Mir.sound T_OK (G_ok N) mixed Try.func36 (c := code) (by kernel_rfl) (by kernel_rfl) (sp N) (Nat.le_of_ble_eq_true (by kernel_rfl)) live [] (by
    rintro ⟨a0, a1, a2, _⟩ r h
    exact ⟨N, 2, ((run N _ a0 a1 a2).trans rfl).trans h⟩)
end spec_VerifySignature
namespace laws_FnSigns
noncomputable def code : Code := Try.f13.body.getD .skip
abbrev live : Live := []
noncomputable def G (N : Nat) : Ctx E := gam [(30, [], spec_HashOf.sp N), (28, [], spec_MessageOf.sp N), (31, [], laws_at.sp N), (26, [], impl_PublicRoot.sp N), (41, [], impl_SignWith.sp N), (40, [], spec_SignWith.sp N), (49, [], laws_sameSignature.sp N), (38, [], impl_VerifySignature.sp N), (36, [], spec_VerifySignature.sp N)]
noncomputable def m0 (N : Nat) (a0 : List Int) (a1 : List Int) : Option R :=
  bif (decide ((a0.length : Int) > (1048576:Int))) then
    some true
  else
  bif (bif false then true else (decide ((a1.length : Int) > (1048576:Int)))) then
    some true
  else
  ob (spec_HashOf.m N a0) fun y1 =>
  ob (spec_MessageOf.m N a1) fun y2 =>
  ob (laws_at.m N a1 (0:Int) (4:Int)) fun y3 =>
  ob (impl_PublicRoot.m N y1) fun y4 =>
  ob (impl_SignWith.m N y1 y3 y2) fun y5 =>
  ob (spec_SignWith.m N y1 y3 y2) fun y6 =>
  bif (y4.2 != (0:Int)) then
    some false
  else
  bif (bif false then true else (y5.2 != (0:Int))) then
    some false
  else
  ob (laws_sameSignature.m N y5.1 y6.1) fun y7 =>
  bif (bif false then true else (!y7)) then
    some false
  else
  ob (impl_VerifySignature.m N y4.1 y2 y5.1) fun y8 =>
  bif (bif false then true else (y8 != (0:Int))) then
    some false
  else
  bif (decide (y2.size + (⟨#[33]⟩ : ByteArray).size ≤ 9223372036854775807)) then
  ob (impl_VerifySignature.m N y4.1 (y2 ++ (⟨#[33]⟩ : ByteArray)) y5.1) fun y9 =>
  bif (decide (y2.size + (⟨#[33]⟩ : ByteArray).size ≤ 9223372036854775807)) then
  ob (spec_VerifySignature.m N y4.1 (y2 ++ (⟨#[33]⟩ : ByteArray)) y5.1) fun y10 =>
  bif (y9 != y10) then
    some false
  else
  ob (laws_at.m N a1 (1:Int) (18:Int)) fun y11 =>
  ob (spec_HashOf.m N a1) fun y12 =>
  bif (decide (0 ≤ y11)) then
  bif (decide (y11 < (y5.1.Parts.length : Int))) then
  bif (seq (y5.1.Parts.getD (Int.toNat y11) ByteArray.empty) y12) then
    some true
  else
  bif (room (([] : List ByteArray).length + y5.1.Parts.length) 16) then
  bif (decide (0 ≤ y11)) then
  bif (decide (y11 < ((([] : List ByteArray) ++ y5.1.Parts).length : Int))) then
  ob (impl_VerifySignature.m N y4.1 y2 (Signature.mk y5.1.Index ((([] : List ByteArray) ++ y5.1.Parts).set (Int.toNat y11) y12) y5.1.Path)) fun y13 =>
  ob (spec_VerifySignature.m N y4.1 y2 (Signature.mk y5.1.Index ((([] : List ByteArray) ++ y5.1.Parts).set (Int.toNat y11) y12) y5.1.Path)) fun y14 =>
  some (y13 == y14)
  else none
  else none
  else none
  else none
  else none
  else none
  else none
theorem run (N : Nat) (o0 : Orc E R) (a0 : List Int) (a1 : List Int) : runF T (G N) live [] Try.f13 code (sp N) o0 (a0, a1, ()) = m0 N a0 a1 := by kernel_rfl
theorem G_ok (N : Nat) : GamOK Try.prog (G N) := gam_ok (l := [(30, [], spec_HashOf.sp N), (28, [], spec_MessageOf.sp N), (31, [], laws_at.sp N), (26, [], impl_PublicRoot.sp N), (41, [], impl_SignWith.sp N), (40, [], spec_SignWith.sp N), (49, [], laws_sameSignature.sp N), (38, [], impl_VerifySignature.sp N), (36, [], spec_VerifySignature.sp N)]) (⟨spec_HashOf.snd N, spec_MessageOf.snd N, laws_at.snd N, impl_PublicRoot.snd N, impl_SignWith.snd N, spec_SignWith.snd N, laws_sameSignature.snd N, impl_VerifySignature.snd N, spec_VerifySignature.snd N, trivial⟩)
theorem snd (N : Nat) : Sound Try.prog E 13 (sp N) :=
  Mir.sound T_OK (G_ok N) mixed Try.func13 (c := code) (by kernel_rfl) (by kernel_rfl) (sp N) (Nat.le_of_ble_eq_true (by kernel_rfl)) live [] (by
    rintro ⟨a0, a1, _⟩ r h
    exact ⟨N, 2, ((run N _ a0 a1).trans rfl).trans h⟩)
end laws_FnSigns
end Mir.Y
