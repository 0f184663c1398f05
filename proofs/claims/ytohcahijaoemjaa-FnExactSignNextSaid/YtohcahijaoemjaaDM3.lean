/- Models of functions. -/
import Derived.Test.YtohcahijaoemjaaDM2
namespace Mir.Y
set_option linter.unusedVariables false
set_option maxRecDepth 10000
open Go Go.Proofs Mir
/-! ### laws_FnExactSignNext: loop.example/g00220/laws.FnExactSignNext -/
namespace laws_FnExactSignNext
abbrev R := Bool
noncomputable def m (N : Nat) (a0 : Signer) (a1 : Int) (a2 : ByteArray) : Option R :=
  bif (decide ((a2.size : Int) > (1048576:Int))) then
    some true
  else
  ob (laws_szSigner.m N a0 (1048576:Int)) fun y1 =>
  bif (decide (y1 < (0:Int))) then
    some true
  else
  ob (laws_toSigner.m N a0) fun y2 =>
  ob (spec_SignNext.m N y2 a1 a2) fun y3 =>
  ob (laws_toSigner.m N a0) fun y4 =>
  ob (impl_SignNext.m N y4 a1 a2) fun y5 =>
  ob (laws_eqSigner.m N y5.1 y3.1) fun y6 =>
  bif (!y6) then
    some false
  else
  ob (laws_eqSignature.m N y5.2.1 y3.2.1) fun y7 =>
  bif (bif false then true else (!y7)) then
    some false
  else
  bif (bif false then true else (y5.2.2 != y3.2.2)) then
    some false
  else
  ob (laws_toSigner.m N a0) fun y8 =>
  ob (laws_eqSigner.m N y4 y8) fun y9 =>
  bif (!y9) then
    some false
  else
  ob (laws_markSigner.m N y4 (1:Int)) fun y10 =>
  bif (decide (y10.1 < (0:Int))) then
    some false
  else
  ob (laws_eqSigner.m N y5.1 y3.1) fun y11 =>
  bif (bif false then true else (!y11)) then
    some false
  else
  ob (laws_eqSignature.m N y5.2.1 y3.2.1) fun y12 =>
  bif (bif false then true else (!y12)) then
    some false
  else
  bif (bif false then true else (y5.2.2 != y3.2.2)) then
    some false
  else
  ob (laws_markSigner.m N y5.1 (1:Int)) fun y13 =>
  ob (laws_markSignature.m N y5.2.1 y13.1) fun y14 =>
  ob (laws_heldSigner.m N (Signer.mk y5.1.Seed y13.2.Used) (1:Int)) fun y15 =>
  bif (decide (y15 < (0:Int))) then
    some false
  else
  ob (laws_heldSignature.m N (Signature.mk y5.2.1.Index y14.2.Parts y14.2.Path) y15) fun y16 =>
  bif (decide (y16 < (0:Int))) then
    some false
  else
  bif (y16 != y14.1) then
    some false
  else
  ob (laws_toSigner.m N a0) fun y17 =>
  ob (impl_SignNext.m N y17 a1 a2) fun y18 =>
  ob (laws_eqSigner.m N y18.1 y3.1) fun y19 =>
  bif (!y19) then
    some false
  else
  ob (laws_eqSignature.m N y18.2.1 y3.2.1) fun y20 =>
  bif (bif false then true else (!y20)) then
    some false
  else
  bif (bif false then true else (y18.2.2 != y3.2.2)) then
    some false
  else
  ob (laws_heldSigner.m N (Signer.mk y5.1.Seed y13.2.Used) (1:Int)) fun y21 =>
  bif (decide (y21 < (0:Int))) then
    some false
  else
  ob (laws_heldSignature.m N (Signature.mk y5.2.1.Index y14.2.Parts y14.2.Path) y21) fun y22 =>
  bif (decide (y22 < (0:Int))) then
    some false
  else
  bif (y22 != y14.1) then
    some false
  else
  some true
@[reducible] noncomputable def sp (N : Nat) : Spec E := { ps := [.val (.st 58), .val (.int .i64), .val .str], rs := [.bool], own := true, dp := false, R := R, fn := fun x => m N x.1 x.2.1 x.2.2.1, res := fun r => (r, ()), out := fun r => ((), (), (), ()), shut := fun a b => a.1, res_shut := fun _ _ => rfl, out_shut := fun _ _ => rfl }
end laws_FnExactSignNext
end Mir.Y
