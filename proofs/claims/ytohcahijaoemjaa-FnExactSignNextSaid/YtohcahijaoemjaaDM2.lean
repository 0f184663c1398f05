/- Models of functions. -/
import Derived.Test.YtohcahijaoemjaaDM1
namespace Mir.Y
set_option linter.unusedVariables false
set_option maxRecDepth 10000
open Go Go.Proofs Mir
/-! ### impl_digits: loop.example/g00220/impl.digits -/
namespace impl_digits
abbrev R := (List Int)
noncomputable def step4 (N : Nat) (a0 : ByteArray) (rec : (Int × ByteArray × Int × (List Int)) → Option R) : (Int × ByteArray × Int × (List Int)) → Option R
  | (v0, v1, v2, v3) =>
    bif (decide (v2 < (8:Int))) then
      bif (decide (0 ≤ v2)) then
      bif (decide (v2 < (v1.size : Int))) then
      bif (!decide ((4:Int) < 0)) then
      bif (decide (0 ≤ v2)) then
      bif (decide (v2 < (v1.size : Int))) then
      bif (room (v3.length + ([(w64 (Int.fdiv (sb v1 v2) (2 ^ (min (Int.toNat (4:Int)) 8)))), (w64 (ibit .and .u8 (sb v1 v2) (15:Int)))]).length) 8) then
      (let w2 : Int := (w64 (v0 + (w64 ((w64 ((30:Int) - (w64 (Int.fdiv (sb v1 v2) (2 ^ (min (Int.toNat (4:Int)) 8)))))) - (w64 (ibit .and .u8 (sb v1 v2) (15:Int)))))))
      rec (w2, v1, (w64 (v2 + (1:Int))), (v3 ++ [(w64 (Int.fdiv (sb v1 v2) (2 ^ (min (Int.toNat (4:Int)) 8)))), (w64 (ibit .and .u8 (sb v1 v2) (15:Int)))])))
      else none
      else none
      else none
      else none
      else none
      else none
    else
    bif (!decide ((16:Int) = 0)) then
    bif (!decide ((16:Int) = 0)) then
    bif (room (v3.length + ([(w64 (Int.tdiv v0 (16:Int))), (Int.tmod v0 (16:Int))]).length) 8) then
    some (v3 ++ [(w64 (Int.tdiv v0 (16:Int))), (Int.tmod v0 (16:Int))])
    else none
    else none
    else none
noncomputable def lp4 (N : Nat) (a0 : ByteArray) : (Int × ByteArray × Int × (List Int)) → Option R :=
  miter (fun rec => step4 N a0 rec) N
noncomputable def m (N : Nat) (a0 : ByteArray) : Option R :=
  ob (impl_hash.m N a0) fun y1 =>
  lp4 N a0 ((0:Int), y1, (0:Int), ([] : List Int))
@[reducible] noncomputable def sp (N : Nat) : Spec E := { ps := [.val .str], rs := [(.slice 3 (.int .i64))], own := true, dp := false, R := R, fn := fun x => m N x.1, res := fun r => (r, ()), out := fun r => ((), ()), shut := fun a b => a.1, res_shut := fun _ _ => rfl, out_shut := fun _ _ => rfl }
end impl_digits
/-! ### impl_chain: loop.example/g00220/impl.chain -/
namespace impl_chain
abbrev R := ByteArray
noncomputable def step2 (N : Nat) (a0 : ByteArray) (a1 : Int) (a2 : Int) (rec : (ByteArray × Int) → Option R) : (ByteArray × Int) → Option R
  | (v0, v3) =>
    bif (decide (v3 < (w64 (a1 + a2)))) then
      ob (impl_number.m N v3 (1:Int)) fun y1 =>
      bif (decide ((⟨#[3]⟩ : ByteArray).size + y1.size ≤ 9223372036854775807)) then
      bif (decide (((⟨#[3]⟩ : ByteArray) ++ y1).size + v0.size ≤ 9223372036854775807)) then
      ob (impl_hash.m N (((⟨#[3]⟩ : ByteArray) ++ y1) ++ v0)) fun y2 =>
      rec (y2, (w64 (v3 + (1:Int))))
      else none
      else none
    else
    some v0
noncomputable def lp2 (N : Nat) (a0 : ByteArray) (a1 : Int) (a2 : Int) : (ByteArray × Int) → Option R :=
  miter (fun rec => step2 N a0 a1 a2 rec) N
noncomputable def m (N : Nat) (a0 : ByteArray) (a1 : Int) (a2 : Int) : Option R :=
  lp2 N a0 a1 a2 (a0, a1)
@[reducible] noncomputable def sp (N : Nat) : Spec E := { ps := [.val .str, .val (.int .i64), .val (.int .i64)], rs := [.str], own := true, dp := false, R := R, fn := fun x => m N x.1 x.2.1 x.2.2.1, res := fun r => (r, ()), out := fun r => ((), (), (), ()), shut := fun a b => a.1, res_shut := fun _ _ => rfl, out_shut := fun _ _ => rfl }
end impl_chain
/-! ### impl_endsLeaf: loop.example/g00220/impl.endsLeaf -/
namespace impl_endsLeaf
abbrev R := ByteArray
noncomputable def step3 (N : Nat) (a0 : List ByteArray) (rec : (ByteArray × Int × Int) → Option R) : (ByteArray × Int × Int) → Option R
  | (v0, v2, v3) =>
    bif (decide (v3 < v2)) then
      bif (decide (0 ≤ v3)) then
      bif (decide (v3 < (a0.length : Int))) then
      bif (decide (v0.size + (a0.getD (Int.toNat v3) ByteArray.empty).size ≤ 9223372036854775807)) then
      rec ((v0 ++ (a0.getD (Int.toNat v3) ByteArray.empty)), v2, (w64 (v3 + (1:Int))))
      else none
      else none
      else none
    else
    ob (impl_hash.m N v0) fun y1 =>
    some y1
noncomputable def lp3 (N : Nat) (a0 : List ByteArray) : (ByteArray × Int × Int) → Option R :=
  miter (fun rec => step3 N a0 rec) N
noncomputable def m (N : Nat) (a0 : List ByteArray) : Option R :=
  lp3 N a0 ((⟨#[5]⟩ : ByteArray), (a0.length : Int), (0:Int))
@[reducible] noncomputable def sp (N : Nat) : Spec E := { ps := [.val (.slice 9 .str)], rs := [.str], own := true, dp := false, R := R, fn := fun x => m N x.1, res := fun r => (r, ()), out := fun r => ((), ()), shut := fun a b => a.1, res_shut := fun _ _ => rfl, out_shut := fun _ _ => rfl }
end impl_endsLeaf
/-! ### impl_split: loop.example/g00220/impl.split -/
namespace impl_split
abbrev R := Int
noncomputable def step2 (N : Nat) (a0 : Int) (rec : Int → Option R) : Int → Option R
  | v1 =>
    bif (decide ((w64 ((2:Int) * v1)) < a0)) then
      rec (w64 (v1 * (2:Int)))
    else
    some v1
noncomputable def lp2 (N : Nat) (a0 : Int) : Int → Option R :=
  miter (fun rec => step2 N a0 rec) N
noncomputable def m (N : Nat) (a0 : Int) : Option R :=
  lp2 N a0 (1:Int)
@[reducible] noncomputable def sp (N : Nat) : Spec E := { ps := [.val (.int .i64)], rs := [(.int .i64)], own := true, dp := false, R := R, fn := fun x => m N x.1, res := fun r => (r, ()), out := fun r => ((), ()), shut := fun a b => a.1, res_shut := fun _ _ => rfl, out_shut := fun _ _ => rfl }
end impl_split
/-! ### impl_prover_next_: (*loop.example/g00220/impl.prover).next -/
namespace impl_prover_next_
abbrev R := ByteArray × prover
noncomputable def m (N : Nat) (a0 : prover) : Option R :=
  bif ((a0.proof.length : Int) == (0:Int)) then
    some (ByteArray.empty, (prover.mk a0.proof true a0.steps))
  else
  bif (decide (0 ≤ (0:Int))) then
  bif (decide ((0:Int) < (a0.proof.length : Int))) then
  bif (decide (0 ≤ (1:Int))) then
  bif (decide ((1:Int) ≤ ((a0.proof.length : Nat) : Int))) then
  some ((a0.proof.getD 0 ByteArray.empty), (prover.mk (a0.proof.drop 1) a0.bad a0.steps))
  else none
  else none
  else none
  else none
@[reducible] noncomputable def sp (N : Nat) : Spec E := { ps := [.box false 115 115], rs := [.str], own := true, dp := false, R := R, fn := fun x => m N x.1, res := fun r => (r.1, ()), out := fun r => (r.2, ()), shut := fun a b => (a.1, b.1), res_shut := fun _ _ => rfl, out_shut := fun _ _ => rfl }
end impl_prover_next_
/-! ### impl_nodeHash: loop.example/g00220/impl.nodeHash -/
namespace impl_nodeHash
abbrev R := ByteArray
noncomputable def m (N : Nat) (a0 : ByteArray) (a1 : ByteArray) : Option R :=
  bif (decide ((⟨#[1]⟩ : ByteArray).size + a0.size ≤ 9223372036854775807)) then
  bif (decide (((⟨#[1]⟩ : ByteArray) ++ a0).size + a1.size ≤ 9223372036854775807)) then
  ob (impl_hash.m N (((⟨#[1]⟩ : ByteArray) ++ a0) ++ a1)) fun y1 =>
  some y1
  else none
  else none
@[reducible] noncomputable def sp (N : Nat) : Spec E := { ps := [.val .str, .val .str], rs := [.str], own := true, dp := false, R := R, fn := fun x => m N x.1 x.2.1, res := fun r => (r, ()), out := fun r => ((), (), ()), shut := fun a b => a.1, res_shut := fun _ _ => rfl, out_shut := fun _ _ => rfl }
end impl_nodeHash
/-! ### impl_prover_node: (*loop.example/g00220/impl.prover).node -/
namespace impl_prover_node
abbrev R := ByteArray × prover
noncomputable def m (N : Nat) (a0 : prover) (a1 : ByteArray) (a2 : ByteArray) : Option R :=
  bif (decide ((⟨#[1]⟩ : ByteArray).size + a1.size ≤ 9223372036854775807)) then
  bif (decide (((⟨#[1]⟩ : ByteArray) ++ a1).size + a2.size ≤ 9223372036854775807)) then
  bif (room (a0.steps.length + ([(((⟨#[1]⟩ : ByteArray) ++ a1) ++ a2)]).length) 16) then
  ob (impl_nodeHash.m N a1 a2) fun y1 =>
  some (y1, (prover.mk a0.proof a0.bad (a0.steps ++ [(((⟨#[1]⟩ : ByteArray) ++ a1) ++ a2)])))
  else none
  else none
  else none
@[reducible] noncomputable def sp (N : Nat) : Spec E := { ps := [.box false 115 115, .val .str, .val .str], rs := [.str], own := true, dp := false, R := R, fn := fun x => m N x.1 x.2.1 x.2.2.1, res := fun r => (r.1, ()), out := fun r => (r.2, (), (), ()), shut := fun a b => (a.1, b.1), res_shut := fun _ _ => rfl, out_shut := fun _ _ => rfl }
end impl_prover_node
/-! ### impl_prover_inclusion: (*loop.example/g00220/impl.prover).inclusion -/
namespace impl_prover_inclusion
abbrev R := ByteArray × prover
noncomputable def mb (N : Nat) (slf : prover → ByteArray → Int → Int → Option R) (a0 : prover) (a1 : ByteArray) (a2 : Int) (a3 : Int) : Option R :=
  bif (decide (a3 ≤ (1:Int))) then
    some (a1, a0)
  else
  ob (impl_split.m N a3) fun y1 =>
  bif (decide (a2 < y1)) then
    ob (slf a0 a1 a2 y1) fun y2 =>
    ob (impl_prover_next_.m N y2.2) fun y3 =>
    ob (impl_prover_node.m N y3.2 y2.1 y3.1) fun y4 =>
    some (y4.1, y4.2)
  else
  ob (slf a0 a1 (w64 (a2 - y1)) (w64 (a3 - y1))) fun y5 =>
  ob (impl_prover_next_.m N y5.2) fun y6 =>
  ob (impl_prover_node.m N y6.2 y6.1 y5.1) fun y7 =>
  some (y7.1, y7.2)
noncomputable def mF (N : Nat) : Nat → prover → ByteArray → Int → Int → Option R
  | 0 => fun _ _ _ _ => none
  | n + 1 => fun a0 a1 a2 a3 => mb N (mF N n) a0 a1 a2 a3
noncomputable def m (N : Nat) : prover → ByteArray → Int → Int → Option R := mF N N
@[reducible] noncomputable def spf (f : prover → ByteArray → Int → Int → Option R) : Spec E := { ps := [.box false 115 115, .val .str, .val (.int .i64), .val (.int .i64)], rs := [.str], own := true, dp := false, R := R, fn := fun x => f x.1 x.2.1 x.2.2.1 x.2.2.2.1, res := fun r => (r.1, ()), out := fun r => (r.2, (), (), (), ()), shut := fun a b => (a.1, b.1), res_shut := fun _ _ => rfl, out_shut := fun _ _ => rfl }
@[reducible] noncomputable def sp (N : Nat) : Spec E := spf (m N)
end impl_prover_inclusion
/-! ### impl_inclusionRoot: loop.example/g00220/impl.inclusionRoot -/
namespace impl_inclusionRoot
abbrev R := ByteArray × (List ByteArray) × Int
noncomputable def m (N : Nat) (a0 : ByteArray) (a1 : Int) (a2 : Int) (a3 : List ByteArray) : Option R :=
  ob (impl_within.m N a2 (1:Int) (64:Int)) fun y1 =>
  bif (!y1) then
    some (ByteArray.empty, ([] : List ByteArray), (4:Int))
  else
  ob (impl_within.m N a1 (0:Int) (w64 (a2 - (1:Int)))) fun y2 =>
  bif (bif false then true else (!y2)) then
    some (ByteArray.empty, ([] : List ByteArray), (4:Int))
  else
  ob (impl_prover_inclusion.m N (prover.mk a3 false ([] : List ByteArray)) a0 a1 a2) fun y3 =>
  bif y3.2.bad then
    some (ByteArray.empty, ([] : List ByteArray), (10:Int))
  else
  bif (bif false then true else (decide ((y3.2.proof.length : Int) > (0:Int)))) then
    some (ByteArray.empty, ([] : List ByteArray), (10:Int))
  else
  some (y3.1, y3.2.steps, (0:Int))
@[reducible] noncomputable def sp (N : Nat) : Spec E := { ps := [.val .str, .val (.int .i64), .val (.int .i64), .val (.slice 9 .str)], rs := [.str, (.slice 9 .str), (.int .i64)], own := true, dp := false, R := R, fn := fun x => m N x.1 x.2.1 x.2.2.1 x.2.2.2.1, res := fun r => (r.1, r.2.1, r.2.2, ()), out := fun r => ((), (), (), (), ()), shut := fun a b => (a.1, a.2.1, a.2.2.1), res_shut := fun _ _ => rfl, out_shut := fun _ _ => rfl }
end impl_inclusionRoot
/-! ### impl_Signature_leadsTo: (loop.example/g00220/impl.Signature).leadsTo -/
namespace impl_Signature_leadsTo
abbrev R := Bool × Bool
noncomputable def step3 (N : Nat) (a0 : Signature) (a1 : ByteArray) (a2 : ByteArray) (rec : (Int × Int × (List ByteArray) × (List Int)) → Option R) : (Int × Int × (List ByteArray) × (List Int)) → Option R
  | (v1, v2, v6, v7) =>
    bif (decide (v2 < v1)) then
      bif (decide (0 ≤ v2)) then
      bif (decide (v2 < (v7.length : Int))) then
      bif (decide (0 ≤ v2)) then
      bif (decide (v2 < (a0.Parts.length : Int))) then
      ob (impl_chain.m N (a0.Parts.getD (Int.toNat v2) ByteArray.empty) (v7.getD (Int.toNat v2) (0:Int)) (w64 ((15:Int) - (v7.getD (Int.toNat v2) (0:Int))))) fun y2 =>
      bif (room (v6.length + ([y2]).length) 16) then
      rec (v1, (w64 (v2 + (1:Int))), (v6 ++ [y2]), v7)
      else none
      else none
      else none
      else none
      else none
    else
    ob (impl_endsLeaf.m N v6) fun y3 =>
    ob (impl_inclusionRoot.m N y3 a0.Index (4:Int) a0.Path) fun y4 =>
    some ((seq y4.1 a1), (y4.2.2 == (0:Int)))
noncomputable def lp3 (N : Nat) (a0 : Signature) (a1 : ByteArray) (a2 : ByteArray) : (Int × Int × (List ByteArray) × (List Int)) → Option R :=
  miter (fun rec => step3 N a0 a1 a2 rec) N
noncomputable def m (N : Nat) (a0 : Signature) (a1 : ByteArray) (a2 : ByteArray) : Option R :=
  ob (impl_digits.m N a2) fun y1 =>
  lp3 N a0 a1 a2 ((y1.length : Int), (0:Int), ([] : List ByteArray), y1)
@[reducible] noncomputable def sp (N : Nat) : Spec E := { ps := [.val (.st 44), .val .str, .val .str], rs := [.bool, .bool], own := true, dp := false, R := R, fn := fun x => m N x.1 x.2.1 x.2.2.1, res := fun r => (r.1, r.2, ()), out := fun r => ((), (), (), ()), shut := fun a b => (a.1, a.2.1), res_shut := fun _ _ => rfl, out_shut := fun _ _ => rfl }
end impl_Signature_leadsTo
/-! ### impl_VerifySignature: loop.example/g00220/impl.VerifySignature -/
namespace impl_VerifySignature
abbrev R := Int
noncomputable def m (N : Nat) (a0 : ByteArray) (a1 : ByteArray) (a2 : Signature) : Option R :=
  ob (impl_isText.m N ([a0, a1])) fun y1 =>
  bif (!y1) then
    some (2:Int)
  else
  ob (impl_isList_string.m N a2.Parts) fun y2 =>
  bif (bif false then true else (!y2)) then
    some (2:Int)
  else
  ob (impl_isList_string.m N a2.Path) fun y3 =>
  bif (bif false then true else (!y3)) then
    some (2:Int)
  else
  ob (impl_isHash.m N ([a0])) fun y4 =>
  bif (!y4) then
    some (1:Int)
  else
  (let w5 : Bool := (bif false then true else (decide ((if (a2.Parts.length : Int) < (a2.Path.length : Int) then (a2.Path.length : Int) else (a2.Parts.length : Int)) > (64:Int))))
  bif w5 then
    some (1:Int)
  else
  ob (impl_isHash.m N a2.Parts) fun y6 =>
  bif (bif false then true else (!y6)) then
    some (1:Int)
  else
  ob (impl_isHash.m N a2.Path) fun y7 =>
  bif (bif false then true else (!y7)) then
    some (1:Int)
  else
  ob (impl_within.m N a2.Index (0:Int) (3:Int)) fun y8 =>
  bif (!y8) then
    some (4:Int)
  else
  bif (bif false then true else ((a2.Parts.length : Int) != (18:Int))) then
    some (4:Int)
  else
  ob (impl_Signature_leadsTo.m N a2 a0 a1) fun y9 =>
  bif (!y9.2) then
    some (10:Int)
  else
  bif (!y9.1) then
    some (12:Int)
  else
  some (0:Int))
@[reducible] noncomputable def sp (N : Nat) : Spec E := { ps := [.val .str, .val .str, .val (.st 44)], rs := [(.int .i64)], own := true, dp := false, R := R, fn := fun x => m N x.1 x.2.1 x.2.2.1, res := fun r => (r, ()), out := fun r => ((), (), (), ()), shut := fun a b => a.1, res_shut := fun _ _ => rfl, out_shut := fun _ _ => rfl }
end impl_VerifySignature
/-! ### laws_eqStringS: loop.example/g00220/laws.eqStringS -/
namespace laws_eqStringS
abbrev R := Bool
noncomputable def step4 (N : Nat) (a0 : List ByteArray) (a1 : List ByteArray) (rec : Int → Option R) : Int → Option R
  | v2 =>
    bif (decide (v2 < (a0.length : Int))) then
      bif (decide (0 ≤ v2)) then
      bif (decide (v2 < (a0.length : Int))) then
      bif (decide (0 ≤ v2)) then
      bif (decide (v2 < (a1.length : Int))) then
      bif (!seq (a0.getD (Int.toNat v2) ByteArray.empty) (a1.getD (Int.toNat v2) ByteArray.empty)) then
        some false
      else
      rec (w64 (v2 + (1:Int)))
      else none
      else none
      else none
      else none
    else
    some true
noncomputable def lp4 (N : Nat) (a0 : List ByteArray) (a1 : List ByteArray) : Int → Option R :=
  miter (fun rec => step4 N a0 a1 rec) N
noncomputable def m (N : Nat) (a0 : List ByteArray) (a1 : List ByteArray) : Option R :=
  bif ((a0.length : Int) != (a1.length : Int)) then
    some false
  else
  lp4 N a0 a1 (0:Int)
@[reducible] noncomputable def sp (N : Nat) : Spec E := { ps := [.val (.slice 9 .str), .val (.slice 9 .str)], rs := [.bool], own := true, dp := false, R := R, fn := fun x => m N x.1 x.2.1, res := fun r => (r, ()), out := fun r => ((), (), ()), shut := fun a b => a.1, res_shut := fun _ _ => rfl, out_shut := fun _ _ => rfl }
end laws_eqStringS
/-! ### laws_eqSignature: loop.example/g00220/laws.eqSignature -/
namespace laws_eqSignature
abbrev R := Bool
noncomputable def m (N : Nat) (a0 : Signature) (a1 : Signature) : Option R :=
  bif (a0.Index != a1.Index) then
    some false
  else
  ob (laws_eqStringS.m N a0.Parts a1.Parts) fun y1 =>
  bif (!y1) then
    some false
  else
  ob (laws_eqStringS.m N a0.Path a1.Path) fun y2 =>
  bif (!y2) then
    some false
  else
  some true
@[reducible] noncomputable def sp (N : Nat) : Spec E := { ps := [.val (.st 44), .val (.st 44)], rs := [.bool], own := true, dp := false, R := R, fn := fun x => m N x.1 x.2.1, res := fun r => (r, ()), out := fun r => ((), (), ()), shut := fun a b => a.1, res_shut := fun _ _ => rfl, out_shut := fun _ _ => rfl }
end laws_eqSignature
/-! ### laws_FnExactVerifySignature: loop.example/g00220/laws.FnExactVerifySignature -/
namespace laws_FnExactVerifySignature
abbrev R := Bool
noncomputable def m (N : Nat) (a0 : ByteArray) (a1 : ByteArray) (a2 : Signature) : Option R :=
  bif (decide ((a0.size : Int) > (1048576:Int))) then
    some true
  else
  bif (decide ((a1.size : Int) > (1048576:Int))) then
    some true
  else
  ob (laws_szSignature.m N a2 (1048576:Int)) fun y1 =>
  bif (decide (y1 < (0:Int))) then
    some true
  else
  ob (laws_toSignature.m N a2) fun y2 =>
  ob (spec_VerifySignature.m N a0 a1 y2) fun y3 =>
  ob (laws_toSignature.m N a2) fun y4 =>
  ob (impl_VerifySignature.m N a0 a1 y4) fun y5 =>
  bif (y5 != y3) then
    some false
  else
  ob (laws_toSignature.m N a2) fun y6 =>
  ob (laws_eqSignature.m N y4 y6) fun y7 =>
  bif (!y7) then
    some false
  else
  some true
@[reducible] noncomputable def sp (N : Nat) : Spec E := { ps := [.val .str, .val .str, .val (.st 48)], rs := [.bool], own := true, dp := false, R := R, fn := fun x => m N x.1 x.2.1 x.2.2.1, res := fun r => (r, ()), out := fun r => ((), (), (), ()), shut := fun a b => a.1, res_shut := fun _ _ => rfl, out_shut := fun _ _ => rfl }
end laws_FnExactVerifySignature
/-! ### spec_l08Secret: loop.example/g00220/spec.l08Secret -/
namespace spec_l08Secret
abbrev R := ByteArray
noncomputable def m (N : Nat) (a0 : ByteArray) (a1 : Int) (a2 : Int) : Option R :=
  bif (room (([(4:Int), (wu8 a1), (wu8 a2)]).length + (bytesOf a0).length) 1) then
  ob (spec_l01Hash.m N ([(4:Int), (wu8 a1), (wu8 a2)] ++ (bytesOf a0))) fun y1 =>
  some y1
  else none
@[reducible] noncomputable def sp (N : Nat) : Spec E := { ps := [.val .str, .val (.int .i64), .val (.int .i64)], rs := [.str], own := true, dp := false, R := R, fn := fun x => m N x.1 x.2.1 x.2.2.1, res := fun r => (r, ()), out := fun r => ((), (), (), ()), shut := fun a b => a.1, res_shut := fun _ _ => rfl, out_shut := fun _ _ => rfl }
end spec_l08Secret
/-! ### spec_l08Leaf: loop.example/g00220/spec.l08Leaf -/
namespace spec_l08Leaf
abbrev R := ByteArray
noncomputable def step3 (N : Nat) (a0 : ByteArray) (a1 : Int) (rec : (Int × (List ByteArray)) → Option R) : (Int × (List ByteArray)) → Option R
  | (v2, v3) =>
    bif (decide (v2 < (18:Int))) then
      ob (spec_l08Secret.m N a0 a1 v2) fun y1 =>
      ob (spec_l08Chain.m N y1 (0:Int) (15:Int)) fun y2 =>
      bif (room (v3.length + ([y2]).length) 16) then
      rec ((w64 (v2 + (1:Int))), (v3 ++ [y2]))
      else none
    else
    ob (spec_l08Ends.m N v3) fun y3 =>
    some y3
noncomputable def lp3 (N : Nat) (a0 : ByteArray) (a1 : Int) : (Int × (List ByteArray)) → Option R :=
  miter (fun rec => step3 N a0 a1 rec) N
noncomputable def m (N : Nat) (a0 : ByteArray) (a1 : Int) : Option R :=
  lp3 N a0 a1 ((0:Int), ([] : List ByteArray))
@[reducible] noncomputable def sp (N : Nat) : Spec E := { ps := [.val .str, .val (.int .i64)], rs := [.str], own := true, dp := false, R := R, fn := fun x => m N x.1 x.2.1, res := fun r => (r, ()), out := fun r => ((), (), ()), shut := fun a b => a.1, res_shut := fun _ _ => rfl, out_shut := fun _ _ => rfl }
end spec_l08Leaf
/-! ### spec_l08Leaves: loop.example/g00220/spec.l08Leaves -/
namespace spec_l08Leaves
abbrev R := (List ByteArray)
noncomputable def step3 (N : Nat) (a0 : ByteArray) (rec : (Int × (List ByteArray)) → Option R) : (Int × (List ByteArray)) → Option R
  | (v1, v2) =>
    bif (decide (v1 < (4:Int))) then
      ob (spec_l08Leaf.m N a0 v1) fun y1 =>
      bif (room (v2.length + ([y1]).length) 16) then
      rec ((w64 (v1 + (1:Int))), (v2 ++ [y1]))
      else none
    else
    some v2
noncomputable def lp3 (N : Nat) (a0 : ByteArray) : (Int × (List ByteArray)) → Option R :=
  miter (fun rec => step3 N a0 rec) N
noncomputable def m (N : Nat) (a0 : ByteArray) : Option R :=
  lp3 N a0 ((0:Int), ([] : List ByteArray))
@[reducible] noncomputable def sp (N : Nat) : Spec E := { ps := [.val .str], rs := [(.slice 9 .str)], own := true, dp := false, R := R, fn := fun x => m N x.1, res := fun r => (r, ()), out := fun r => ((), ()), shut := fun a b => a.1, res_shut := fun _ _ => rfl, out_shut := fun _ _ => rfl }
end spec_l08Leaves
/-! ### spec_l06Tree: loop.example/g00220/spec.l06Tree -/
namespace spec_l06Tree
abbrev R := ByteArray
noncomputable def mb (N : Nat) (slf : (List ByteArray) → Option R) (a0 : List ByteArray) : Option R :=
  bif ((a0.length : Int) == (0:Int)) then
    ob (spec_l01Hash.m N ([] : List Int)) fun y1 =>
    some y1
  else
  bif ((a0.length : Int) == (1:Int)) then
    bif (decide (0 ≤ (0:Int))) then
    bif (decide ((0:Int) < (a0.length : Int))) then
    some (a0.getD 0 ByteArray.empty)
    else none
    else none
  else
  ob (spec_l06Half.m N (a0.length : Int)) fun y2 =>
  bif (decide (0 ≤ y2)) then
  bif (decide (y2 ≤ ((a0.length : Nat) : Int))) then
  ob (slf (a0.take (Int.toNat y2))) fun y3 =>
  bif (decide (0 ≤ y2)) then
  bif (decide (y2 ≤ ((a0.length : Nat) : Int))) then
  ob (slf (a0.drop (Int.toNat y2))) fun y4 =>
  ob (spec_l06Node.m N y3 y4) fun y5 =>
  some y5
  else none
  else none
  else none
  else none
noncomputable def mF (N : Nat) : Nat → (List ByteArray) → Option R
  | 0 => fun _ => none
  | n + 1 => fun a0 => mb N (mF N n) a0
noncomputable def m (N : Nat) : (List ByteArray) → Option R := mF N N
@[reducible] noncomputable def spf (f : (List ByteArray) → Option R) : Spec E := { ps := [.val (.slice 9 .str)], rs := [.str], own := true, dp := false, R := R, fn := fun x => f x.1, res := fun r => (r, ()), out := fun r => ((), ()), shut := fun a b => a.1, res_shut := fun _ _ => rfl, out_shut := fun _ _ => rfl }
@[reducible] noncomputable def sp (N : Nat) : Spec E := spf (m N)
end spec_l06Tree
/-! ### spec_l06Path: loop.example/g00220/spec.l06Path -/
namespace spec_l06Path
abbrev R := (List ByteArray)
noncomputable def mb (N : Nat) (slf : (List ByteArray) → Int → Option R) (a0 : List ByteArray) (a1 : Int) : Option R :=
  bif ((a0.length : Int) == (1:Int)) then
    some ([] : List ByteArray)
  else
  ob (spec_l06Half.m N (a0.length : Int)) fun y1 =>
  bif (decide (a1 < y1)) then
    bif (decide (0 ≤ y1)) then
    bif (decide (y1 ≤ ((a0.length : Nat) : Int))) then
    ob (slf (a0.take (Int.toNat y1)) a1) fun y2 =>
    bif (decide (0 ≤ y1)) then
    bif (decide (y1 ≤ ((a0.length : Nat) : Int))) then
    ob (spec_l06Tree.m N (a0.drop (Int.toNat y1))) fun y3 =>
    bif (room (y2.length + ([y3]).length) 16) then
    some (y2 ++ [y3])
    else none
    else none
    else none
    else none
    else none
  else
  bif (decide (0 ≤ y1)) then
  bif (decide (y1 ≤ ((a0.length : Nat) : Int))) then
  ob (slf (a0.drop (Int.toNat y1)) (w64 (a1 - y1))) fun y4 =>
  bif (decide (0 ≤ y1)) then
  bif (decide (y1 ≤ ((a0.length : Nat) : Int))) then
  ob (spec_l06Tree.m N (a0.take (Int.toNat y1))) fun y5 =>
  bif (room (y4.length + ([y5]).length) 16) then
  some (y4 ++ [y5])
  else none
  else none
  else none
  else none
  else none
noncomputable def mF (N : Nat) : Nat → (List ByteArray) → Int → Option R
  | 0 => fun _ _ => none
  | n + 1 => fun a0 a1 => mb N (mF N n) a0 a1
noncomputable def m (N : Nat) : (List ByteArray) → Int → Option R := mF N N
@[reducible] noncomputable def spf (f : (List ByteArray) → Int → Option R) : Spec E := { ps := [.val (.slice 9 .str), .val (.int .i64)], rs := [(.slice 9 .str)], own := true, dp := false, R := R, fn := fun x => f x.1 x.2.1, res := fun r => (r, ()), out := fun r => ((), (), ()), shut := fun a b => a.1, res_shut := fun _ _ => rfl, out_shut := fun _ _ => rfl }
@[reducible] noncomputable def sp (N : Nat) : Spec E := spf (m N)
end spec_l06Path
/-! ### spec_l08Sign: loop.example/g00220/spec.l08Sign -/
namespace spec_l08Sign
abbrev R := Signature
noncomputable def step4 (N : Nat) (a0 : ByteArray) (a1 : Int) (a2 : ByteArray) (rec : (Int × Int × (List ByteArray) × (List Int)) → Option R) : (Int × Int × (List ByteArray) × (List Int)) → Option R
  | (v2, v3, v5, v6) =>
    bif (decide (v2 < (18:Int))) then
      ob (spec_l08Secret.m N a0 a1 v2) fun y2 =>
      bif (decide (0 ≤ v2)) then
      bif (decide (v2 < (v6.length : Int))) then
      ob (spec_l08Chain.m N y2 (0:Int) (v6.getD (Int.toNat v2) (0:Int))) fun y3 =>
      bif (room (v5.length + ([y3]).length) 16) then
      rec ((w64 (v2 + (1:Int))), v3, (v5 ++ [y3]), v6)
      else none
      else none
      else none
    else
    ob (spec_l08Leaves.m N a0) fun y4 =>
    ob (spec_l06Path.m N y4 a1) fun y5 =>
    some (Signature.mk a1 v5 y5)
noncomputable def lp4 (N : Nat) (a0 : ByteArray) (a1 : Int) (a2 : ByteArray) : (Int × Int × (List ByteArray) × (List Int)) → Option R :=
  miter (fun rec => step4 N a0 a1 a2 rec) N
noncomputable def m (N : Nat) (a0 : ByteArray) (a1 : Int) (a2 : ByteArray) : Option R :=
  ob (spec_l08Digits.m N a2) fun y1 =>
  lp4 N a0 a1 a2 ((0:Int), (0:Int), ([] : List ByteArray), y1)
@[reducible] noncomputable def sp (N : Nat) : Spec E := { ps := [.val .str, .val (.int .i64), .val .str], rs := [(.st 44)], own := true, dp := false, R := R, fn := fun x => m N x.1 x.2.1 x.2.2.1, res := fun r => (r, ()), out := fun r => ((), (), (), ()), shut := fun a b => a.1, res_shut := fun _ _ => rfl, out_shut := fun _ _ => rfl }
end spec_l08Sign
/-! ### spec_SignWith: loop.example/g00220/spec.SignWith -/
namespace spec_SignWith
abbrev R := Signature × Int
noncomputable def m (N : Nat) (a0 : ByteArray) (a1 : Int) (a2 : ByteArray) : Option R :=
  bif (decide ((a0.size : Int) > (65536:Int))) then
    some ((Signature.mk (0:Int) ([] : List ByteArray) ([] : List ByteArray)), (2:Int))
  else
  bif (decide ((a2.size : Int) > (65536:Int))) then
    some ((Signature.mk (0:Int) ([] : List ByteArray) ([] : List ByteArray)), (2:Int))
  else
  bif ((a0.size : Int) != (32:Int)) then
    some ((Signature.mk (0:Int) ([] : List ByteArray) ([] : List ByteArray)), (1:Int))
  else
  ob (spec_l08Index.m N a1) fun y1 =>
  bif (!y1) then
    some ((Signature.mk (0:Int) ([] : List ByteArray) ([] : List ByteArray)), (4:Int))
  else
  ob (spec_l08Sign.m N a0 a1 a2) fun y2 =>
  some (y2, (0:Int))
@[reducible] noncomputable def sp (N : Nat) : Spec E := { ps := [.val .str, .val (.int .i64), .val .str], rs := [(.st 44), (.int .i64)], own := true, dp := false, R := R, fn := fun x => m N x.1 x.2.1 x.2.2.1, res := fun r => (r.1, r.2, ()), out := fun r => ((), (), (), ()), shut := fun a b => (a.1, a.2.1), res_shut := fun _ _ => rfl, out_shut := fun _ _ => rfl }
end spec_SignWith
/-! ### impl_seedCode: loop.example/g00220/impl.seedCode -/
namespace impl_seedCode
abbrev R := Int
noncomputable def m (N : Nat) (a0 : ByteArray) (a1 : Int) : Option R :=
  ob (impl_isText.m N ([a0])) fun y1 =>
  bif (!y1) then
    some (2:Int)
  else
  ob (impl_isHash.m N ([a0])) fun y2 =>
  bif (!y2) then
    some (1:Int)
  else
  ob (impl_within.m N a1 (0:Int) (3:Int)) fun y3 =>
  bif (!y3) then
    some (4:Int)
  else
  some (0:Int)
@[reducible] noncomputable def sp (N : Nat) : Spec E := { ps := [.val .str, .val (.int .i64)], rs := [(.int .i64)], own := true, dp := false, R := R, fn := fun x => m N x.1 x.2.1, res := fun r => (r, ()), out := fun r => ((), (), ()), shut := fun a b => a.1, res_shut := fun _ _ => rfl, out_shut := fun _ _ => rfl }
end impl_seedCode
/-! ### impl_secretPart: loop.example/g00220/impl.secretPart -/
namespace impl_secretPart
abbrev R := ByteArray
noncomputable def m (N : Nat) (a0 : ByteArray) (a1 : Int) (a2 : Int) : Option R :=
  ob (impl_number.m N a1 (1:Int)) fun y1 =>
  bif (decide ((⟨#[4]⟩ : ByteArray).size + y1.size ≤ 9223372036854775807)) then
  ob (impl_number.m N a2 (1:Int)) fun y2 =>
  bif (decide (((⟨#[4]⟩ : ByteArray) ++ y1).size + y2.size ≤ 9223372036854775807)) then
  bif (decide ((((⟨#[4]⟩ : ByteArray) ++ y1) ++ y2).size + a0.size ≤ 9223372036854775807)) then
  ob (impl_hash.m N ((((⟨#[4]⟩ : ByteArray) ++ y1) ++ y2) ++ a0)) fun y3 =>
  some y3
  else none
  else none
  else none
@[reducible] noncomputable def sp (N : Nat) : Spec E := { ps := [.val .str, .val (.int .i64), .val (.int .i64)], rs := [.str], own := true, dp := false, R := R, fn := fun x => m N x.1 x.2.1 x.2.2.1, res := fun r => (r, ()), out := fun r => ((), (), (), ()), shut := fun a b => a.1, res_shut := fun _ _ => rfl, out_shut := fun _ _ => rfl }
end impl_secretPart
/-! ### impl_leafKey: loop.example/g00220/impl.leafKey -/
namespace impl_leafKey
abbrev R := ByteArray
noncomputable def step3 (N : Nat) (a0 : ByteArray) (a1 : Int) (rec : (Int × (List ByteArray)) → Option R) : (Int × (List ByteArray)) → Option R
  | (v2, v3) =>
    bif (decide (v2 < (18:Int))) then
      ob (impl_secretPart.m N a0 a1 v2) fun y1 =>
      ob (impl_chain.m N y1 (0:Int) (15:Int)) fun y2 =>
      bif (room (v3.length + ([y2]).length) 16) then
      rec ((w64 (v2 + (1:Int))), (v3 ++ [y2]))
      else none
    else
    ob (impl_endsLeaf.m N v3) fun y3 =>
    some y3
noncomputable def lp3 (N : Nat) (a0 : ByteArray) (a1 : Int) : (Int × (List ByteArray)) → Option R :=
  miter (fun rec => step3 N a0 a1 rec) N
noncomputable def m (N : Nat) (a0 : ByteArray) (a1 : Int) : Option R :=
  lp3 N a0 a1 ((0:Int), ([] : List ByteArray))
@[reducible] noncomputable def sp (N : Nat) : Spec E := { ps := [.val .str, .val (.int .i64)], rs := [.str], own := true, dp := false, R := R, fn := fun x => m N x.1 x.2.1, res := fun r => (r, ()), out := fun r => ((), (), ()), shut := fun a b => a.1, res_shut := fun _ _ => rfl, out_shut := fun _ _ => rfl }
end impl_leafKey
/-! ### impl_keyLeaves: loop.example/g00220/impl.keyLeaves -/
namespace impl_keyLeaves
abbrev R := (List ByteArray)
noncomputable def step3 (N : Nat) (a0 : ByteArray) (rec : (Int × (List ByteArray)) → Option R) : (Int × (List ByteArray)) → Option R
  | (v1, v2) =>
    bif (decide (v1 < (4:Int))) then
      ob (impl_leafKey.m N a0 v1) fun y1 =>
      bif (room (v2.length + ([y1]).length) 16) then
      rec ((w64 (v1 + (1:Int))), (v2 ++ [y1]))
      else none
    else
    some v2
noncomputable def lp3 (N : Nat) (a0 : ByteArray) : (Int × (List ByteArray)) → Option R :=
  miter (fun rec => step3 N a0 rec) N
noncomputable def m (N : Nat) (a0 : ByteArray) : Option R :=
  lp3 N a0 ((0:Int), ([] : List ByteArray))
@[reducible] noncomputable def sp (N : Nat) : Spec E := { ps := [.val .str], rs := [(.slice 9 .str)], own := true, dp := false, R := R, fn := fun x => m N x.1, res := fun r => (r, ()), out := fun r => ((), ()), shut := fun a b => a.1, res_shut := fun _ _ => rfl, out_shut := fun _ _ => rfl }
end impl_keyLeaves
/-! ### impl_treeHash: loop.example/g00220/impl.treeHash -/
namespace impl_treeHash
abbrev R := ByteArray
noncomputable def mb (N : Nat) (slf : (List ByteArray) → Option R) (a0 : List ByteArray) : Option R :=
  bif ((a0.length : Int) == (0:Int)) then
    ob (impl_hash.m N ByteArray.empty) fun y1 =>
    some y1
  else
  bif ((a0.length : Int) == (1:Int)) then
    bif (decide (0 ≤ (0:Int))) then
    bif (decide ((0:Int) < (a0.length : Int))) then
    some (a0.getD 0 ByteArray.empty)
    else none
    else none
  else
  ob (impl_split.m N (a0.length : Int)) fun y2 =>
  bif (decide (0 ≤ y2)) then
  bif (decide (y2 ≤ ((a0.length : Nat) : Int))) then
  ob (slf (a0.take (Int.toNat y2))) fun y3 =>
  bif (decide (0 ≤ y2)) then
  bif (decide (y2 ≤ ((a0.length : Nat) : Int))) then
  ob (slf (a0.drop (Int.toNat y2))) fun y4 =>
  ob (impl_nodeHash.m N y3 y4) fun y5 =>
  some y5
  else none
  else none
  else none
  else none
noncomputable def mF (N : Nat) : Nat → (List ByteArray) → Option R
  | 0 => fun _ => none
  | n + 1 => fun a0 => mb N (mF N n) a0
noncomputable def m (N : Nat) : (List ByteArray) → Option R := mF N N
@[reducible] noncomputable def spf (f : (List ByteArray) → Option R) : Spec E := { ps := [.val (.slice 9 .str)], rs := [.str], own := true, dp := false, R := R, fn := fun x => f x.1, res := fun r => (r, ()), out := fun r => ((), ()), shut := fun a b => a.1, res_shut := fun _ _ => rfl, out_shut := fun _ _ => rfl }
@[reducible] noncomputable def sp (N : Nat) : Spec E := spf (m N)
end impl_treeHash
/-! ### impl_inclusion: loop.example/g00220/impl.inclusion -/
namespace impl_inclusion
abbrev R := (List ByteArray)
noncomputable def mb (N : Nat) (slf : (List ByteArray) → Int → Option R) (a0 : List ByteArray) (a1 : Int) : Option R :=
  bif (decide ((a0.length : Int) ≤ (1:Int))) then
    some ([] : List ByteArray)
  else
  ob (impl_split.m N (a0.length : Int)) fun y1 =>
  bif (decide (a1 < y1)) then
    bif (decide (0 ≤ y1)) then
    bif (decide (y1 ≤ ((a0.length : Nat) : Int))) then
    ob (slf (a0.take (Int.toNat y1)) a1) fun y2 =>
    bif (decide (0 ≤ y1)) then
    bif (decide (y1 ≤ ((a0.length : Nat) : Int))) then
    ob (impl_treeHash.m N (a0.drop (Int.toNat y1))) fun y3 =>
    bif (room (y2.length + ([y3]).length) 16) then
    some (y2 ++ [y3])
    else none
    else none
    else none
    else none
    else none
  else
  bif (decide (0 ≤ y1)) then
  bif (decide (y1 ≤ ((a0.length : Nat) : Int))) then
  ob (slf (a0.drop (Int.toNat y1)) (w64 (a1 - y1))) fun y4 =>
  bif (decide (0 ≤ y1)) then
  bif (decide (y1 ≤ ((a0.length : Nat) : Int))) then
  ob (impl_treeHash.m N (a0.take (Int.toNat y1))) fun y5 =>
  bif (room (y4.length + ([y5]).length) 16) then
  some (y4 ++ [y5])
  else none
  else none
  else none
  else none
  else none
noncomputable def mF (N : Nat) : Nat → (List ByteArray) → Int → Option R
  | 0 => fun _ _ => none
  | n + 1 => fun a0 a1 => mb N (mF N n) a0 a1
noncomputable def m (N : Nat) : (List ByteArray) → Int → Option R := mF N N
@[reducible] noncomputable def spf (f : (List ByteArray) → Int → Option R) : Spec E := { ps := [.val (.slice 9 .str), .val (.int .i64)], rs := [(.slice 9 .str)], own := true, dp := false, R := R, fn := fun x => f x.1 x.2.1, res := fun r => (r, ()), out := fun r => ((), (), ()), shut := fun a b => a.1, res_shut := fun _ _ => rfl, out_shut := fun _ _ => rfl }
@[reducible] noncomputable def sp (N : Nat) : Spec E := spf (m N)
end impl_inclusion
/-! ### impl_signWith: loop.example/g00220/impl.signWith -/
namespace impl_signWith
abbrev R := Signature
inductive A3 where
  | s0 (v2 : Int) (v3 : Int) (v4 : Int) (v6 : List ByteArray) (v7 : List Int)
  | s1 (v2 : Int) (v3 : Int) (v4 : Int) (v6 : List ByteArray) (v7 : List ByteArray) (v8 : List Int)
noncomputable def step3 (N : Nat) (a0 : ByteArray) (a1 : Int) (a2 : ByteArray) (rec : A3 → Option R) : A3 → Option R
  | .s0 v2 v3 v4 v6 v7 =>
    bif (decide (v3 < v2)) then
      bif (decide (0 ≤ v3)) then
      bif (decide (v3 < (v7.length : Int))) then
      ob (impl_secretPart.m N a0 a1 v3) fun y4 =>
      ob (impl_chain.m N y4 (0:Int) (v7.getD (Int.toNat v3) (0:Int))) fun y5 =>
      bif (room ([y5]).length 16) then
      rec (.s1 v2 (w64 (v3 + (1:Int))) v4 ([y5]) v6 v7)
      else none
      else none
      else none
    else
    some (Signature.mk a1 ([] : List ByteArray) v6)
  | .s1 v2 v3 v4 v6 v7 v8 =>
    bif (decide (v3 < v2)) then
      bif (decide (0 ≤ v3)) then
      bif (decide (v3 < (v8.length : Int))) then
      ob (impl_secretPart.m N a0 a1 v3) fun y6 =>
      ob (impl_chain.m N y6 (0:Int) (v8.getD (Int.toNat v3) (0:Int))) fun y7 =>
      bif (room (v6.length + ([y7]).length) 16) then
      rec (.s1 v2 (w64 (v3 + (1:Int))) v4 (v6 ++ [y7]) v7 v8)
      else none
      else none
      else none
    else
    some (Signature.mk a1 v6 v7)
noncomputable def lp3 (N : Nat) (a0 : ByteArray) (a1 : Int) (a2 : ByteArray) : A3 → Option R :=
  miter (fun rec => step3 N a0 a1 a2 rec) N
noncomputable def m (N : Nat) (a0 : ByteArray) (a1 : Int) (a2 : ByteArray) : Option R :=
  ob (impl_keyLeaves.m N a0) fun y1 =>
  ob (impl_inclusion.m N y1 a1) fun y2 =>
  ob (impl_digits.m N a2) fun y3 =>
  lp3 N a0 a1 a2 (.s0 (y3.length : Int) (0:Int) (0:Int) y2 y3)
@[reducible] noncomputable def sp (N : Nat) : Spec E := { ps := [.val .str, .val (.int .i64), .val .str], rs := [(.st 44)], own := true, dp := false, R := R, fn := fun x => m N x.1 x.2.1 x.2.2.1, res := fun r => (r, ()), out := fun r => ((), (), (), ()), shut := fun a b => a.1, res_shut := fun _ _ => rfl, out_shut := fun _ _ => rfl }
end impl_signWith
/-! ### impl_SignWith: loop.example/g00220/impl.SignWith -/
namespace impl_SignWith
abbrev R := Signature × Int
noncomputable def m (N : Nat) (a0 : ByteArray) (a1 : Int) (a2 : ByteArray) : Option R :=
  ob (impl_isText.m N ([a2])) fun y1 =>
  bif (!y1) then
    some ((Signature.mk (0:Int) ([] : List ByteArray) ([] : List ByteArray)), (2:Int))
  else
  ob (impl_seedCode.m N a0 a1) fun y2 =>
  bif (y2 != (0:Int)) then
    some ((Signature.mk (0:Int) ([] : List ByteArray) ([] : List ByteArray)), y2)
  else
  ob (impl_signWith.m N a0 a1 a2) fun y3 =>
  some (y3, (0:Int))
@[reducible] noncomputable def sp (N : Nat) : Spec E := { ps := [.val .str, .val (.int .i64), .val .str], rs := [(.st 44), (.int .i64)], own := true, dp := false, R := R, fn := fun x => m N x.1 x.2.1 x.2.2.1, res := fun r => (r.1, r.2, ()), out := fun r => ((), (), (), ()), shut := fun a b => (a.1, a.2.1), res_shut := fun _ _ => rfl, out_shut := fun _ _ => rfl }
end impl_SignWith
/-! ### laws_markText: loop.example/g00220/laws.markText -/
namespace laws_markText
abbrev R := ByteArray
noncomputable def step4 (N : Nat) (a0 : Int) (rec : (Int × ByteArray) → Option R) : (Int × ByteArray) → Option R
  | (v0, v1) =>
    bif (decide (v0 > (0:Int))) then
      bif (!decide ((10:Int) = 0)) then
      bif (decide ((strOf ([(wu8 (w64 ((48:Int) + (Int.tmod v0 (10:Int)))))])).size + v1.size ≤ 9223372036854775807)) then
      bif (!decide ((10:Int) = 0)) then
      rec ((w64 (Int.tdiv v0 (10:Int))), ((strOf ([(wu8 (w64 ((48:Int) + (Int.tmod v0 (10:Int)))))])) ++ v1))
      else none
      else none
      else none
    else
    bif (decide ((⟨#[109]⟩ : ByteArray).size + v1.size ≤ 9223372036854775807)) then
    some ((⟨#[109]⟩ : ByteArray) ++ v1)
    else none
noncomputable def lp4 (N : Nat) (a0 : Int) : (Int × ByteArray) → Option R :=
  miter (fun rec => step4 N a0 rec) N
noncomputable def m (N : Nat) (a0 : Int) : Option R :=
  bif (decide (a0 ≤ (0:Int))) then
    some (⟨#[109, 48]⟩ : ByteArray)
  else
  lp4 N a0 (a0, ByteArray.empty)
@[reducible] noncomputable def sp (N : Nat) : Spec E := { ps := [.val (.int .i64)], rs := [.str], own := true, dp := false, R := R, fn := fun x => m N x.1, res := fun r => (r, ()), out := fun r => ((), ()), shut := fun a b => a.1, res_shut := fun _ _ => rfl, out_shut := fun _ _ => rfl }
end laws_markText
/-! ### laws_markStringS: loop.example/g00220/laws.markStringS -/
namespace laws_markStringS
abbrev R := Int × (List ByteArray)
noncomputable def step2 (N : Nat) (a0 : List ByteArray) (a1 : Int) (rec : (Int × Int × (List ByteArray)) → Option R) : (Int × Int × (List ByteArray)) → Option R
  | (v0, v1, v2) =>
    bif (decide (v1 < (v2.length : Int))) then
      ob (laws_markText.m N v0) fun y1 =>
      bif (decide (0 ≤ v1)) then
      bif (decide (v1 < (v2.length : Int))) then
      rec ((w64 (v0 + (1:Int))), (w64 (v1 + (1:Int))), (v2.set (Int.toNat v1) y1))
      else none
      else none
    else
    some (v0, v2)
noncomputable def lp2 (N : Nat) (a0 : List ByteArray) (a1 : Int) : (Int × Int × (List ByteArray)) → Option R :=
  miter (fun rec => step2 N a0 a1 rec) N
noncomputable def m (N : Nat) (a0 : List ByteArray) (a1 : Int) : Option R :=
  lp2 N a0 a1 (a1, (0:Int), a0)
@[reducible] noncomputable def sp (N : Nat) : Spec E := { ps := [.mut false (.slice 9 .str), .val (.int .i64)], rs := [(.int .i64)], own := true, dp := false, R := R, fn := fun x => m N x.1 x.2.1, res := fun r => (r.1, ()), out := fun r => (r.2, (), ()), shut := fun a b => (a.1, b.1), res_shut := fun _ _ => rfl, out_shut := fun _ _ => rfl }
end laws_markStringS
/-! ### laws_markSignature: loop.example/g00220/laws.markSignature -/
namespace laws_markSignature
abbrev R := Int × Signature
noncomputable def m (N : Nat) (a0 : Signature) (a1 : Int) : Option R :=
  ob (laws_markStringS.m N a0.Parts a1) fun y1 =>
  ob (laws_markStringS.m N a0.Path y1.1) fun y2 =>
  some (y2.1, (Signature.mk a0.Index y1.2 y2.2))
@[reducible] noncomputable def sp (N : Nat) : Spec E := { ps := [.mut false (.st 44), .val (.int .i64)], rs := [(.int .i64)], own := true, dp := false, R := R, fn := fun x => m N x.1 x.2.1, res := fun r => (r.1, ()), out := fun r => (r.2, (), ()), shut := fun a b => (a.1, b.1), res_shut := fun _ _ => rfl, out_shut := fun _ _ => rfl }
end laws_markSignature
/-! ### laws_heldStringS: loop.example/g00220/laws.heldStringS -/
namespace laws_heldStringS
abbrev R := Int
noncomputable def step2 (N : Nat) (a0 : List ByteArray) (a1 : Int) (rec : (Int × Int) → Option R) : (Int × Int) → Option R
  | (v1, v2) =>
    bif (decide (v2 < (a0.length : Int))) then
      bif (decide (0 ≤ v2)) then
      bif (decide (v2 < (a0.length : Int))) then
      ob (laws_markText.m N v1) fun y1 =>
      bif (!seq (a0.getD (Int.toNat v2) ByteArray.empty) y1) then
        some (-1:Int)
      else
      rec ((w64 (v1 + (1:Int))), (w64 (v2 + (1:Int))))
      else none
      else none
    else
    some v1
noncomputable def lp2 (N : Nat) (a0 : List ByteArray) (a1 : Int) : (Int × Int) → Option R :=
  miter (fun rec => step2 N a0 a1 rec) N
noncomputable def m (N : Nat) (a0 : List ByteArray) (a1 : Int) : Option R :=
  lp2 N a0 a1 (a1, (0:Int))
@[reducible] noncomputable def sp (N : Nat) : Spec E := { ps := [.val (.slice 9 .str), .val (.int .i64)], rs := [(.int .i64)], own := true, dp := false, R := R, fn := fun x => m N x.1 x.2.1, res := fun r => (r, ()), out := fun r => ((), (), ()), shut := fun a b => a.1, res_shut := fun _ _ => rfl, out_shut := fun _ _ => rfl }
end laws_heldStringS
/-! ### laws_heldSignature: loop.example/g00220/laws.heldSignature -/
namespace laws_heldSignature
abbrev R := Int
noncomputable def m (N : Nat) (a0 : Signature) (a1 : Int) : Option R :=
  ob (laws_heldStringS.m N a0.Parts a1) fun y1 =>
  bif (decide (y1 < (0:Int))) then
    some (-1:Int)
  else
  ob (laws_heldStringS.m N a0.Path y1) fun y2 =>
  bif (decide (y2 < (0:Int))) then
    some (-1:Int)
  else
  some y2
@[reducible] noncomputable def sp (N : Nat) : Spec E := { ps := [.val (.st 44), .val (.int .i64)], rs := [(.int .i64)], own := true, dp := false, R := R, fn := fun x => m N x.1 x.2.1, res := fun r => (r, ()), out := fun r => ((), (), ()), shut := fun a b => a.1, res_shut := fun _ _ => rfl, out_shut := fun _ _ => rfl }
end laws_heldSignature
/-! ### laws_FnExactSignWith: loop.example/g00220/laws.FnExactSignWith -/
namespace laws_FnExactSignWith
abbrev R := Bool
noncomputable def m (N : Nat) (a0 : ByteArray) (a1 : Int) (a2 : ByteArray) : Option R :=
  bif (decide ((a0.size : Int) > (1048576:Int))) then
    some true
  else
  bif (decide ((a2.size : Int) > (1048576:Int))) then
    some true
  else
  ob (spec_SignWith.m N a0 a1 a2) fun y1 =>
  ob (impl_SignWith.m N a0 a1 a2) fun y2 =>
  ob (laws_eqSignature.m N y2.1 y1.1) fun y3 =>
  bif (!y3) then
    some false
  else
  bif (bif false then true else (y2.2 != y1.2)) then
    some false
  else
  ob (laws_markSignature.m N y2.1 (1:Int)) fun y4 =>
  ob (laws_heldSignature.m N (Signature.mk y2.1.Index y4.2.Parts y4.2.Path) (1:Int)) fun y5 =>
  bif (decide (y5 < (0:Int))) then
    some false
  else
  bif (y5 != y4.1) then
    some false
  else
  ob (impl_SignWith.m N a0 a1 a2) fun y6 =>
  ob (laws_eqSignature.m N y6.1 y1.1) fun y7 =>
  bif (!y7) then
    some false
  else
  bif (bif false then true else (y6.2 != y1.2)) then
    some false
  else
  ob (laws_heldSignature.m N (Signature.mk y2.1.Index y4.2.Parts y4.2.Path) (1:Int)) fun y8 =>
  bif (decide (y8 < (0:Int))) then
    some false
  else
  bif (y8 != y4.1) then
    some false
  else
  some true
@[reducible] noncomputable def sp (N : Nat) : Spec E := { ps := [.val .str, .val (.int .i64), .val .str], rs := [.bool], own := true, dp := false, R := R, fn := fun x => m N x.1 x.2.1 x.2.2.1, res := fun r => (r, ()), out := fun r => ((), (), (), ()), shut := fun a b => a.1, res_shut := fun _ _ => rfl, out_shut := fun _ _ => rfl }
end laws_FnExactSignWith
/-! ### laws_szBoolS: loop.example/g00220/laws.szBoolS -/
namespace laws_szBoolS
abbrev R := Int
noncomputable def m (N : Nat) (a0 : List Bool) (a1 : Int) : Option R :=
  bif (decide ((w64 (a1 - (a0.length : Int))) < (0:Int))) then
    some (-1:Int)
  else
  some (w64 (a1 - (a0.length : Int)))
@[reducible] noncomputable def sp (N : Nat) : Spec E := { ps := [.val (.slice 4 .bool), .val (.int .i64)], rs := [(.int .i64)], own := true, dp := false, R := R, fn := fun x => m N x.1 x.2.1, res := fun r => (r, ()), out := fun r => ((), (), ()), shut := fun a b => a.1, res_shut := fun _ _ => rfl, out_shut := fun _ _ => rfl }
end laws_szBoolS
/-! ### laws_szSigner: loop.example/g00220/laws.szSigner -/
namespace laws_szSigner
abbrev R := Int
noncomputable def m (N : Nat) (a0 : Signer) (a1 : Int) : Option R :=
  bif (decide ((w64 (a1 - (a0.Seed.size : Int))) < (0:Int))) then
    some (-1:Int)
  else
  ob (laws_szBoolS.m N a0.Used (w64 (a1 - (a0.Seed.size : Int)))) fun y1 =>
  bif (decide (y1 < (0:Int))) then
    some (-1:Int)
  else
  some y1
@[reducible] noncomputable def sp (N : Nat) : Spec E := { ps := [.val (.st 58), .val (.int .i64)], rs := [(.int .i64)], own := true, dp := false, R := R, fn := fun x => m N x.1 x.2.1, res := fun r => (r, ()), out := fun r => ((), (), ()), shut := fun a b => a.1, res_shut := fun _ _ => rfl, out_shut := fun _ _ => rfl }
end laws_szSigner
/-! ### laws_toBoolS: loop.example/g00220/laws.toBoolS -/
namespace laws_toBoolS
abbrev R := (List Bool)
noncomputable def step3 (N : Nat) (a0 : List Bool) (rec : (Int × (List Bool)) → Option R) : (Int × (List Bool)) → Option R
  | (v1, v2) =>
    bif (decide (v1 < (a0.length : Int))) then
      bif (decide (0 ≤ v1)) then
      bif (decide (v1 < (a0.length : Int))) then
      bif (decide (0 ≤ v1)) then
      bif (decide (v1 < (v2.length : Int))) then
      rec ((w64 (v1 + (1:Int))), (v2.set (Int.toNat v1) (a0.getD (Int.toNat v1) false)))
      else none
      else none
      else none
      else none
    else
    some v2
noncomputable def lp3 (N : Nat) (a0 : List Bool) : (Int × (List Bool)) → Option R :=
  miter (fun rec => step3 N a0 rec) N
noncomputable def m (N : Nat) (a0 : List Bool) : Option R :=
  bif (decide (0 ≤ (a0.length : Int))) then
  bif (room (Int.toNat (a0.length : Int)) 1) then
  lp3 N a0 ((0:Int), (List.replicate (Int.toNat (a0.length : Int)) false))
  else none
  else none
@[reducible] noncomputable def sp (N : Nat) : Spec E := { ps := [.val (.slice 4 .bool)], rs := [(.slice 4 .bool)], own := true, dp := false, R := R, fn := fun x => m N x.1, res := fun r => (r, ()), out := fun r => ((), ()), shut := fun a b => a.1, res_shut := fun _ _ => rfl, out_shut := fun _ _ => rfl }
end laws_toBoolS
/-! ### laws_toSigner: loop.example/g00220/laws.toSigner -/
namespace laws_toSigner
abbrev R := Signer
noncomputable def m (N : Nat) (a0 : Signer) : Option R :=
  ob (laws_toBoolS.m N a0.Used) fun y1 =>
  some (Signer.mk a0.Seed y1)
@[reducible] noncomputable def sp (N : Nat) : Spec E := { ps := [.val (.st 58)], rs := [(.st 41)], own := true, dp := false, R := R, fn := fun x => m N x.1, res := fun r => (r, ()), out := fun r => ((), ()), shut := fun a b => a.1, res_shut := fun _ _ => rfl, out_shut := fun _ _ => rfl }
end laws_toSigner
/-! ### spec_SignerOK: loop.example/g00220/spec.SignerOK -/
namespace spec_SignerOK
abbrev R := Bool
noncomputable def m (N : Nat) (a0 : Signer) : Option R :=
  bif ((a0.Seed.size : Int) == (32:Int)) then
    some (bif true then ((a0.Used.length : Int) == (4:Int)) else false)
  else
  some false
@[reducible] noncomputable def sp (N : Nat) : Spec E := { ps := [.val (.st 41)], rs := [.bool], own := true, dp := false, R := R, fn := fun x => m N x.1, res := fun r => (r, ()), out := fun r => ((), ()), shut := fun a b => a.1, res_shut := fun _ _ => rfl, out_shut := fun _ _ => rfl }
end spec_SignerOK
/-! ### spec_SignNext: loop.example/g00220/spec.SignNext -/
namespace spec_SignNext
abbrev R := Signer × Signature × Int
noncomputable def m (N : Nat) (a0 : Signer) (a1 : Int) (a2 : ByteArray) : Option R :=
  bif (decide ((a2.size : Int) > (65536:Int))) then
    some ((Signer.mk ByteArray.empty ([] : List Bool)), (Signature.mk (0:Int) ([] : List ByteArray) ([] : List ByteArray)), (2:Int))
  else
  ob (spec_SignerOK.m N a0) fun y1 =>
  bif (!y1) then
    some ((Signer.mk ByteArray.empty ([] : List Bool)), (Signature.mk (0:Int) ([] : List ByteArray) ([] : List ByteArray)), (1:Int))
  else
  ob (spec_l08Index.m N a1) fun y2 =>
  bif (!y2) then
    some ((Signer.mk ByteArray.empty ([] : List Bool)), (Signature.mk (0:Int) ([] : List ByteArray) ([] : List ByteArray)), (4:Int))
  else
  bif (room (([] : List Bool).length + a0.Used.length) 1) then
  bif (decide (0 ≤ a1)) then
  bif (decide (a1 < (a0.Used.length : Int))) then
  bif (a0.Used.getD (Int.toNat a1) false) then
    some ((Signer.mk a0.Seed (([] : List Bool) ++ a0.Used)), (Signature.mk (0:Int) ([] : List ByteArray) ([] : List ByteArray)), (13:Int))
  else
  bif (decide (0 ≤ a1)) then
  bif (decide (a1 < ((([] : List Bool) ++ a0.Used).length : Int))) then
  ob (spec_l08Sign.m N a0.Seed a1 a2) fun y3 =>
  some ((Signer.mk a0.Seed ((([] : List Bool) ++ a0.Used).set (Int.toNat a1) true)), y3, (0:Int))
  else none
  else none
  else none
  else none
  else none
@[reducible] noncomputable def sp (N : Nat) : Spec E := { ps := [.val (.st 41), .val (.int .i64), .val .str], rs := [(.st 41), (.st 44), (.int .i64)], own := true, dp := false, R := R, fn := fun x => m N x.1 x.2.1 x.2.2.1, res := fun r => (r.1, r.2.1, r.2.2, ()), out := fun r => ((), (), (), ()), shut := fun a b => (a.1, a.2.1, a.2.2.1), res_shut := fun _ _ => rfl, out_shut := fun _ _ => rfl }
end spec_SignNext
/-! ### impl_SignerOK: loop.example/g00220/impl.SignerOK -/
namespace impl_SignerOK
abbrev R := Bool
noncomputable def m (N : Nat) (a0 : Signer) : Option R :=
  ob (impl_isHash.m N ([a0.Seed])) fun y1 =>
  bif y1 then
    some (bif true then ((a0.Used.length : Int) == (4:Int)) else false)
  else
  some false
@[reducible] noncomputable def sp (N : Nat) : Spec E := { ps := [.val (.st 41)], rs := [.bool], own := true, dp := false, R := R, fn := fun x => m N x.1, res := fun r => (r, ()), out := fun r => ((), ()), shut := fun a b => a.1, res_shut := fun _ _ => rfl, out_shut := fun _ _ => rfl }
end impl_SignerOK
/-! ### slices_Clone_bool_bool: slices.Clone[[]bool,bool] -/
namespace slices_Clone_bool_bool
abbrev R := (List Bool)
noncomputable def m (N : Nat) (a0 : List Bool) : Option R :=
  amb (a0.isEmpty) true
    (some ([] : List Bool))
    (bif (room (([] : List Bool).length + a0.length) 1) then
    some (([] : List Bool) ++ a0)
    else none)
@[reducible] noncomputable def sp (N : Nat) : Spec E := { ps := [.val (.slice 4 .bool)], rs := [(.slice 4 .bool)], own := true, dp := false, R := R, fn := fun x => m N x.1, res := fun r => (r, ()), out := fun r => ((), ()), shut := fun a b => a.1, res_shut := fun _ _ => rfl, out_shut := fun _ _ => rfl }
end slices_Clone_bool_bool
/-! ### impl_SignNext: loop.example/g00220/impl.SignNext -/
namespace impl_SignNext
abbrev R := Signer × Signature × Int
noncomputable def m (N : Nat) (a0 : Signer) (a1 : Int) (a2 : ByteArray) : Option R :=
  ob (impl_isText.m N ([a2])) fun y1 =>
  bif (!y1) then
    some ((Signer.mk ByteArray.empty ([] : List Bool)), (Signature.mk (0:Int) ([] : List ByteArray) ([] : List ByteArray)), (2:Int))
  else
  ob (impl_SignerOK.m N a0) fun y2 =>
  bif (!y2) then
    some ((Signer.mk ByteArray.empty ([] : List Bool)), (Signature.mk (0:Int) ([] : List ByteArray) ([] : List ByteArray)), (1:Int))
  else
  ob (impl_within.m N a1 (0:Int) (3:Int)) fun y3 =>
  bif (!y3) then
    some ((Signer.mk ByteArray.empty ([] : List Bool)), (Signature.mk (0:Int) ([] : List ByteArray) ([] : List ByteArray)), (4:Int))
  else
  ob (slices_Clone_bool_bool.m N a0.Used) fun y4 =>
  bif (decide (0 ≤ a1)) then
  bif (decide (a1 < (a0.Used.length : Int))) then
  bif (a0.Used.getD (Int.toNat a1) false) then
    some ((Signer.mk a0.Seed y4), (Signature.mk (0:Int) ([] : List ByteArray) ([] : List ByteArray)), (13:Int))
  else
  bif (decide (0 ≤ a1)) then
  bif (decide (a1 < (y4.length : Int))) then
  ob (impl_signWith.m N a0.Seed a1 a2) fun y5 =>
  some ((Signer.mk a0.Seed (y4.set (Int.toNat a1) true)), y5, (0:Int))
  else none
  else none
  else none
  else none
@[reducible] noncomputable def sp (N : Nat) : Spec E := { ps := [.val (.st 41), .val (.int .i64), .val .str], rs := [(.st 41), (.st 44), (.int .i64)], own := true, dp := false, R := R, fn := fun x => m N x.1 x.2.1 x.2.2.1, res := fun r => (r.1, r.2.1, r.2.2, ()), out := fun r => ((), (), (), ()), shut := fun a b => (a.1, a.2.1, a.2.2.1), res_shut := fun _ _ => rfl, out_shut := fun _ _ => rfl }
end impl_SignNext
/-! ### laws_eqBoolS: loop.example/g00220/laws.eqBoolS -/
namespace laws_eqBoolS
abbrev R := Bool
noncomputable def step4 (N : Nat) (a0 : List Bool) (a1 : List Bool) (rec : Int → Option R) : Int → Option R
  | v2 =>
    bif (decide (v2 < (a0.length : Int))) then
      bif (decide (0 ≤ v2)) then
      bif (decide (v2 < (a0.length : Int))) then
      bif (decide (0 ≤ v2)) then
      bif (decide (v2 < (a1.length : Int))) then
      bif (!((a0.getD (Int.toNat v2) false) == (a1.getD (Int.toNat v2) false))) then
        some false
      else
      rec (w64 (v2 + (1:Int)))
      else none
      else none
      else none
      else none
    else
    some true
noncomputable def lp4 (N : Nat) (a0 : List Bool) (a1 : List Bool) : Int → Option R :=
  miter (fun rec => step4 N a0 a1 rec) N
noncomputable def m (N : Nat) (a0 : List Bool) (a1 : List Bool) : Option R :=
  bif ((a0.length : Int) != (a1.length : Int)) then
    some false
  else
  lp4 N a0 a1 (0:Int)
@[reducible] noncomputable def sp (N : Nat) : Spec E := { ps := [.val (.slice 4 .bool), .val (.slice 4 .bool)], rs := [.bool], own := true, dp := false, R := R, fn := fun x => m N x.1 x.2.1, res := fun r => (r, ()), out := fun r => ((), (), ()), shut := fun a b => a.1, res_shut := fun _ _ => rfl, out_shut := fun _ _ => rfl }
end laws_eqBoolS
/-! ### laws_eqSigner: loop.example/g00220/laws.eqSigner -/
namespace laws_eqSigner
abbrev R := Bool
noncomputable def m (N : Nat) (a0 : Signer) (a1 : Signer) : Option R :=
  bif (!seq a0.Seed a1.Seed) then
    some false
  else
  ob (laws_eqBoolS.m N a0.Used a1.Used) fun y1 =>
  bif (!y1) then
    some false
  else
  some true
@[reducible] noncomputable def sp (N : Nat) : Spec E := { ps := [.val (.st 41), .val (.st 41)], rs := [.bool], own := true, dp := false, R := R, fn := fun x => m N x.1 x.2.1, res := fun r => (r, ()), out := fun r => ((), (), ()), shut := fun a b => a.1, res_shut := fun _ _ => rfl, out_shut := fun _ _ => rfl }
end laws_eqSigner
/-! ### laws_markBoolS: loop.example/g00220/laws.markBoolS -/
namespace laws_markBoolS
abbrev R := Int × (List Bool)
noncomputable def step2 (N : Nat) (a0 : List Bool) (a1 : Int) (rec : (Int × Int × (List Bool)) → Option R) : (Int × Int × (List Bool)) → Option R
  | (v0, v1, v2) =>
    bif (decide (v1 < (v2.length : Int))) then
      bif (!decide ((3:Int) = 0)) then
      bif (decide (0 ≤ v1)) then
      bif (decide (v1 < (v2.length : Int))) then
      rec ((w64 (v0 + (1:Int))), (w64 (v1 + (1:Int))), (v2.set (Int.toNat v1) ((Int.tmod v0 (3:Int)) == (0:Int))))
      else none
      else none
      else none
    else
    some (v0, v2)
noncomputable def lp2 (N : Nat) (a0 : List Bool) (a1 : Int) : (Int × Int × (List Bool)) → Option R :=
  miter (fun rec => step2 N a0 a1 rec) N
noncomputable def m (N : Nat) (a0 : List Bool) (a1 : Int) : Option R :=
  lp2 N a0 a1 (a1, (0:Int), a0)
@[reducible] noncomputable def sp (N : Nat) : Spec E := { ps := [.mut false (.slice 4 .bool), .val (.int .i64)], rs := [(.int .i64)], own := true, dp := false, R := R, fn := fun x => m N x.1 x.2.1, res := fun r => (r.1, ()), out := fun r => (r.2, (), ()), shut := fun a b => (a.1, b.1), res_shut := fun _ _ => rfl, out_shut := fun _ _ => rfl }
end laws_markBoolS
/-! ### laws_markSigner: loop.example/g00220/laws.markSigner -/
namespace laws_markSigner
abbrev R := Int × Signer
noncomputable def m (N : Nat) (a0 : Signer) (a1 : Int) : Option R :=
  ob (laws_markBoolS.m N a0.Used a1) fun y1 =>
  some (y1.1, (Signer.mk a0.Seed y1.2))
@[reducible] noncomputable def sp (N : Nat) : Spec E := { ps := [.mut false (.st 41), .val (.int .i64)], rs := [(.int .i64)], own := true, dp := false, R := R, fn := fun x => m N x.1 x.2.1, res := fun r => (r.1, ()), out := fun r => (r.2, (), ()), shut := fun a b => (a.1, b.1), res_shut := fun _ _ => rfl, out_shut := fun _ _ => rfl }
end laws_markSigner
/-! ### laws_heldBoolS: loop.example/g00220/laws.heldBoolS -/
namespace laws_heldBoolS
abbrev R := Int
noncomputable def step2 (N : Nat) (a0 : List Bool) (a1 : Int) (rec : (Int × Int) → Option R) : (Int × Int) → Option R
  | (v1, v2) =>
    bif (decide (v2 < (a0.length : Int))) then
      bif (decide (0 ≤ v2)) then
      bif (decide (v2 < (a0.length : Int))) then
      bif (!decide ((3:Int) = 0)) then
      bif (!((a0.getD (Int.toNat v2) false) == ((Int.tmod v1 (3:Int)) == (0:Int)))) then
        some (-1:Int)
      else
      rec ((w64 (v1 + (1:Int))), (w64 (v2 + (1:Int))))
      else none
      else none
      else none
    else
    some v1
noncomputable def lp2 (N : Nat) (a0 : List Bool) (a1 : Int) : (Int × Int) → Option R :=
  miter (fun rec => step2 N a0 a1 rec) N
noncomputable def m (N : Nat) (a0 : List Bool) (a1 : Int) : Option R :=
  lp2 N a0 a1 (a1, (0:Int))
@[reducible] noncomputable def sp (N : Nat) : Spec E := { ps := [.val (.slice 4 .bool), .val (.int .i64)], rs := [(.int .i64)], own := true, dp := false, R := R, fn := fun x => m N x.1 x.2.1, res := fun r => (r, ()), out := fun r => ((), (), ()), shut := fun a b => a.1, res_shut := fun _ _ => rfl, out_shut := fun _ _ => rfl }
end laws_heldBoolS
/-! ### laws_heldSigner: loop.example/g00220/laws.heldSigner -/
namespace laws_heldSigner
abbrev R := Int
noncomputable def m (N : Nat) (a0 : Signer) (a1 : Int) : Option R :=
  ob (laws_heldBoolS.m N a0.Used a1) fun y1 =>
  bif (decide (y1 < (0:Int))) then
    some (-1:Int)
  else
  some y1
@[reducible] noncomputable def sp (N : Nat) : Spec E := { ps := [.val (.st 41), .val (.int .i64)], rs := [(.int .i64)], own := true, dp := false, R := R, fn := fun x => m N x.1 x.2.1, res := fun r => (r, ()), out := fun r => ((), (), ()), shut := fun a b => a.1, res_shut := fun _ _ => rfl, out_shut := fun _ _ => rfl }
end laws_heldSigner
end Mir.Y
