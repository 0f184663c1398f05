/- Models of functions. -/
import Derived.Test.YtohcahijaoemjaaFM2
namespace Mir.Y
set_option linter.unusedVariables false
set_option maxRecDepth 10000
open Go Go.Proofs Mir
/-! ### laws_sameTexts: loop.example/g00220/laws.sameTexts -/
namespace laws_sameTexts
abbrev R := Bool
noncomputable def step4 (N : Nat) (a0 : List ByteArray) (a1 : List ByteArray) (rec : Int → Option R) : Int → Option R
  | v2 =>
    bif (decide (v2 < (a0.length : Int))) then
      bif (decide (0 ≤ v2)) then
      bif (decide (v2 < (a0.length : Int))) then
      bif (decide (0 ≤ v2)) then
      bif (decide (v2 < (a1.length : Int))) then
      bif (!seq (a0.getD (Int.toNat v2) ByteArray.empty) (a1.getD (Int.toNat v2) ByteArray.empty)) then
        some false
      else
      rec (w64 (v2 + (1:Int)))
      else none
      else none
      else none
      else none
    else
    some true
noncomputable def lp4 (N : Nat) (a0 : List ByteArray) (a1 : List ByteArray) : Int → Option R :=
  miter (fun rec => step4 N a0 a1 rec) N
noncomputable def m (N : Nat) (a0 : List ByteArray) (a1 : List ByteArray) : Option R :=
  bif ((a0.length : Int) != (a1.length : Int)) then
    some false
  else
  lp4 N a0 a1 (0:Int)
@[reducible] noncomputable def sp (N : Nat) : Spec E := { ps := [.val (.slice 9 .str), .val (.slice 9 .str)], rs := [.bool], own := true, dp := false, R := R, fn := fun x => m N x.1 x.2.1, res := fun r => (r, ()), out := fun r => ((), (), ()), shut := fun a b => a.1, res_shut := fun _ _ => rfl, out_shut := fun _ _ => rfl }
end laws_sameTexts
/-! ### laws_sameSignature: loop.example/g00220/laws.sameSignature -/
namespace laws_sameSignature
abbrev R := Bool
noncomputable def m (N : Nat) (a0 : Signature) (a1 : Signature) : Option R :=
  bif (a0.Index == a1.Index) then
    ob (laws_sameTexts.m N a0.Parts a1.Parts) fun y1 =>
    bif (bif true then y1 else false) then
      ob (laws_sameTexts.m N a0.Path a1.Path) fun y2 =>
      some (bif true then y2 else false)
    else
    some false
  else
  some false
@[reducible] noncomputable def sp (N : Nat) : Spec E := { ps := [.val (.st 44), .val (.st 44)], rs := [.bool], own := true, dp := false, R := R, fn := fun x => m N x.1 x.2.1, res := fun r => (r, ()), out := fun r => ((), (), ()), shut := fun a b => a.1, res_shut := fun _ _ => rfl, out_shut := fun _ _ => rfl }
end laws_sameSignature
/-! ### impl_isList_string: loop.example/g00220/impl.isList[string] -/
namespace impl_isList_string
abbrev R := Bool
noncomputable def m (N : Nat) (a0 : List ByteArray) : Option R :=
  some (decide ((a0.length : Int) ≤ (4096:Int)))
@[reducible] noncomputable def sp (N : Nat) : Spec E := { ps := [.val (.slice 9 .str)], rs := [.bool], own := true, dp := false, R := R, fn := fun x => m N x.1, res := fun r => (r, ()), out := fun r => ((), ()), shut := fun a b => a.1, res_shut := fun _ _ => rfl, out_shut := fun _ _ => rfl }
end impl_isList_string
/-! ### impl_prover_next_: (*loop.example/g00220/impl.prover).next -/
namespace impl_prover_next_
abbrev R := ByteArray × prover
noncomputable def m (N : Nat) (a0 : prover) : Option R :=
  bif ((a0.proof.length : Int) == (0:Int)) then
    some (ByteArray.empty, (prover.mk a0.proof true a0.steps))
  else
  bif (decide (0 ≤ (0:Int))) then
  bif (decide ((0:Int) < (a0.proof.length : Int))) then
  bif (decide (0 ≤ (1:Int))) then
  bif (decide ((1:Int) ≤ ((a0.proof.length : Nat) : Int))) then
  some ((a0.proof.getD 0 ByteArray.empty), (prover.mk (a0.proof.drop 1) a0.bad a0.steps))
  else none
  else none
  else none
  else none
@[reducible] noncomputable def sp (N : Nat) : Spec E := { ps := [.box false 115 115], rs := [.str], own := true, dp := false, R := R, fn := fun x => m N x.1, res := fun r => (r.1, ()), out := fun r => (r.2, ()), shut := fun a b => (a.1, b.1), res_shut := fun _ _ => rfl, out_shut := fun _ _ => rfl }
end impl_prover_next_
/-! ### impl_prover_node: (*loop.example/g00220/impl.prover).node -/
namespace impl_prover_node
abbrev R := ByteArray × prover
noncomputable def m (N : Nat) (a0 : prover) (a1 : ByteArray) (a2 : ByteArray) : Option R :=
  bif (decide ((⟨#[1]⟩ : ByteArray).size + a1.size ≤ 9223372036854775807)) then
  bif (decide (((⟨#[1]⟩ : ByteArray) ++ a1).size + a2.size ≤ 9223372036854775807)) then
  bif (room (a0.steps.length + ([(((⟨#[1]⟩ : ByteArray) ++ a1) ++ a2)]).length) 16) then
  ob (impl_nodeHash.m N a1 a2) fun y1 =>
  some (y1, (prover.mk a0.proof a0.bad (a0.steps ++ [(((⟨#[1]⟩ : ByteArray) ++ a1) ++ a2)])))
  else none
  else none
  else none
@[reducible] noncomputable def sp (N : Nat) : Spec E := { ps := [.box false 115 115, .val .str, .val .str], rs := [.str], own := true, dp := false, R := R, fn := fun x => m N x.1 x.2.1 x.2.2.1, res := fun r => (r.1, ()), out := fun r => (r.2, (), (), ()), shut := fun a b => (a.1, b.1), res_shut := fun _ _ => rfl, out_shut := fun _ _ => rfl }
end impl_prover_node
/-! ### impl_prover_inclusion: (*loop.example/g00220/impl.prover).inclusion -/
namespace impl_prover_inclusion
abbrev R := ByteArray × prover
noncomputable def mb (N : Nat) (slf : prover → ByteArray → Int → Int → Option R) (a0 : prover) (a1 : ByteArray) (a2 : Int) (a3 : Int) : Option R :=
  bif (decide (a3 ≤ (1:Int))) then
    some (a1, a0)
  else
  ob (impl_split.m N a3) fun y1 =>
  bif (decide (a2 < y1)) then
    ob (slf a0 a1 a2 y1) fun y2 =>
    ob (impl_prover_next_.m N y2.2) fun y3 =>
    ob (impl_prover_node.m N y3.2 y2.1 y3.1) fun y4 =>
    some (y4.1, y4.2)
  else
  ob (slf a0 a1 (w64 (a2 - y1)) (w64 (a3 - y1))) fun y5 =>
  ob (impl_prover_next_.m N y5.2) fun y6 =>
  ob (impl_prover_node.m N y6.2 y6.1 y5.1) fun y7 =>
  some (y7.1, y7.2)
noncomputable def mF (N : Nat) : Nat → prover → ByteArray → Int → Int → Option R
  | 0 => fun _ _ _ _ => none
  | n + 1 => fun a0 a1 a2 a3 => mb N (mF N n) a0 a1 a2 a3
noncomputable def m (N : Nat) : prover → ByteArray → Int → Int → Option R := mF N N
@[reducible] noncomputable def spf (f : prover → ByteArray → Int → Int → Option R) : Spec E := { ps := [.box false 115 115, .val .str, .val (.int .i64), .val (.int .i64)], rs := [.str], own := true, dp := false, R := R, fn := fun x => f x.1 x.2.1 x.2.2.1 x.2.2.2.1, res := fun r => (r.1, ()), out := fun r => (r.2, (), (), (), ()), shut := fun a b => (a.1, b.1), res_shut := fun _ _ => rfl, out_shut := fun _ _ => rfl }
@[reducible] noncomputable def sp (N : Nat) : Spec E := spf (m N)
end impl_prover_inclusion
/-! ### impl_inclusionRoot: loop.example/g00220/impl.inclusionRoot -/
namespace impl_inclusionRoot
abbrev R := ByteArray × (List ByteArray) × Int
noncomputable def m (N : Nat) (a0 : ByteArray) (a1 : Int) (a2 : Int) (a3 : List ByteArray) : Option R :=
  ob (impl_within.m N a2 (1:Int) (64:Int)) fun y1 =>
  bif (!y1) then
    some (ByteArray.empty, ([] : List ByteArray), (4:Int))
  else
  ob (impl_within.m N a1 (0:Int) (w64 (a2 - (1:Int)))) fun y2 =>
  bif (bif false then true else (!y2)) then
    some (ByteArray.empty, ([] : List ByteArray), (4:Int))
  else
  ob (impl_prover_inclusion.m N (prover.mk a3 false ([] : List ByteArray)) a0 a1 a2) fun y3 =>
  bif y3.2.bad then
    some (ByteArray.empty, ([] : List ByteArray), (10:Int))
  else
  bif (bif false then true else (decide ((y3.2.proof.length : Int) > (0:Int)))) then
    some (ByteArray.empty, ([] : List ByteArray), (10:Int))
  else
  some (y3.1, y3.2.steps, (0:Int))
@[reducible] noncomputable def sp (N : Nat) : Spec E := { ps := [.val .str, .val (.int .i64), .val (.int .i64), .val (.slice 9 .str)], rs := [.str, (.slice 9 .str), (.int .i64)], own := true, dp := false, R := R, fn := fun x => m N x.1 x.2.1 x.2.2.1 x.2.2.2.1, res := fun r => (r.1, r.2.1, r.2.2, ()), out := fun r => ((), (), (), (), ()), shut := fun a b => (a.1, a.2.1, a.2.2.1), res_shut := fun _ _ => rfl, out_shut := fun _ _ => rfl }
end impl_inclusionRoot
/-! ### impl_Signature_leadsTo: (loop.example/g00220/impl.Signature).leadsTo -/
namespace impl_Signature_leadsTo
abbrev R := Bool × Bool
noncomputable def step3 (N : Nat) (a0 : Signature) (a1 : ByteArray) (a2 : ByteArray) (rec : (Int × Int × (List ByteArray) × (List Int)) → Option R) : (Int × Int × (List ByteArray) × (List Int)) → Option R
  | (v1, v2, v6, v7) =>
    bif (decide (v2 < v1)) then
      bif (decide (0 ≤ v2)) then
      bif (decide (v2 < (v7.length : Int))) then
      bif (decide (0 ≤ v2)) then
      bif (decide (v2 < (a0.Parts.length : Int))) then
      ob (impl_chain.m N (a0.Parts.getD (Int.toNat v2) ByteArray.empty) (v7.getD (Int.toNat v2) (0:Int)) (w64 ((15:Int) - (v7.getD (Int.toNat v2) (0:Int))))) fun y2 =>
      bif (room (v6.length + ([y2]).length) 16) then
      rec (v1, (w64 (v2 + (1:Int))), (v6 ++ [y2]), v7)
      else none
      else none
      else none
      else none
      else none
    else
    ob (impl_endsLeaf.m N v6) fun y3 =>
    ob (impl_inclusionRoot.m N y3 a0.Index (4:Int) a0.Path) fun y4 =>
    some ((seq y4.1 a1), (y4.2.2 == (0:Int)))
noncomputable def lp3 (N : Nat) (a0 : Signature) (a1 : ByteArray) (a2 : ByteArray) : (Int × Int × (List ByteArray) × (List Int)) → Option R :=
  miter (fun rec => step3 N a0 a1 a2 rec) N
noncomputable def m (N : Nat) (a0 : Signature) (a1 : ByteArray) (a2 : ByteArray) : Option R :=
  ob (impl_digits.m N a2) fun y1 =>
  lp3 N a0 a1 a2 ((y1.length : Int), (0:Int), ([] : List ByteArray), y1)
@[reducible] noncomputable def sp (N : Nat) : Spec E := { ps := [.val (.st 44), .val .str, .val .str], rs := [.bool, .bool], own := true, dp := false, R := R, fn := fun x => m N x.1 x.2.1 x.2.2.1, res := fun r => (r.1, r.2, ()), out := fun r => ((), (), (), ()), shut := fun a b => (a.1, a.2.1), res_shut := fun _ _ => rfl, out_shut := fun _ _ => rfl }
end impl_Signature_leadsTo
/-! ### impl_VerifySignature: loop.example/g00220/impl.VerifySignature -/
namespace impl_VerifySignature
abbrev R := Int
noncomputable def m (N : Nat) (a0 : ByteArray) (a1 : ByteArray) (a2 : Signature) : Option R :=
  ob (impl_isText.m N ([a0, a1])) fun y1 =>
  bif (!y1) then
    some (2:Int)
  else
  ob (impl_isList_string.m N a2.Parts) fun y2 =>
  bif (bif false then true else (!y2)) then
    some (2:Int)
  else
  ob (impl_isList_string.m N a2.Path) fun y3 =>
  bif (bif false then true else (!y3)) then
    some (2:Int)
  else
  ob (impl_isHash.m N ([a0])) fun y4 =>
  bif (!y4) then
    some (1:Int)
  else
  (let w5 : Bool := (bif false then true else (decide ((if (a2.Parts.length : Int) < (a2.Path.length : Int) then (a2.Path.length : Int) else (a2.Parts.length : Int)) > (64:Int))))
  bif w5 then
    some (1:Int)
  else
  ob (impl_isHash.m N a2.Parts) fun y6 =>
  bif (bif false then true else (!y6)) then
    some (1:Int)
  else
  ob (impl_isHash.m N a2.Path) fun y7 =>
  bif (bif false then true else (!y7)) then
    some (1:Int)
  else
  ob (impl_within.m N a2.Index (0:Int) (3:Int)) fun y8 =>
  bif (!y8) then
    some (4:Int)
  else
  bif (bif false then true else ((a2.Parts.length : Int) != (18:Int))) then
    some (4:Int)
  else
  ob (impl_Signature_leadsTo.m N a2 a0 a1) fun y9 =>
  bif (!y9.2) then
    some (10:Int)
  else
  bif (!y9.1) then
    some (12:Int)
  else
  some (0:Int))
@[reducible] noncomputable def sp (N : Nat) : Spec E := { ps := [.val .str, .val .str, .val (.st 44)], rs := [(.int .i64)], own := true, dp := false, R := R, fn := fun x => m N x.1 x.2.1 x.2.2.1, res := fun r => (r, ()), out := fun r => ((), (), (), ()), shut := fun a b => a.1, res_shut := fun _ _ => rfl, out_shut := fun _ _ => rfl }
end impl_VerifySignature
/-! ### spec_l06Hashes: loop.example/g00220/spec.l06Hashes -/
namespace spec_l06Hashes
abbrev R := Bool
noncomputable def step4 (N : Nat) (a0 : List ByteArray) (rec : Int → Option R) : Int → Option R
  | v1 =>
    bif (decide (v1 < (a0.length : Int))) then
      bif (decide (0 ≤ v1)) then
      bif (decide (v1 < (a0.length : Int))) then
      bif (((a0.getD (Int.toNat v1) ByteArray.empty).size : Int) != (32:Int)) then
        some false
      else
      rec (w64 (v1 + (1:Int)))
      else none
      else none
    else
    some true
noncomputable def lp4 (N : Nat) (a0 : List ByteArray) : Int → Option R :=
  miter (fun rec => step4 N a0 rec) N
noncomputable def m (N : Nat) (a0 : List ByteArray) : Option R :=
  bif (decide ((a0.length : Int) > (64:Int))) then
    some false
  else
  lp4 N a0 (0:Int)
@[reducible] noncomputable def sp (N : Nat) : Spec E := { ps := [.val (.slice 9 .str)], rs := [.bool], own := true, dp := false, R := R, fn := fun x => m N x.1, res := fun r => (r, ()), out := fun r => ((), ()), shut := fun a b => a.1, res_shut := fun _ _ => rfl, out_shut := fun _ _ => rfl }
end spec_l06Hashes
/-! ### spec_l06Up: loop.example/g00220/spec.l06Up -/
namespace spec_l06Up
abbrev R := ByteArray × Bool
noncomputable def mb (N : Nat) (slf : ByteArray → Int → Int → (List ByteArray) → Option R) (a0 : ByteArray) (a1 : Int) (a2 : Int) (a3 : List ByteArray) : Option R :=
  bif (a2 == (1:Int)) then
    some (a0, ((a3.length : Int) == (0:Int)))
  else
  bif ((a3.length : Int) == (0:Int)) then
    some (ByteArray.empty, false)
  else
  ob (spec_l06Half.m N a2) fun y1 =>
  bif (decide (0 ≤ (w64 ((a3.length : Int) - (1:Int))))) then
  bif (decide ((w64 ((a3.length : Int) - (1:Int))) < (a3.length : Int))) then
  bif (decide (0 ≤ (w64 ((a3.length : Int) - (1:Int))))) then
  bif (decide ((w64 ((a3.length : Int) - (1:Int))) ≤ ((a3.length : Nat) : Int))) then
  bif (decide (a1 < y1)) then
    ob (slf a0 a1 y1 (a3.take (Int.toNat (w64 ((a3.length : Int) - (1:Int)))))) fun y2 =>
    ob (spec_l06Node.m N y2.1 (a3.getD (Int.toNat (w64 ((a3.length : Int) - (1:Int)))) ByteArray.empty)) fun y3 =>
    some (y3, y2.2)
  else
  ob (slf a0 (w64 (a1 - y1)) (w64 (a2 - y1)) (a3.take (Int.toNat (w64 ((a3.length : Int) - (1:Int)))))) fun y4 =>
  ob (spec_l06Node.m N (a3.getD (Int.toNat (w64 ((a3.length : Int) - (1:Int)))) ByteArray.empty) y4.1) fun y5 =>
  some (y5, y4.2)
  else none
  else none
  else none
  else none
noncomputable def mF (N : Nat) : Nat → ByteArray → Int → Int → (List ByteArray) → Option R
  | 0 => fun _ _ _ _ => none
  | n + 1 => fun a0 a1 a2 a3 => mb N (mF N n) a0 a1 a2 a3
noncomputable def m (N : Nat) : ByteArray → Int → Int → (List ByteArray) → Option R := mF N N
@[reducible] noncomputable def spf (f : ByteArray → Int → Int → (List ByteArray) → Option R) : Spec E := { ps := [.val .str, .val (.int .i64), .val (.int .i64), .val (.slice 9 .str)], rs := [.str, .bool], own := true, dp := false, R := R, fn := fun x => f x.1 x.2.1 x.2.2.1 x.2.2.2.1, res := fun r => (r.1, r.2, ()), out := fun r => ((), (), (), (), ()), shut := fun a b => (a.1, a.2.1), res_shut := fun _ _ => rfl, out_shut := fun _ _ => rfl }
@[reducible] noncomputable def sp (N : Nat) : Spec E := spf (m N)
end spec_l06Up
/-! ### spec_l08Root: loop.example/g00220/spec.l08Root -/
namespace spec_l08Root
abbrev R := ByteArray × Bool
noncomputable def step4 (N : Nat) (a0 : ByteArray) (a1 : Signature) (rec : (Int × (List ByteArray) × (List Int)) → Option R) : (Int × (List ByteArray) × (List Int)) → Option R
  | (v0, v4, v5) =>
    bif (decide (v0 < (18:Int))) then
      bif (decide (0 ≤ v0)) then
      bif (decide (v0 < (a1.Parts.length : Int))) then
      bif (decide (0 ≤ v0)) then
      bif (decide (v0 < (v5.length : Int))) then
      bif (decide (0 ≤ v0)) then
      bif (decide (v0 < (v5.length : Int))) then
      ob (spec_l08Chain.m N (a1.Parts.getD (Int.toNat v0) ByteArray.empty) (v5.getD (Int.toNat v0) (0:Int)) (w64 ((15:Int) - (v5.getD (Int.toNat v0) (0:Int))))) fun y2 =>
      bif (room (v4.length + ([y2]).length) 16) then
      rec ((w64 (v0 + (1:Int))), (v4 ++ [y2]), v5)
      else none
      else none
      else none
      else none
      else none
      else none
      else none
    else
    ob (spec_l08Ends.m N v4) fun y3 =>
    ob (spec_l06Up.m N y3 a1.Index (4:Int) a1.Path) fun y4 =>
    some (y4.1, y4.2)
noncomputable def lp4 (N : Nat) (a0 : ByteArray) (a1 : Signature) : (Int × (List ByteArray) × (List Int)) → Option R :=
  miter (fun rec => step4 N a0 a1 rec) N
noncomputable def m (N : Nat) (a0 : ByteArray) (a1 : Signature) : Option R :=
  ob (spec_l08Digits.m N a0) fun y1 =>
  lp4 N a0 a1 ((0:Int), ([] : List ByteArray), y1)
@[reducible] noncomputable def sp (N : Nat) : Spec E := { ps := [.val .str, .val (.st 44)], rs := [.str, .bool], own := true, dp := false, R := R, fn := fun x => m N x.1 x.2.1, res := fun r => (r.1, r.2, ()), out := fun r => ((), (), ()), shut := fun a b => (a.1, a.2.1), res_shut := fun _ _ => rfl, out_shut := fun _ _ => rfl }
end spec_l08Root
/-! ### spec_VerifySignature: loop.example/g00220/spec.VerifySignature -/
namespace spec_VerifySignature
abbrev R := Int
noncomputable def m (N : Nat) (a0 : ByteArray) (a1 : ByteArray) (a2 : Signature) : Option R :=
  bif (decide ((a0.size : Int) > (65536:Int))) then
    some (2:Int)
  else
  bif (decide ((a1.size : Int) > (65536:Int))) then
    some (2:Int)
  else
  bif (bif false then true else (decide ((a2.Parts.length : Int) > (4096:Int)))) then
    some (2:Int)
  else
  bif (bif false then true else (decide ((a2.Path.length : Int) > (4096:Int)))) then
    some (2:Int)
  else
  bif ((a0.size : Int) != (32:Int)) then
    some (1:Int)
  else
  ob (spec_l06Hashes.m N a2.Parts) fun y1 =>
  bif (bif false then true else (!y1)) then
    some (1:Int)
  else
  ob (spec_l06Hashes.m N a2.Path) fun y2 =>
  bif (bif false then true else (!y2)) then
    some (1:Int)
  else
  ob (spec_l08Index.m N a2.Index) fun y3 =>
  bif (!y3) then
    some (4:Int)
  else
  bif (bif false then true else ((a2.Parts.length : Int) != (18:Int))) then
    some (4:Int)
  else
  ob (spec_l08Root.m N a1 a2) fun y4 =>
  bif (!y4.2) then
    some (10:Int)
  else
  bif (!seq y4.1 a0) then
    some (12:Int)
  else
  some (0:Int)
@[reducible] noncomputable def sp (N : Nat) : Spec E := { ps := [.val .str, .val .str, .val (.st 44)], rs := [(.int .i64)], own := true, dp := false, R := R, fn := fun x => m N x.1 x.2.1 x.2.2.1, res := fun r => (r, ()), out := fun r => ((), (), (), ()), shut := fun a b => a.1, res_shut := fun _ _ => rfl, out_shut := fun _ _ => rfl }
end spec_VerifySignature
/-! ### laws_FnSigns: loop.example/g00220/laws.FnSigns -/
namespace laws_FnSigns
abbrev R := Bool
noncomputable def m (N : Nat) (a0 : List Int) (a1 : List Int) : Option R :=
  bif (decide ((a0.length : Int) > (1048576:Int))) then
    some true
  else
  bif (bif false then true else (decide ((a1.length : Int) > (1048576:Int)))) then
    some true
  else
  ob (spec_HashOf.m N a0) fun y1 =>
  ob (spec_MessageOf.m N a1) fun y2 =>
  ob (laws_at.m N a1 (0:Int) (4:Int)) fun y3 =>
  ob (impl_PublicRoot.m N y1) fun y4 =>
  ob (impl_SignWith.m N y1 y3 y2) fun y5 =>
  ob (spec_SignWith.m N y1 y3 y2) fun y6 =>
  bif (y4.2 != (0:Int)) then
    some false
  else
  bif (bif false then true else (y5.2 != (0:Int))) then
    some false
  else
  ob (laws_sameSignature.m N y5.1 y6.1) fun y7 =>
  bif (bif false then true else (!y7)) then
    some false
  else
  ob (impl_VerifySignature.m N y4.1 y2 y5.1) fun y8 =>
  bif (bif false then true else (y8 != (0:Int))) then
    some false
  else
  bif (decide (y2.size + (⟨#[33]⟩ : ByteArray).size ≤ 9223372036854775807)) then
  ob (impl_VerifySignature.m N y4.1 (y2 ++ (⟨#[33]⟩ : ByteArray)) y5.1) fun y9 =>
  bif (decide (y2.size + (⟨#[33]⟩ : ByteArray).size ≤ 9223372036854775807)) then
  ob (spec_VerifySignature.m N y4.1 (y2 ++ (⟨#[33]⟩ : ByteArray)) y5.1) fun y10 =>
  bif (y9 != y10) then
    some false
  else
  ob (laws_at.m N a1 (1:Int) (18:Int)) fun y11 =>
  ob (spec_HashOf.m N a1) fun y12 =>
  bif (decide (0 ≤ y11)) then
  bif (decide (y11 < (y5.1.Parts.length : Int))) then
  bif (seq (y5.1.Parts.getD (Int.toNat y11) ByteArray.empty) y12) then
    some true
  else
  bif (room (([] : List ByteArray).length + y5.1.Parts.length) 16) then
  bif (decide (0 ≤ y11)) then
  bif (decide (y11 < ((([] : List ByteArray) ++ y5.1.Parts).length : Int))) then
  ob (impl_VerifySignature.m N y4.1 y2 (Signature.mk y5.1.Index ((([] : List ByteArray) ++ y5.1.Parts).set (Int.toNat y11) y12) y5.1.Path)) fun y13 =>
  ob (spec_VerifySignature.m N y4.1 y2 (Signature.mk y5.1.Index ((([] : List ByteArray) ++ y5.1.Parts).set (Int.toNat y11) y12) y5.1.Path)) fun y14 =>
  some (y13 == y14)
  else none
  else none
  else none
  else none
  else none
  else none
  else none
@[reducible] noncomputable def sp (N : Nat) : Spec E := { ps := [.val (.slice 5 (.int .u8)), .val (.slice 5 (.int .u8))], rs := [.bool], own := true, dp := false, R := R, fn := fun x => m N x.1 x.2.1, res := fun r => (r, ()), out := fun r => ((), (), ()), shut := fun a b => a.1, res_shut := fun _ _ => rfl, out_shut := fun _ _ => rfl }
end laws_FnSigns
end Mir.Y
