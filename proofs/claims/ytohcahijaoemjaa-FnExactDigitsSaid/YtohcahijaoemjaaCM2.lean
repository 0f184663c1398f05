/- Models of functions. -/
import Derived.Test.YtohcahijaoemjaaCM1
namespace Mir.Y
set_option linter.unusedVariables false
set_option maxRecDepth 10000
open Go Go.Proofs Mir
/-! ### laws_eqIntS: loop.example/g00220/laws.eqIntS -/
namespace laws_eqIntS
abbrev R := Bool
noncomputable def step4 (N : Nat) (a0 : List Int) (a1 : List Int) (rec : Int → Option R) : Int → Option R
  | v2 =>
    bif (decide (v2 < (a0.length : Int))) then
      bif (decide (0 ≤ v2)) then
      bif (decide (v2 < (a0.length : Int))) then
      bif (decide (0 ≤ v2)) then
      bif (decide (v2 < (a1.length : Int))) then
      bif ((a0.getD (Int.toNat v2) (0:Int)) != (a1.getD (Int.toNat v2) (0:Int))) then
        some false
      else
      rec (w64 (v2 + (1:Int)))
      else none
      else none
      else none
      else none
    else
    some true
noncomputable def lp4 (N : Nat) (a0 : List Int) (a1 : List Int) : Int → Option R :=
  miter (fun rec => step4 N a0 a1 rec) N
noncomputable def m (N : Nat) (a0 : List Int) (a1 : List Int) : Option R :=
  bif ((a0.length : Int) != (a1.length : Int)) then
    some false
  else
  lp4 N a0 a1 (0:Int)
@[reducible] noncomputable def sp (N : Nat) : Spec E := { ps := [.val (.slice 3 (.int .i64)), .val (.slice 3 (.int .i64))], rs := [.bool], own := true, dp := false, R := R, fn := fun x => m N x.1 x.2.1, res := fun r => (r, ()), out := fun r => ((), (), ()), shut := fun a b => a.1, res_shut := fun _ _ => rfl, out_shut := fun _ _ => rfl }
end laws_eqIntS
/-! ### laws_markIntS: loop.example/g00220/laws.markIntS -/
namespace laws_markIntS
abbrev R := Int × (List Int)
noncomputable def step2 (N : Nat) (a0 : List Int) (a1 : Int) (rec : (Int × Int × (List Int)) → Option R) : (Int × Int × (List Int)) → Option R
  | (v0, v1, v2) =>
    bif (decide (v1 < (v2.length : Int))) then
      bif (decide (0 ≤ v1)) then
      bif (decide (v1 < (v2.length : Int))) then
      rec ((w64 (v0 + (1:Int))), (w64 (v1 + (1:Int))), (v2.set (Int.toNat v1) v0))
      else none
      else none
    else
    some (v0, v2)
noncomputable def lp2 (N : Nat) (a0 : List Int) (a1 : Int) : (Int × Int × (List Int)) → Option R :=
  miter (fun rec => step2 N a0 a1 rec) N
noncomputable def m (N : Nat) (a0 : List Int) (a1 : Int) : Option R :=
  lp2 N a0 a1 (a1, (0:Int), a0)
@[reducible] noncomputable def sp (N : Nat) : Spec E := { ps := [.mut false (.slice 3 (.int .i64)), .val (.int .i64)], rs := [(.int .i64)], own := true, dp := false, R := R, fn := fun x => m N x.1 x.2.1, res := fun r => (r.1, ()), out := fun r => (r.2, (), ()), shut := fun a b => (a.1, b.1), res_shut := fun _ _ => rfl, out_shut := fun _ _ => rfl }
end laws_markIntS
/-! ### laws_heldIntS: loop.example/g00220/laws.heldIntS -/
namespace laws_heldIntS
abbrev R := Int
noncomputable def step2 (N : Nat) (a0 : List Int) (a1 : Int) (rec : (Int × Int) → Option R) : (Int × Int) → Option R
  | (v1, v2) =>
    bif (decide (v2 < (a0.length : Int))) then
      bif (decide (0 ≤ v2)) then
      bif (decide (v2 < (a0.length : Int))) then
      bif ((a0.getD (Int.toNat v2) (0:Int)) != v1) then
        some (-1:Int)
      else
      rec ((w64 (v1 + (1:Int))), (w64 (v2 + (1:Int))))
      else none
      else none
    else
    some v1
noncomputable def lp2 (N : Nat) (a0 : List Int) (a1 : Int) : (Int × Int) → Option R :=
  miter (fun rec => step2 N a0 a1 rec) N
noncomputable def m (N : Nat) (a0 : List Int) (a1 : Int) : Option R :=
  lp2 N a0 a1 (a1, (0:Int))
@[reducible] noncomputable def sp (N : Nat) : Spec E := { ps := [.val (.slice 3 (.int .i64)), .val (.int .i64)], rs := [(.int .i64)], own := true, dp := false, R := R, fn := fun x => m N x.1 x.2.1, res := fun r => (r, ()), out := fun r => ((), (), ()), shut := fun a b => a.1, res_shut := fun _ _ => rfl, out_shut := fun _ _ => rfl }
end laws_heldIntS
/-! ### laws_FnExactDigits: loop.example/g00220/laws.FnExactDigits -/
namespace laws_FnExactDigits
abbrev R := Bool
noncomputable def m (N : Nat) (a0 : ByteArray) : Option R :=
  bif (decide ((a0.size : Int) > (1048576:Int))) then
    some true
  else
  ob (spec_Digits.m N a0) fun y1 =>
  ob (impl_Digits.m N a0) fun y2 =>
  ob (laws_eqIntS.m N y2.1 y1.1) fun y3 =>
  bif (!y3) then
    some false
  else
  bif (bif false then true else (y2.2 != y1.2)) then
    some false
  else
  ob (laws_markIntS.m N y2.1 (1:Int)) fun y4 =>
  ob (laws_heldIntS.m N y4.2 (1:Int)) fun y5 =>
  bif (decide (y5 < (0:Int))) then
    some false
  else
  bif (y5 != y4.1) then
    some false
  else
  ob (impl_Digits.m N a0) fun y6 =>
  ob (laws_eqIntS.m N y6.1 y1.1) fun y7 =>
  bif (!y7) then
    some false
  else
  bif (bif false then true else (y6.2 != y1.2)) then
    some false
  else
  ob (laws_heldIntS.m N y4.2 (1:Int)) fun y8 =>
  bif (decide (y8 < (0:Int))) then
    some false
  else
  bif (y8 != y4.1) then
    some false
  else
  some true
@[reducible] noncomputable def sp (N : Nat) : Spec E := { ps := [.val .str], rs := [.bool], own := true, dp := false, R := R, fn := fun x => m N x.1, res := fun r => (r, ()), out := fun r => ((), ()), shut := fun a b => a.1, res_shut := fun _ _ => rfl, out_shut := fun _ _ => rfl }
end laws_FnExactDigits
/-! ### spec_l08Ends: loop.example/g00220/spec.l08Ends -/
namespace spec_l08Ends
abbrev R := ByteArray
noncomputable def step3 (N : Nat) (a0 : List ByteArray) (rec : (Int × (List Int)) → Option R) : (Int × (List Int)) → Option R
  | (v1, v2) =>
    bif (decide (v1 < (a0.length : Int))) then
      bif (decide (0 ≤ v1)) then
      bif (decide (v1 < (a0.length : Int))) then
      bif (room (v2.length + (bytesOf (a0.getD (Int.toNat v1) ByteArray.empty)).length) 1) then
      rec ((w64 (v1 + (1:Int))), (v2 ++ (bytesOf (a0.getD (Int.toNat v1) ByteArray.empty))))
      else none
      else none
      else none
    else
    ob (spec_l01Hash.m N v2) fun y1 =>
    some y1
noncomputable def lp3 (N : Nat) (a0 : List ByteArray) : (Int × (List Int)) → Option R :=
  miter (fun rec => step3 N a0 rec) N
noncomputable def m (N : Nat) (a0 : List ByteArray) : Option R :=
  lp3 N a0 ((0:Int), [(5:Int)])
@[reducible] noncomputable def sp (N : Nat) : Spec E := { ps := [.val (.slice 9 .str)], rs := [.str], own := true, dp := false, R := R, fn := fun x => m N x.1, res := fun r => (r, ()), out := fun r => ((), ()), shut := fun a b => a.1, res_shut := fun _ _ => rfl, out_shut := fun _ _ => rfl }
end spec_l08Ends
/-! ### spec_l08Leaf: loop.example/g00220/spec.l08Leaf -/
namespace spec_l08Leaf
abbrev R := ByteArray
noncomputable def step3 (N : Nat) (a0 : ByteArray) (a1 : Int) (rec : (Int × (List ByteArray)) → Option R) : (Int × (List ByteArray)) → Option R
  | (v2, v3) =>
    bif (decide (v2 < (18:Int))) then
      ob (spec_l08Secret.m N a0 a1 v2) fun y1 =>
      ob (spec_l08Chain.m N y1 (0:Int) (15:Int)) fun y2 =>
      bif (room (v3.length + ([y2]).length) 16) then
      rec ((w64 (v2 + (1:Int))), (v3 ++ [y2]))
      else none
    else
    ob (spec_l08Ends.m N v3) fun y3 =>
    some y3
noncomputable def lp3 (N : Nat) (a0 : ByteArray) (a1 : Int) : (Int × (List ByteArray)) → Option R :=
  miter (fun rec => step3 N a0 a1 rec) N
noncomputable def m (N : Nat) (a0 : ByteArray) (a1 : Int) : Option R :=
  lp3 N a0 a1 ((0:Int), ([] : List ByteArray))
@[reducible] noncomputable def sp (N : Nat) : Spec E := { ps := [.val .str, .val (.int .i64)], rs := [.str], own := true, dp := false, R := R, fn := fun x => m N x.1 x.2.1, res := fun r => (r, ()), out := fun r => ((), (), ()), shut := fun a b => a.1, res_shut := fun _ _ => rfl, out_shut := fun _ _ => rfl }
end spec_l08Leaf
/-! ### spec_LeafKey: loop.example/g00220/spec.LeafKey -/
namespace spec_LeafKey
abbrev R := ByteArray × Int
noncomputable def m (N : Nat) (a0 : ByteArray) (a1 : Int) : Option R :=
  bif (decide ((a0.size : Int) > (65536:Int))) then
    some (ByteArray.empty, (2:Int))
  else
  bif ((a0.size : Int) != (32:Int)) then
    some (ByteArray.empty, (1:Int))
  else
  ob (spec_l08Index.m N a1) fun y1 =>
  bif (!y1) then
    some (ByteArray.empty, (4:Int))
  else
  ob (spec_l08Leaf.m N a0 a1) fun y2 =>
  some (y2, (0:Int))
@[reducible] noncomputable def sp (N : Nat) : Spec E := { ps := [.val .str, .val (.int .i64)], rs := [.str, (.int .i64)], own := true, dp := false, R := R, fn := fun x => m N x.1 x.2.1, res := fun r => (r.1, r.2, ()), out := fun r => ((), (), ()), shut := fun a b => (a.1, a.2.1), res_shut := fun _ _ => rfl, out_shut := fun _ _ => rfl }
end spec_LeafKey
/-! ### impl_endsLeaf: loop.example/g00220/impl.endsLeaf -/
namespace impl_endsLeaf
abbrev R := ByteArray
noncomputable def step3 (N : Nat) (a0 : List ByteArray) (rec : (ByteArray × Int × Int) → Option R) : (ByteArray × Int × Int) → Option R
  | (v0, v2, v3) =>
    bif (decide (v3 < v2)) then
      bif (decide (0 ≤ v3)) then
      bif (decide (v3 < (a0.length : Int))) then
      bif (decide (v0.size + (a0.getD (Int.toNat v3) ByteArray.empty).size ≤ 9223372036854775807)) then
      rec ((v0 ++ (a0.getD (Int.toNat v3) ByteArray.empty)), v2, (w64 (v3 + (1:Int))))
      else none
      else none
      else none
    else
    ob (impl_hash.m N v0) fun y1 =>
    some y1
noncomputable def lp3 (N : Nat) (a0 : List ByteArray) : (ByteArray × Int × Int) → Option R :=
  miter (fun rec => step3 N a0 rec) N
noncomputable def m (N : Nat) (a0 : List ByteArray) : Option R :=
  lp3 N a0 ((⟨#[5]⟩ : ByteArray), (a0.length : Int), (0:Int))
@[reducible] noncomputable def sp (N : Nat) : Spec E := { ps := [.val (.slice 9 .str)], rs := [.str], own := true, dp := false, R := R, fn := fun x => m N x.1, res := fun r => (r, ()), out := fun r => ((), ()), shut := fun a b => a.1, res_shut := fun _ _ => rfl, out_shut := fun _ _ => rfl }
end impl_endsLeaf
/-! ### impl_leafKey: loop.example/g00220/impl.leafKey -/
namespace impl_leafKey
abbrev R := ByteArray
noncomputable def step3 (N : Nat) (a0 : ByteArray) (a1 : Int) (rec : (Int × (List ByteArray)) → Option R) : (Int × (List ByteArray)) → Option R
  | (v2, v3) =>
    bif (decide (v2 < (18:Int))) then
      ob (impl_secretPart.m N a0 a1 v2) fun y1 =>
      ob (impl_chain.m N y1 (0:Int) (15:Int)) fun y2 =>
      bif (room (v3.length + ([y2]).length) 16) then
      rec ((w64 (v2 + (1:Int))), (v3 ++ [y2]))
      else none
    else
    ob (impl_endsLeaf.m N v3) fun y3 =>
    some y3
noncomputable def lp3 (N : Nat) (a0 : ByteArray) (a1 : Int) : (Int × (List ByteArray)) → Option R :=
  miter (fun rec => step3 N a0 a1 rec) N
noncomputable def m (N : Nat) (a0 : ByteArray) (a1 : Int) : Option R :=
  lp3 N a0 a1 ((0:Int), ([] : List ByteArray))
@[reducible] noncomputable def sp (N : Nat) : Spec E := { ps := [.val .str, .val (.int .i64)], rs := [.str], own := true, dp := false, R := R, fn := fun x => m N x.1 x.2.1, res := fun r => (r, ()), out := fun r => ((), (), ()), shut := fun a b => a.1, res_shut := fun _ _ => rfl, out_shut := fun _ _ => rfl }
end impl_leafKey
/-! ### impl_LeafKey: loop.example/g00220/impl.LeafKey -/
namespace impl_LeafKey
abbrev R := ByteArray × Int
noncomputable def m (N : Nat) (a0 : ByteArray) (a1 : Int) : Option R :=
  ob (impl_seedCode.m N a0 a1) fun y1 =>
  bif (y1 != (0:Int)) then
    some (ByteArray.empty, y1)
  else
  ob (impl_leafKey.m N a0 a1) fun y2 =>
  some (y2, (0:Int))
@[reducible] noncomputable def sp (N : Nat) : Spec E := { ps := [.val .str, .val (.int .i64)], rs := [.str, (.int .i64)], own := true, dp := false, R := R, fn := fun x => m N x.1 x.2.1, res := fun r => (r.1, r.2, ()), out := fun r => ((), (), ()), shut := fun a b => (a.1, a.2.1), res_shut := fun _ _ => rfl, out_shut := fun _ _ => rfl }
end impl_LeafKey
/-! ### laws_FnExactLeafKey: loop.example/g00220/laws.FnExactLeafKey -/
namespace laws_FnExactLeafKey
abbrev R := Bool
noncomputable def m (N : Nat) (a0 : ByteArray) (a1 : Int) : Option R :=
  bif (decide ((a0.size : Int) > (1048576:Int))) then
    some true
  else
  ob (spec_LeafKey.m N a0 a1) fun y1 =>
  ob (impl_LeafKey.m N a0 a1) fun y2 =>
  bif (!seq y2.1 y1.1) then
    some false
  else
  bif (bif false then true else (y2.2 != y1.2)) then
    some false
  else
  some true
@[reducible] noncomputable def sp (N : Nat) : Spec E := { ps := [.val .str, .val (.int .i64)], rs := [.bool], own := true, dp := false, R := R, fn := fun x => m N x.1 x.2.1, res := fun r => (r, ()), out := fun r => ((), (), ()), shut := fun a b => a.1, res_shut := fun _ _ => rfl, out_shut := fun _ _ => rfl }
end laws_FnExactLeafKey
/-! ### spec_l08Leaves: loop.example/g00220/spec.l08Leaves -/
namespace spec_l08Leaves
abbrev R := (List ByteArray)
noncomputable def step3 (N : Nat) (a0 : ByteArray) (rec : (Int × (List ByteArray)) → Option R) : (Int × (List ByteArray)) → Option R
  | (v1, v2) =>
    bif (decide (v1 < (4:Int))) then
      ob (spec_l08Leaf.m N a0 v1) fun y1 =>
      bif (room (v2.length + ([y1]).length) 16) then
      rec ((w64 (v1 + (1:Int))), (v2 ++ [y1]))
      else none
    else
    some v2
noncomputable def lp3 (N : Nat) (a0 : ByteArray) : (Int × (List ByteArray)) → Option R :=
  miter (fun rec => step3 N a0 rec) N
noncomputable def m (N : Nat) (a0 : ByteArray) : Option R :=
  lp3 N a0 ((0:Int), ([] : List ByteArray))
@[reducible] noncomputable def sp (N : Nat) : Spec E := { ps := [.val .str], rs := [(.slice 9 .str)], own := true, dp := false, R := R, fn := fun x => m N x.1, res := fun r => (r, ()), out := fun r => ((), ()), shut := fun a b => a.1, res_shut := fun _ _ => rfl, out_shut := fun _ _ => rfl }
end spec_l08Leaves
/-! ### spec_l06Half: loop.example/g00220/spec.l06Half -/
namespace spec_l06Half
abbrev R := Int
noncomputable def step2 (N : Nat) (a0 : Int) (rec : Int → Option R) : Int → Option R
  | v1 =>
    bif (decide ((w64 ((2:Int) * v1)) < a0)) then
      rec (w64 (v1 * (2:Int)))
    else
    some v1
noncomputable def lp2 (N : Nat) (a0 : Int) : Int → Option R :=
  miter (fun rec => step2 N a0 rec) N
noncomputable def m (N : Nat) (a0 : Int) : Option R :=
  lp2 N a0 (1:Int)
@[reducible] noncomputable def sp (N : Nat) : Spec E := { ps := [.val (.int .i64)], rs := [(.int .i64)], own := true, dp := false, R := R, fn := fun x => m N x.1, res := fun r => (r, ()), out := fun r => ((), ()), shut := fun a b => a.1, res_shut := fun _ _ => rfl, out_shut := fun _ _ => rfl }
end spec_l06Half
/-! ### spec_l06Node: loop.example/g00220/spec.l06Node -/
namespace spec_l06Node
abbrev R := ByteArray
noncomputable def m (N : Nat) (a0 : ByteArray) (a1 : ByteArray) : Option R :=
  bif (room (([(1:Int)]).length + (bytesOf a0).length) 1) then
  bif (room (([(1:Int)] ++ (bytesOf a0)).length + (bytesOf a1).length) 1) then
  ob (spec_l01Hash.m N (([(1:Int)] ++ (bytesOf a0)) ++ (bytesOf a1))) fun y1 =>
  some y1
  else none
  else none
@[reducible] noncomputable def sp (N : Nat) : Spec E := { ps := [.val .str, .val .str], rs := [.str], own := true, dp := false, R := R, fn := fun x => m N x.1 x.2.1, res := fun r => (r, ()), out := fun r => ((), (), ()), shut := fun a b => a.1, res_shut := fun _ _ => rfl, out_shut := fun _ _ => rfl }
end spec_l06Node
/-! ### spec_l06Tree: loop.example/g00220/spec.l06Tree -/
namespace spec_l06Tree
abbrev R := ByteArray
noncomputable def mb (N : Nat) (slf : (List ByteArray) → Option R) (a0 : List ByteArray) : Option R :=
  bif ((a0.length : Int) == (0:Int)) then
    ob (spec_l01Hash.m N ([] : List Int)) fun y1 =>
    some y1
  else
  bif ((a0.length : Int) == (1:Int)) then
    bif (decide (0 ≤ (0:Int))) then
    bif (decide ((0:Int) < (a0.length : Int))) then
    some (a0.getD 0 ByteArray.empty)
    else none
    else none
  else
  ob (spec_l06Half.m N (a0.length : Int)) fun y2 =>
  bif (decide (0 ≤ y2)) then
  bif (decide (y2 ≤ ((a0.length : Nat) : Int))) then
  ob (slf (a0.take (Int.toNat y2))) fun y3 =>
  bif (decide (0 ≤ y2)) then
  bif (decide (y2 ≤ ((a0.length : Nat) : Int))) then
  ob (slf (a0.drop (Int.toNat y2))) fun y4 =>
  ob (spec_l06Node.m N y3 y4) fun y5 =>
  some y5
  else none
  else none
  else none
  else none
noncomputable def mF (N : Nat) : Nat → (List ByteArray) → Option R
  | 0 => fun _ => none
  | n + 1 => fun a0 => mb N (mF N n) a0
noncomputable def m (N : Nat) : (List ByteArray) → Option R := mF N N
@[reducible] noncomputable def spf (f : (List ByteArray) → Option R) : Spec E := { ps := [.val (.slice 9 .str)], rs := [.str], own := true, dp := false, R := R, fn := fun x => f x.1, res := fun r => (r, ()), out := fun r => ((), ()), shut := fun a b => a.1, res_shut := fun _ _ => rfl, out_shut := fun _ _ => rfl }
@[reducible] noncomputable def sp (N : Nat) : Spec E := spf (m N)
end spec_l06Tree
/-! ### spec_PublicRoot: loop.example/g00220/spec.PublicRoot -/
namespace spec_PublicRoot
abbrev R := ByteArray × Int
noncomputable def m (N : Nat) (a0 : ByteArray) : Option R :=
  bif (decide ((a0.size : Int) > (65536:Int))) then
    some (ByteArray.empty, (2:Int))
  else
  bif ((a0.size : Int) != (32:Int)) then
    some (ByteArray.empty, (1:Int))
  else
  ob (spec_l08Leaves.m N a0) fun y1 =>
  ob (spec_l06Tree.m N y1) fun y2 =>
  some (y2, (0:Int))
@[reducible] noncomputable def sp (N : Nat) : Spec E := { ps := [.val .str], rs := [.str, (.int .i64)], own := true, dp := false, R := R, fn := fun x => m N x.1, res := fun r => (r.1, r.2, ()), out := fun r => ((), ()), shut := fun a b => (a.1, a.2.1), res_shut := fun _ _ => rfl, out_shut := fun _ _ => rfl }
end spec_PublicRoot
/-! ### impl_keyLeaves: loop.example/g00220/impl.keyLeaves -/
namespace impl_keyLeaves
abbrev R := (List ByteArray)
noncomputable def step3 (N : Nat) (a0 : ByteArray) (rec : (Int × (List ByteArray)) → Option R) : (Int × (List ByteArray)) → Option R
  | (v1, v2) =>
    bif (decide (v1 < (4:Int))) then
      ob (impl_leafKey.m N a0 v1) fun y1 =>
      bif (room (v2.length + ([y1]).length) 16) then
      rec ((w64 (v1 + (1:Int))), (v2 ++ [y1]))
      else none
    else
    some v2
noncomputable def lp3 (N : Nat) (a0 : ByteArray) : (Int × (List ByteArray)) → Option R :=
  miter (fun rec => step3 N a0 rec) N
noncomputable def m (N : Nat) (a0 : ByteArray) : Option R :=
  lp3 N a0 ((0:Int), ([] : List ByteArray))
@[reducible] noncomputable def sp (N : Nat) : Spec E := { ps := [.val .str], rs := [(.slice 9 .str)], own := true, dp := false, R := R, fn := fun x => m N x.1, res := fun r => (r, ()), out := fun r => ((), ()), shut := fun a b => a.1, res_shut := fun _ _ => rfl, out_shut := fun _ _ => rfl }
end impl_keyLeaves
/-! ### impl_split: loop.example/g00220/impl.split -/
namespace impl_split
abbrev R := Int
noncomputable def step2 (N : Nat) (a0 : Int) (rec : Int → Option R) : Int → Option R
  | v1 =>
    bif (decide ((w64 ((2:Int) * v1)) < a0)) then
      rec (w64 (v1 * (2:Int)))
    else
    some v1
noncomputable def lp2 (N : Nat) (a0 : Int) : Int → Option R :=
  miter (fun rec => step2 N a0 rec) N
noncomputable def m (N : Nat) (a0 : Int) : Option R :=
  lp2 N a0 (1:Int)
@[reducible] noncomputable def sp (N : Nat) : Spec E := { ps := [.val (.int .i64)], rs := [(.int .i64)], own := true, dp := false, R := R, fn := fun x => m N x.1, res := fun r => (r, ()), out := fun r => ((), ()), shut := fun a b => a.1, res_shut := fun _ _ => rfl, out_shut := fun _ _ => rfl }
end impl_split
/-! ### impl_nodeHash: loop.example/g00220/impl.nodeHash -/
namespace impl_nodeHash
abbrev R := ByteArray
noncomputable def m (N : Nat) (a0 : ByteArray) (a1 : ByteArray) : Option R :=
  bif (decide ((⟨#[1]⟩ : ByteArray).size + a0.size ≤ 9223372036854775807)) then
  bif (decide (((⟨#[1]⟩ : ByteArray) ++ a0).size + a1.size ≤ 9223372036854775807)) then
  ob (impl_hash.m N (((⟨#[1]⟩ : ByteArray) ++ a0) ++ a1)) fun y1 =>
  some y1
  else none
  else none
@[reducible] noncomputable def sp (N : Nat) : Spec E := { ps := [.val .str, .val .str], rs := [.str], own := true, dp := false, R := R, fn := fun x => m N x.1 x.2.1, res := fun r => (r, ()), out := fun r => ((), (), ()), shut := fun a b => a.1, res_shut := fun _ _ => rfl, out_shut := fun _ _ => rfl }
end impl_nodeHash
/-! ### impl_treeHash: loop.example/g00220/impl.treeHash -/
namespace impl_treeHash
abbrev R := ByteArray
noncomputable def mb (N : Nat) (slf : (List ByteArray) → Option R) (a0 : List ByteArray) : Option R :=
  bif ((a0.length : Int) == (0:Int)) then
    ob (impl_hash.m N ByteArray.empty) fun y1 =>
    some y1
  else
  bif ((a0.length : Int) == (1:Int)) then
    bif (decide (0 ≤ (0:Int))) then
    bif (decide ((0:Int) < (a0.length : Int))) then
    some (a0.getD 0 ByteArray.empty)
    else none
    else none
  else
  ob (impl_split.m N (a0.length : Int)) fun y2 =>
  bif (decide (0 ≤ y2)) then
  bif (decide (y2 ≤ ((a0.length : Nat) : Int))) then
  ob (slf (a0.take (Int.toNat y2))) fun y3 =>
  bif (decide (0 ≤ y2)) then
  bif (decide (y2 ≤ ((a0.length : Nat) : Int))) then
  ob (slf (a0.drop (Int.toNat y2))) fun y4 =>
  ob (impl_nodeHash.m N y3 y4) fun y5 =>
  some y5
  else none
  else none
  else none
  else none
noncomputable def mF (N : Nat) : Nat → (List ByteArray) → Option R
  | 0 => fun _ => none
  | n + 1 => fun a0 => mb N (mF N n) a0
noncomputable def m (N : Nat) : (List ByteArray) → Option R := mF N N
@[reducible] noncomputable def spf (f : (List ByteArray) → Option R) : Spec E := { ps := [.val (.slice 9 .str)], rs := [.str], own := true, dp := false, R := R, fn := fun x => f x.1, res := fun r => (r, ()), out := fun r => ((), ()), shut := fun a b => a.1, res_shut := fun _ _ => rfl, out_shut := fun _ _ => rfl }
@[reducible] noncomputable def sp (N : Nat) : Spec E := spf (m N)
end impl_treeHash
/-! ### impl_PublicRoot: loop.example/g00220/impl.PublicRoot -/
namespace impl_PublicRoot
abbrev R := ByteArray × Int
noncomputable def m (N : Nat) (a0 : ByteArray) : Option R :=
  ob (impl_seedCode.m N a0 (0:Int)) fun y1 =>
  bif (y1 != (0:Int)) then
    some (ByteArray.empty, y1)
  else
  ob (impl_keyLeaves.m N a0) fun y2 =>
  ob (impl_treeHash.m N y2) fun y3 =>
  some (y3, (0:Int))
@[reducible] noncomputable def sp (N : Nat) : Spec E := { ps := [.val .str], rs := [.str, (.int .i64)], own := true, dp := false, R := R, fn := fun x => m N x.1, res := fun r => (r.1, r.2, ()), out := fun r => ((), ()), shut := fun a b => (a.1, a.2.1), res_shut := fun _ _ => rfl, out_shut := fun _ _ => rfl }
end impl_PublicRoot
/-! ### laws_FnExactPublicRoot: loop.example/g00220/laws.FnExactPublicRoot -/
namespace laws_FnExactPublicRoot
abbrev R := Bool
noncomputable def m (N : Nat) (a0 : ByteArray) : Option R :=
  bif (decide ((a0.size : Int) > (1048576:Int))) then
    some true
  else
  ob (spec_PublicRoot.m N a0) fun y1 =>
  ob (impl_PublicRoot.m N a0) fun y2 =>
  bif (!seq y2.1 y1.1) then
    some false
  else
  bif (bif false then true else (y2.2 != y1.2)) then
    some false
  else
  some true
@[reducible] noncomputable def sp (N : Nat) : Spec E := { ps := [.val .str], rs := [.bool], own := true, dp := false, R := R, fn := fun x => m N x.1, res := fun r => (r, ()), out := fun r => ((), ()), shut := fun a b => a.1, res_shut := fun _ _ => rfl, out_shut := fun _ _ => rfl }
end laws_FnExactPublicRoot
end Mir.Y
