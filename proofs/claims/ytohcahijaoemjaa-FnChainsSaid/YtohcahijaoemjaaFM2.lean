/- Models of functions. -/
import Derived.Test.YtohcahijaoemjaaFM1
namespace Mir.Y
set_option linter.unusedVariables false
set_option maxRecDepth 10000
open Go Go.Proofs Mir
/-! ### impl_secretPart: loop.example/g00220/impl.secretPart -/
namespace impl_secretPart
abbrev R := ByteArray
noncomputable def m (N : Nat) (a0 : ByteArray) (a1 : Int) (a2 : Int) : Option R :=
  ob (impl_number.m N a1 (1:Int)) fun y1 =>
  bif (decide ((⟨#[4]⟩ : ByteArray).size + y1.size ≤ 9223372036854775807)) then
  ob (impl_number.m N a2 (1:Int)) fun y2 =>
  bif (decide (((⟨#[4]⟩ : ByteArray) ++ y1).size + y2.size ≤ 9223372036854775807)) then
  bif (decide ((((⟨#[4]⟩ : ByteArray) ++ y1) ++ y2).size + a0.size ≤ 9223372036854775807)) then
  ob (impl_hash.m N ((((⟨#[4]⟩ : ByteArray) ++ y1) ++ y2) ++ a0)) fun y3 =>
  some y3
  else none
  else none
  else none
@[reducible] noncomputable def sp (N : Nat) : Spec E := { ps := [.val .str, .val (.int .i64), .val (.int .i64)], rs := [.str], own := true, dp := false, R := R, fn := fun x => m N x.1 x.2.1 x.2.2.1, res := fun r => (r, ()), out := fun r => ((), (), (), ()), shut := fun a b => a.1, res_shut := fun _ _ => rfl, out_shut := fun _ _ => rfl }
end impl_secretPart
/-! ### impl_SecretPart: loop.example/g00220/impl.SecretPart -/
namespace impl_SecretPart
abbrev R := ByteArray × Int
noncomputable def m (N : Nat) (a0 : ByteArray) (a1 : Int) (a2 : Int) : Option R :=
  ob (impl_seedCode.m N a0 a1) fun y1 =>
  bif (y1 != (0:Int)) then
    some (ByteArray.empty, y1)
  else
  ob (impl_within.m N a2 (0:Int) (17:Int)) fun y2 =>
  bif (!y2) then
    some (ByteArray.empty, (4:Int))
  else
  ob (impl_secretPart.m N a0 a1 a2) fun y3 =>
  some (y3, (0:Int))
@[reducible] noncomputable def sp (N : Nat) : Spec E := { ps := [.val .str, .val (.int .i64), .val (.int .i64)], rs := [.str, (.int .i64)], own := true, dp := false, R := R, fn := fun x => m N x.1 x.2.1 x.2.2.1, res := fun r => (r.1, r.2, ()), out := fun r => ((), (), (), ()), shut := fun a b => (a.1, a.2.1), res_shut := fun _ _ => rfl, out_shut := fun _ _ => rfl }
end impl_SecretPart
/-! ### impl_chain: loop.example/g00220/impl.chain -/
namespace impl_chain
abbrev R := ByteArray
noncomputable def step2 (N : Nat) (a0 : ByteArray) (a1 : Int) (a2 : Int) (rec : (ByteArray × Int) → Option R) : (ByteArray × Int) → Option R
  | (v0, v3) =>
    bif (decide (v3 < (w64 (a1 + a2)))) then
      ob (impl_number.m N v3 (1:Int)) fun y1 =>
      bif (decide ((⟨#[3]⟩ : ByteArray).size + y1.size ≤ 9223372036854775807)) then
      bif (decide (((⟨#[3]⟩ : ByteArray) ++ y1).size + v0.size ≤ 9223372036854775807)) then
      ob (impl_hash.m N (((⟨#[3]⟩ : ByteArray) ++ y1) ++ v0)) fun y2 =>
      rec (y2, (w64 (v3 + (1:Int))))
      else none
      else none
    else
    some v0
noncomputable def lp2 (N : Nat) (a0 : ByteArray) (a1 : Int) (a2 : Int) : (ByteArray × Int) → Option R :=
  miter (fun rec => step2 N a0 a1 a2 rec) N
noncomputable def m (N : Nat) (a0 : ByteArray) (a1 : Int) (a2 : Int) : Option R :=
  lp2 N a0 a1 a2 (a0, a1)
@[reducible] noncomputable def sp (N : Nat) : Spec E := { ps := [.val .str, .val (.int .i64), .val (.int .i64)], rs := [.str], own := true, dp := false, R := R, fn := fun x => m N x.1 x.2.1 x.2.2.1, res := fun r => (r, ()), out := fun r => ((), (), (), ()), shut := fun a b => a.1, res_shut := fun _ _ => rfl, out_shut := fun _ _ => rfl }
end impl_chain
/-! ### impl_Chain: loop.example/g00220/impl.Chain -/
namespace impl_Chain
abbrev R := ByteArray × Int
noncomputable def m (N : Nat) (a0 : ByteArray) (a1 : Int) (a2 : Int) : Option R :=
  ob (impl_isText.m N ([a0])) fun y1 =>
  bif (!y1) then
    some (ByteArray.empty, (2:Int))
  else
  ob (impl_isHash.m N ([a0])) fun y2 =>
  bif (!y2) then
    some (ByteArray.empty, (1:Int))
  else
  ob (impl_within.m N a1 (0:Int) (15:Int)) fun y3 =>
  bif (!y3) then
    some (ByteArray.empty, (4:Int))
  else
  ob (impl_within.m N a2 (0:Int) (w64 ((15:Int) - a1))) fun y4 =>
  bif (bif false then true else (!y4)) then
    some (ByteArray.empty, (4:Int))
  else
  ob (impl_chain.m N a0 a1 a2) fun y5 =>
  some (y5, (0:Int))
@[reducible] noncomputable def sp (N : Nat) : Spec E := { ps := [.val .str, .val (.int .i64), .val (.int .i64)], rs := [.str, (.int .i64)], own := true, dp := false, R := R, fn := fun x => m N x.1 x.2.1 x.2.2.1, res := fun r => (r.1, r.2, ()), out := fun r => ((), (), (), ()), shut := fun a b => (a.1, a.2.1), res_shut := fun _ _ => rfl, out_shut := fun _ _ => rfl }
end impl_Chain
/-! ### impl_endsLeaf: loop.example/g00220/impl.endsLeaf -/
namespace impl_endsLeaf
abbrev R := ByteArray
noncomputable def step3 (N : Nat) (a0 : List ByteArray) (rec : (ByteArray × Int × Int) → Option R) : (ByteArray × Int × Int) → Option R
  | (v0, v2, v3) =>
    bif (decide (v3 < v2)) then
      bif (decide (0 ≤ v3)) then
      bif (decide (v3 < (a0.length : Int))) then
      bif (decide (v0.size + (a0.getD (Int.toNat v3) ByteArray.empty).size ≤ 9223372036854775807)) then
      rec ((v0 ++ (a0.getD (Int.toNat v3) ByteArray.empty)), v2, (w64 (v3 + (1:Int))))
      else none
      else none
      else none
    else
    ob (impl_hash.m N v0) fun y1 =>
    some y1
noncomputable def lp3 (N : Nat) (a0 : List ByteArray) : (ByteArray × Int × Int) → Option R :=
  miter (fun rec => step3 N a0 rec) N
noncomputable def m (N : Nat) (a0 : List ByteArray) : Option R :=
  lp3 N a0 ((⟨#[5]⟩ : ByteArray), (a0.length : Int), (0:Int))
@[reducible] noncomputable def sp (N : Nat) : Spec E := { ps := [.val (.slice 9 .str)], rs := [.str], own := true, dp := false, R := R, fn := fun x => m N x.1, res := fun r => (r, ()), out := fun r => ((), ()), shut := fun a b => a.1, res_shut := fun _ _ => rfl, out_shut := fun _ _ => rfl }
end impl_endsLeaf
/-! ### impl_leafKey: loop.example/g00220/impl.leafKey -/
namespace impl_leafKey
abbrev R := ByteArray
noncomputable def step3 (N : Nat) (a0 : ByteArray) (a1 : Int) (rec : (Int × (List ByteArray)) → Option R) : (Int × (List ByteArray)) → Option R
  | (v2, v3) =>
    bif (decide (v2 < (18:Int))) then
      ob (impl_secretPart.m N a0 a1 v2) fun y1 =>
      ob (impl_chain.m N y1 (0:Int) (15:Int)) fun y2 =>
      bif (room (v3.length + ([y2]).length) 16) then
      rec ((w64 (v2 + (1:Int))), (v3 ++ [y2]))
      else none
    else
    ob (impl_endsLeaf.m N v3) fun y3 =>
    some y3
noncomputable def lp3 (N : Nat) (a0 : ByteArray) (a1 : Int) : (Int × (List ByteArray)) → Option R :=
  miter (fun rec => step3 N a0 a1 rec) N
noncomputable def m (N : Nat) (a0 : ByteArray) (a1 : Int) : Option R :=
  lp3 N a0 a1 ((0:Int), ([] : List ByteArray))
@[reducible] noncomputable def sp (N : Nat) : Spec E := { ps := [.val .str, .val (.int .i64)], rs := [.str], own := true, dp := false, R := R, fn := fun x => m N x.1 x.2.1, res := fun r => (r, ()), out := fun r => ((), (), ()), shut := fun a b => a.1, res_shut := fun _ _ => rfl, out_shut := fun _ _ => rfl }
end impl_leafKey
/-! ### impl_LeafKey: loop.example/g00220/impl.LeafKey -/
namespace impl_LeafKey
abbrev R := ByteArray × Int
noncomputable def m (N : Nat) (a0 : ByteArray) (a1 : Int) : Option R :=
  ob (impl_seedCode.m N a0 a1) fun y1 =>
  bif (y1 != (0:Int)) then
    some (ByteArray.empty, y1)
  else
  ob (impl_leafKey.m N a0 a1) fun y2 =>
  some (y2, (0:Int))
@[reducible] noncomputable def sp (N : Nat) : Spec E := { ps := [.val .str, .val (.int .i64)], rs := [.str, (.int .i64)], own := true, dp := false, R := R, fn := fun x => m N x.1 x.2.1, res := fun r => (r.1, r.2, ()), out := fun r => ((), (), ()), shut := fun a b => (a.1, a.2.1), res_shut := fun _ _ => rfl, out_shut := fun _ _ => rfl }
end impl_LeafKey
/-! ### spec_l01In: loop.example/g00220/spec.l01In -/
namespace spec_l01In
abbrev R := Bool
noncomputable def m (N : Nat) (a0 : Int) (a1 : Int) (a2 : Int) : Option R :=
  bif (decide (a0 ≥ a1)) then
    some (bif true then (decide (a0 ≤ a2)) else false)
  else
  some false
@[reducible] noncomputable def sp (N : Nat) : Spec E := { ps := [.val (.int .i64), .val (.int .i64), .val (.int .i64)], rs := [.bool], own := true, dp := false, R := R, fn := fun x => m N x.1 x.2.1 x.2.2.1, res := fun r => (r, ()), out := fun r => ((), (), (), ()), shut := fun a b => a.1, res_shut := fun _ _ => rfl, out_shut := fun _ _ => rfl }
end spec_l01In
/-! ### spec_l08Index: loop.example/g00220/spec.l08Index -/
namespace spec_l08Index
abbrev R := Bool
noncomputable def m (N : Nat) (a0 : Int) : Option R :=
  ob (spec_l01In.m N a0 (0:Int) (3:Int)) fun y1 =>
  some y1
@[reducible] noncomputable def sp (N : Nat) : Spec E := { ps := [.val (.int .i64)], rs := [.bool], own := true, dp := false, R := R, fn := fun x => m N x.1, res := fun r => (r, ()), out := fun r => ((), ()), shut := fun a b => a.1, res_shut := fun _ _ => rfl, out_shut := fun _ _ => rfl }
end spec_l08Index
/-! ### spec_l08Secret: loop.example/g00220/spec.l08Secret -/
namespace spec_l08Secret
abbrev R := ByteArray
noncomputable def m (N : Nat) (a0 : ByteArray) (a1 : Int) (a2 : Int) : Option R :=
  bif (room (([(4:Int), (wu8 a1), (wu8 a2)]).length + (bytesOf a0).length) 1) then
  ob (spec_l01Hash.m N ([(4:Int), (wu8 a1), (wu8 a2)] ++ (bytesOf a0))) fun y1 =>
  some y1
  else none
@[reducible] noncomputable def sp (N : Nat) : Spec E := { ps := [.val .str, .val (.int .i64), .val (.int .i64)], rs := [.str], own := true, dp := false, R := R, fn := fun x => m N x.1 x.2.1 x.2.2.1, res := fun r => (r, ()), out := fun r => ((), (), (), ()), shut := fun a b => a.1, res_shut := fun _ _ => rfl, out_shut := fun _ _ => rfl }
end spec_l08Secret
/-! ### spec_l08Chain: loop.example/g00220/spec.l08Chain -/
namespace spec_l08Chain
abbrev R := ByteArray
noncomputable def step2 (N : Nat) (a0 : ByteArray) (a1 : Int) (a2 : Int) (rec : (ByteArray × Int) → Option R) : (ByteArray × Int) → Option R
  | (v0, v3) =>
    bif (decide (v3 < a2)) then
      bif (room (([(3:Int), (wu8 (w64 (a1 + v3)))]).length + (bytesOf v0).length) 1) then
      ob (spec_l01Hash.m N ([(3:Int), (wu8 (w64 (a1 + v3)))] ++ (bytesOf v0))) fun y1 =>
      rec (y1, (w64 (v3 + (1:Int))))
      else none
    else
    some v0
noncomputable def lp2 (N : Nat) (a0 : ByteArray) (a1 : Int) (a2 : Int) : (ByteArray × Int) → Option R :=
  miter (fun rec => step2 N a0 a1 a2 rec) N
noncomputable def m (N : Nat) (a0 : ByteArray) (a1 : Int) (a2 : Int) : Option R :=
  lp2 N a0 a1 a2 (a0, (0:Int))
@[reducible] noncomputable def sp (N : Nat) : Spec E := { ps := [.val .str, .val (.int .i64), .val (.int .i64)], rs := [.str], own := true, dp := false, R := R, fn := fun x => m N x.1 x.2.1 x.2.2.1, res := fun r => (r, ()), out := fun r => ((), (), (), ()), shut := fun a b => a.1, res_shut := fun _ _ => rfl, out_shut := fun _ _ => rfl }
end spec_l08Chain
/-! ### spec_l08Ends: loop.example/g00220/spec.l08Ends -/
namespace spec_l08Ends
abbrev R := ByteArray
noncomputable def step3 (N : Nat) (a0 : List ByteArray) (rec : (Int × (List Int)) → Option R) : (Int × (List Int)) → Option R
  | (v1, v2) =>
    bif (decide (v1 < (a0.length : Int))) then
      bif (decide (0 ≤ v1)) then
      bif (decide (v1 < (a0.length : Int))) then
      bif (room (v2.length + (bytesOf (a0.getD (Int.toNat v1) ByteArray.empty)).length) 1) then
      rec ((w64 (v1 + (1:Int))), (v2 ++ (bytesOf (a0.getD (Int.toNat v1) ByteArray.empty))))
      else none
      else none
      else none
    else
    ob (spec_l01Hash.m N v2) fun y1 =>
    some y1
noncomputable def lp3 (N : Nat) (a0 : List ByteArray) : (Int × (List Int)) → Option R :=
  miter (fun rec => step3 N a0 rec) N
noncomputable def m (N : Nat) (a0 : List ByteArray) : Option R :=
  lp3 N a0 ((0:Int), [(5:Int)])
@[reducible] noncomputable def sp (N : Nat) : Spec E := { ps := [.val (.slice 9 .str)], rs := [.str], own := true, dp := false, R := R, fn := fun x => m N x.1, res := fun r => (r, ()), out := fun r => ((), ()), shut := fun a b => a.1, res_shut := fun _ _ => rfl, out_shut := fun _ _ => rfl }
end spec_l08Ends
/-! ### spec_l08Leaf: loop.example/g00220/spec.l08Leaf -/
namespace spec_l08Leaf
abbrev R := ByteArray
noncomputable def step3 (N : Nat) (a0 : ByteArray) (a1 : Int) (rec : (Int × (List ByteArray)) → Option R) : (Int × (List ByteArray)) → Option R
  | (v2, v3) =>
    bif (decide (v2 < (18:Int))) then
      ob (spec_l08Secret.m N a0 a1 v2) fun y1 =>
      ob (spec_l08Chain.m N y1 (0:Int) (15:Int)) fun y2 =>
      bif (room (v3.length + ([y2]).length) 16) then
      rec ((w64 (v2 + (1:Int))), (v3 ++ [y2]))
      else none
    else
    ob (spec_l08Ends.m N v3) fun y3 =>
    some y3
noncomputable def lp3 (N : Nat) (a0 : ByteArray) (a1 : Int) : (Int × (List ByteArray)) → Option R :=
  miter (fun rec => step3 N a0 a1 rec) N
noncomputable def m (N : Nat) (a0 : ByteArray) (a1 : Int) : Option R :=
  lp3 N a0 a1 ((0:Int), ([] : List ByteArray))
@[reducible] noncomputable def sp (N : Nat) : Spec E := { ps := [.val .str, .val (.int .i64)], rs := [.str], own := true, dp := false, R := R, fn := fun x => m N x.1 x.2.1, res := fun r => (r, ()), out := fun r => ((), (), ()), shut := fun a b => a.1, res_shut := fun _ _ => rfl, out_shut := fun _ _ => rfl }
end spec_l08Leaf
/-! ### spec_LeafKey: loop.example/g00220/spec.LeafKey -/
namespace spec_LeafKey
abbrev R := ByteArray × Int
noncomputable def m (N : Nat) (a0 : ByteArray) (a1 : Int) : Option R :=
  bif (decide ((a0.size : Int) > (65536:Int))) then
    some (ByteArray.empty, (2:Int))
  else
  bif ((a0.size : Int) != (32:Int)) then
    some (ByteArray.empty, (1:Int))
  else
  ob (spec_l08Index.m N a1) fun y1 =>
  bif (!y1) then
    some (ByteArray.empty, (4:Int))
  else
  ob (spec_l08Leaf.m N a0 a1) fun y2 =>
  some (y2, (0:Int))
@[reducible] noncomputable def sp (N : Nat) : Spec E := { ps := [.val .str, .val (.int .i64)], rs := [.str, (.int .i64)], own := true, dp := false, R := R, fn := fun x => m N x.1 x.2.1, res := fun r => (r.1, r.2, ()), out := fun r => ((), (), ()), shut := fun a b => (a.1, a.2.1), res_shut := fun _ _ => rfl, out_shut := fun _ _ => rfl }
end spec_LeafKey
/-! ### laws_FnChains: loop.example/g00220/laws.FnChains -/
namespace laws_FnChains
abbrev R := Bool
inductive A12 where
  | s0 (v2 : Int) (v3 : Int) (v4 : List Int) (v5 : List Int)
  | s1 (v2 : Int) (v3 : Bool) (v4 : Bool) (v5 : Int) (v6 : List Int) (v7 : List Int)
  | s2 (v2 : Int) (v3 : Int) (v4 : List Int) (v5 : List Int)
  | s3 (v2 : Int) (v3 : Bool) (v4 : Int) (v5 : List Int) (v6 : List Int)
  | s4 (v2 : Int) (v3 : Bool) (v4 : Int) (v5 : List Int) (v6 : List Int)
noncomputable def step12 (N : Nat) (a0 : List Int) (a1 : List Int) (rec : A12 → Option R) : A12 → Option R
  | .s0 v2 v3 v4 v5 =>
    bif (decide (v3 < (18:Int))) then
      bif (decide (v3 < (16:Int))) then
        bif (decide (0 ≤ v3)) then
        bif (decide (v3 < (v4.length : Int))) then
        bif (decide (0 ≤ v3)) then
        bif (decide (v3 < (v4.length : Int))) then
        bif (decide (0 ≤ v3)) then
        bif (decide (v3 < (v5.length : Int))) then
        bif (decide (0 ≤ v3)) then
        bif (decide (v3 < (v4.length : Int))) then
        bif (decide (0 ≤ v3)) then
        bif (decide (v3 < (v5.length : Int))) then
        rec (.s1 (w64 (v2 + (w64 ((15:Int) - (v4.getD (Int.toNat v3) (0:Int)))))) (bif false then true else (decide ((v4.getD (Int.toNat v3) (0:Int)) > (v5.getD (Int.toNat v3) (0:Int))))) (bif false then true else (decide ((v4.getD (Int.toNat v3) (0:Int)) < (v5.getD (Int.toNat v3) (0:Int))))) (w64 (v3 + (1:Int))) v4 v5)
        else none
        else none
        else none
        else none
        else none
        else none
        else none
        else none
        else none
        else none
      else
      bif (decide (0 ≤ v3)) then
      bif (decide (v3 < (v4.length : Int))) then
      bif (decide (0 ≤ v3)) then
      bif (decide (v3 < (v5.length : Int))) then
      bif (decide (0 ≤ v3)) then
      bif (decide (v3 < (v4.length : Int))) then
      bif (decide (0 ≤ v3)) then
      bif (decide (v3 < (v5.length : Int))) then
      rec (.s1 v2 (bif false then true else (decide ((v4.getD (Int.toNat v3) (0:Int)) > (v5.getD (Int.toNat v3) (0:Int))))) (bif false then true else (decide ((v4.getD (Int.toNat v3) (0:Int)) < (v5.getD (Int.toNat v3) (0:Int))))) (w64 (v3 + (1:Int))) v4 v5)
      else none
      else none
      else none
      else none
      else none
      else none
      else none
      else none
    else
    bif (decide (0 ≤ (16:Int))) then
    bif (decide ((16:Int) < (v4.length : Int))) then
    bif (decide (0 ≤ (17:Int))) then
    bif (decide ((17:Int) < (v4.length : Int))) then
    bif (v2 != (w64 ((w64 ((16:Int) * (v4.getD 16 (0:Int)))) + (v4.getD 17 (0:Int))))) then
      some false
    else
    bif (bif false then true else (!(false == false))) then
      some false
    else
    ob (spec_HashOf.m N a0) fun y8 =>
    ob (laws_at.m N a1 (0:Int) (4:Int)) fun y9 =>
    ob (laws_at.m N a1 (1:Int) (18:Int)) fun y10 =>
    ob (impl_SecretPart.m N y8 y9 y10) fun y11 =>
    ob (laws_at.m N a1 (2:Int) (16:Int)) fun y12 =>
    ob (laws_at.m N a1 (3:Int) (w64 ((16:Int) - y12))) fun y13 =>
    ob (impl_Chain.m N y11.1 (0:Int) y12) fun y14 =>
    ob (impl_Chain.m N y14.1 y12 y13) fun y15 =>
    ob (impl_Chain.m N y11.1 (0:Int) (w64 (y12 + y13))) fun y16 =>
    ob (impl_LeafKey.m N y8 (1:Int)) fun y17 =>
    ob (spec_LeafKey.m N y8 (1:Int)) fun y18 =>
    bif (y11.2 == (0:Int)) then
      bif (bif true then (y14.2 == (0:Int)) else false) then
        bif (bif true then (y15.2 == (0:Int)) else false) then
          bif (bif true then (y16.2 == (0:Int)) else false) then
            bif (bif true then (seq y15.1 y16.1) else false) then
              bif (bif true then (y17.2 == (0:Int)) else false) then
                some (bif true then (seq y17.1 y18.1) else false)
              else
              some false
            else
            some false
          else
          some false
        else
        some false
      else
      some false
    else
    some false
    else none
    else none
    else none
    else none
  | .s1 v2 v3 v4 v5 v6 v7 =>
    bif (decide (v5 < (18:Int))) then
      bif (decide (v5 < (16:Int))) then
        bif (decide (0 ≤ v5)) then
        bif (decide (v5 < (v6.length : Int))) then
        bif v3 then
          bif v4 then
            rec (.s2 (w64 (v2 + (w64 ((15:Int) - (v6.getD (Int.toNat v5) (0:Int)))))) (w64 (v5 + (1:Int))) v6 v7)
          else
          bif (decide (0 ≤ v5)) then
          bif (decide (v5 < (v6.length : Int))) then
          bif (decide (0 ≤ v5)) then
          bif (decide (v5 < (v7.length : Int))) then
          rec (.s3 (w64 (v2 + (w64 ((15:Int) - (v6.getD (Int.toNat v5) (0:Int)))))) (bif false then true else (decide ((v6.getD (Int.toNat v5) (0:Int)) < (v7.getD (Int.toNat v5) (0:Int))))) (w64 (v5 + (1:Int))) v6 v7)
          else none
          else none
          else none
          else none
        else
        bif (decide (0 ≤ v5)) then
        bif (decide (v5 < (v6.length : Int))) then
        bif (decide (0 ≤ v5)) then
        bif (decide (v5 < (v7.length : Int))) then
        bif v4 then
          rec (.s4 (w64 (v2 + (w64 ((15:Int) - (v6.getD (Int.toNat v5) (0:Int)))))) (bif false then true else (decide ((v6.getD (Int.toNat v5) (0:Int)) > (v7.getD (Int.toNat v5) (0:Int))))) (w64 (v5 + (1:Int))) v6 v7)
        else
        bif (decide (0 ≤ v5)) then
        bif (decide (v5 < (v6.length : Int))) then
        bif (decide (0 ≤ v5)) then
        bif (decide (v5 < (v7.length : Int))) then
        rec (.s1 (w64 (v2 + (w64 ((15:Int) - (v6.getD (Int.toNat v5) (0:Int)))))) (bif false then true else (decide ((v6.getD (Int.toNat v5) (0:Int)) > (v7.getD (Int.toNat v5) (0:Int))))) (bif false then true else (decide ((v6.getD (Int.toNat v5) (0:Int)) < (v7.getD (Int.toNat v5) (0:Int))))) (w64 (v5 + (1:Int))) v6 v7)
        else none
        else none
        else none
        else none
        else none
        else none
        else none
        else none
        else none
        else none
      else
      bif v3 then
        bif v4 then
          rec (.s2 v2 (w64 (v5 + (1:Int))) v6 v7)
        else
        bif (decide (0 ≤ v5)) then
        bif (decide (v5 < (v6.length : Int))) then
        bif (decide (0 ≤ v5)) then
        bif (decide (v5 < (v7.length : Int))) then
        rec (.s3 v2 (bif false then true else (decide ((v6.getD (Int.toNat v5) (0:Int)) < (v7.getD (Int.toNat v5) (0:Int))))) (w64 (v5 + (1:Int))) v6 v7)
        else none
        else none
        else none
        else none
      else
      bif (decide (0 ≤ v5)) then
      bif (decide (v5 < (v6.length : Int))) then
      bif (decide (0 ≤ v5)) then
      bif (decide (v5 < (v7.length : Int))) then
      bif v4 then
        rec (.s4 v2 (bif false then true else (decide ((v6.getD (Int.toNat v5) (0:Int)) > (v7.getD (Int.toNat v5) (0:Int))))) (w64 (v5 + (1:Int))) v6 v7)
      else
      bif (decide (0 ≤ v5)) then
      bif (decide (v5 < (v6.length : Int))) then
      bif (decide (0 ≤ v5)) then
      bif (decide (v5 < (v7.length : Int))) then
      rec (.s1 v2 (bif false then true else (decide ((v6.getD (Int.toNat v5) (0:Int)) > (v7.getD (Int.toNat v5) (0:Int))))) (bif false then true else (decide ((v6.getD (Int.toNat v5) (0:Int)) < (v7.getD (Int.toNat v5) (0:Int))))) (w64 (v5 + (1:Int))) v6 v7)
      else none
      else none
      else none
      else none
      else none
      else none
      else none
      else none
    else
    bif (decide (0 ≤ (16:Int))) then
    bif (decide ((16:Int) < (v6.length : Int))) then
    bif (decide (0 ≤ (17:Int))) then
    bif (decide ((17:Int) < (v6.length : Int))) then
    bif (v2 != (w64 ((w64 ((16:Int) * (v6.getD 16 (0:Int)))) + (v6.getD 17 (0:Int))))) then
      some false
    else
    bif (bif false then true else (!(v3 == v4))) then
      some false
    else
    ob (spec_HashOf.m N a0) fun y19 =>
    ob (laws_at.m N a1 (0:Int) (4:Int)) fun y20 =>
    ob (laws_at.m N a1 (1:Int) (18:Int)) fun y21 =>
    ob (impl_SecretPart.m N y19 y20 y21) fun y22 =>
    ob (laws_at.m N a1 (2:Int) (16:Int)) fun y23 =>
    ob (laws_at.m N a1 (3:Int) (w64 ((16:Int) - y23))) fun y24 =>
    ob (impl_Chain.m N y22.1 (0:Int) y23) fun y25 =>
    ob (impl_Chain.m N y25.1 y23 y24) fun y26 =>
    ob (impl_Chain.m N y22.1 (0:Int) (w64 (y23 + y24))) fun y27 =>
    ob (impl_LeafKey.m N y19 (1:Int)) fun y28 =>
    ob (spec_LeafKey.m N y19 (1:Int)) fun y29 =>
    bif (y22.2 == (0:Int)) then
      bif (bif true then (y25.2 == (0:Int)) else false) then
        bif (bif true then (y26.2 == (0:Int)) else false) then
          bif (bif true then (y27.2 == (0:Int)) else false) then
            bif (bif true then (seq y26.1 y27.1) else false) then
              bif (bif true then (y28.2 == (0:Int)) else false) then
                some (bif true then (seq y28.1 y29.1) else false)
              else
              some false
            else
            some false
          else
          some false
        else
        some false
      else
      some false
    else
    some false
    else none
    else none
    else none
    else none
  | .s2 v2 v3 v4 v5 =>
    bif (decide (v3 < (18:Int))) then
      bif (decide (v3 < (16:Int))) then
        bif (decide (0 ≤ v3)) then
        bif (decide (v3 < (v4.length : Int))) then
        rec (.s2 (w64 (v2 + (w64 ((15:Int) - (v4.getD (Int.toNat v3) (0:Int)))))) (w64 (v3 + (1:Int))) v4 v5)
        else none
        else none
      else
      rec (.s2 v2 (w64 (v3 + (1:Int))) v4 v5)
    else
    bif (decide (0 ≤ (16:Int))) then
    bif (decide ((16:Int) < (v4.length : Int))) then
    bif (decide (0 ≤ (17:Int))) then
    bif (decide ((17:Int) < (v4.length : Int))) then
    bif (v2 != (w64 ((w64 ((16:Int) * (v4.getD 16 (0:Int)))) + (v4.getD 17 (0:Int))))) then
      some false
    else
    bif (bif false then true else (!(true == true))) then
      some false
    else
    ob (spec_HashOf.m N a0) fun y30 =>
    ob (laws_at.m N a1 (0:Int) (4:Int)) fun y31 =>
    ob (laws_at.m N a1 (1:Int) (18:Int)) fun y32 =>
    ob (impl_SecretPart.m N y30 y31 y32) fun y33 =>
    ob (laws_at.m N a1 (2:Int) (16:Int)) fun y34 =>
    ob (laws_at.m N a1 (3:Int) (w64 ((16:Int) - y34))) fun y35 =>
    ob (impl_Chain.m N y33.1 (0:Int) y34) fun y36 =>
    ob (impl_Chain.m N y36.1 y34 y35) fun y37 =>
    ob (impl_Chain.m N y33.1 (0:Int) (w64 (y34 + y35))) fun y38 =>
    ob (impl_LeafKey.m N y30 (1:Int)) fun y39 =>
    ob (spec_LeafKey.m N y30 (1:Int)) fun y40 =>
    bif (y33.2 == (0:Int)) then
      bif (bif true then (y36.2 == (0:Int)) else false) then
        bif (bif true then (y37.2 == (0:Int)) else false) then
          bif (bif true then (y38.2 == (0:Int)) else false) then
            bif (bif true then (seq y37.1 y38.1) else false) then
              bif (bif true then (y39.2 == (0:Int)) else false) then
                some (bif true then (seq y39.1 y40.1) else false)
              else
              some false
            else
            some false
          else
          some false
        else
        some false
      else
      some false
    else
    some false
    else none
    else none
    else none
    else none
  | .s3 v2 v3 v4 v5 v6 =>
    bif (decide (v4 < (18:Int))) then
      bif (decide (v4 < (16:Int))) then
        bif (decide (0 ≤ v4)) then
        bif (decide (v4 < (v5.length : Int))) then
        bif v3 then
          rec (.s2 (w64 (v2 + (w64 ((15:Int) - (v5.getD (Int.toNat v4) (0:Int)))))) (w64 (v4 + (1:Int))) v5 v6)
        else
        bif (decide (0 ≤ v4)) then
        bif (decide (v4 < (v5.length : Int))) then
        bif (decide (0 ≤ v4)) then
        bif (decide (v4 < (v6.length : Int))) then
        rec (.s3 (w64 (v2 + (w64 ((15:Int) - (v5.getD (Int.toNat v4) (0:Int)))))) (bif false then true else (decide ((v5.getD (Int.toNat v4) (0:Int)) < (v6.getD (Int.toNat v4) (0:Int))))) (w64 (v4 + (1:Int))) v5 v6)
        else none
        else none
        else none
        else none
        else none
        else none
      else
      bif v3 then
        rec (.s2 v2 (w64 (v4 + (1:Int))) v5 v6)
      else
      bif (decide (0 ≤ v4)) then
      bif (decide (v4 < (v5.length : Int))) then
      bif (decide (0 ≤ v4)) then
      bif (decide (v4 < (v6.length : Int))) then
      rec (.s3 v2 (bif false then true else (decide ((v5.getD (Int.toNat v4) (0:Int)) < (v6.getD (Int.toNat v4) (0:Int))))) (w64 (v4 + (1:Int))) v5 v6)
      else none
      else none
      else none
      else none
    else
    bif (decide (0 ≤ (16:Int))) then
    bif (decide ((16:Int) < (v5.length : Int))) then
    bif (decide (0 ≤ (17:Int))) then
    bif (decide ((17:Int) < (v5.length : Int))) then
    bif (v2 != (w64 ((w64 ((16:Int) * (v5.getD 16 (0:Int)))) + (v5.getD 17 (0:Int))))) then
      some false
    else
    bif (bif false then true else (!(true == v3))) then
      some false
    else
    ob (spec_HashOf.m N a0) fun y41 =>
    ob (laws_at.m N a1 (0:Int) (4:Int)) fun y42 =>
    ob (laws_at.m N a1 (1:Int) (18:Int)) fun y43 =>
    ob (impl_SecretPart.m N y41 y42 y43) fun y44 =>
    ob (laws_at.m N a1 (2:Int) (16:Int)) fun y45 =>
    ob (laws_at.m N a1 (3:Int) (w64 ((16:Int) - y45))) fun y46 =>
    ob (impl_Chain.m N y44.1 (0:Int) y45) fun y47 =>
    ob (impl_Chain.m N y47.1 y45 y46) fun y48 =>
    ob (impl_Chain.m N y44.1 (0:Int) (w64 (y45 + y46))) fun y49 =>
    ob (impl_LeafKey.m N y41 (1:Int)) fun y50 =>
    ob (spec_LeafKey.m N y41 (1:Int)) fun y51 =>
    bif (y44.2 == (0:Int)) then
      bif (bif true then (y47.2 == (0:Int)) else false) then
        bif (bif true then (y48.2 == (0:Int)) else false) then
          bif (bif true then (y49.2 == (0:Int)) else false) then
            bif (bif true then (seq y48.1 y49.1) else false) then
              bif (bif true then (y50.2 == (0:Int)) else false) then
                some (bif true then (seq y50.1 y51.1) else false)
              else
              some false
            else
            some false
          else
          some false
        else
        some false
      else
      some false
    else
    some false
    else none
    else none
    else none
    else none
  | .s4 v2 v3 v4 v5 v6 =>
    bif (decide (v4 < (18:Int))) then
      bif (decide (v4 < (16:Int))) then
        bif (decide (0 ≤ v4)) then
        bif (decide (v4 < (v5.length : Int))) then
        bif v3 then
          rec (.s2 (w64 (v2 + (w64 ((15:Int) - (v5.getD (Int.toNat v4) (0:Int)))))) (w64 (v4 + (1:Int))) v5 v6)
        else
        bif (decide (0 ≤ v4)) then
        bif (decide (v4 < (v5.length : Int))) then
        bif (decide (0 ≤ v4)) then
        bif (decide (v4 < (v6.length : Int))) then
        rec (.s4 (w64 (v2 + (w64 ((15:Int) - (v5.getD (Int.toNat v4) (0:Int)))))) (bif false then true else (decide ((v5.getD (Int.toNat v4) (0:Int)) > (v6.getD (Int.toNat v4) (0:Int))))) (w64 (v4 + (1:Int))) v5 v6)
        else none
        else none
        else none
        else none
        else none
        else none
      else
      bif v3 then
        rec (.s2 v2 (w64 (v4 + (1:Int))) v5 v6)
      else
      bif (decide (0 ≤ v4)) then
      bif (decide (v4 < (v5.length : Int))) then
      bif (decide (0 ≤ v4)) then
      bif (decide (v4 < (v6.length : Int))) then
      rec (.s4 v2 (bif false then true else (decide ((v5.getD (Int.toNat v4) (0:Int)) > (v6.getD (Int.toNat v4) (0:Int))))) (w64 (v4 + (1:Int))) v5 v6)
      else none
      else none
      else none
      else none
    else
    bif (decide (0 ≤ (16:Int))) then
    bif (decide ((16:Int) < (v5.length : Int))) then
    bif (decide (0 ≤ (17:Int))) then
    bif (decide ((17:Int) < (v5.length : Int))) then
    bif (v2 != (w64 ((w64 ((16:Int) * (v5.getD 16 (0:Int)))) + (v5.getD 17 (0:Int))))) then
      some false
    else
    bif (bif false then true else (!(v3 == true))) then
      some false
    else
    ob (spec_HashOf.m N a0) fun y52 =>
    ob (laws_at.m N a1 (0:Int) (4:Int)) fun y53 =>
    ob (laws_at.m N a1 (1:Int) (18:Int)) fun y54 =>
    ob (impl_SecretPart.m N y52 y53 y54) fun y55 =>
    ob (laws_at.m N a1 (2:Int) (16:Int)) fun y56 =>
    ob (laws_at.m N a1 (3:Int) (w64 ((16:Int) - y56))) fun y57 =>
    ob (impl_Chain.m N y55.1 (0:Int) y56) fun y58 =>
    ob (impl_Chain.m N y58.1 y56 y57) fun y59 =>
    ob (impl_Chain.m N y55.1 (0:Int) (w64 (y56 + y57))) fun y60 =>
    ob (impl_LeafKey.m N y52 (1:Int)) fun y61 =>
    ob (spec_LeafKey.m N y52 (1:Int)) fun y62 =>
    bif (y55.2 == (0:Int)) then
      bif (bif true then (y58.2 == (0:Int)) else false) then
        bif (bif true then (y59.2 == (0:Int)) else false) then
          bif (bif true then (y60.2 == (0:Int)) else false) then
            bif (bif true then (seq y59.1 y60.1) else false) then
              bif (bif true then (y61.2 == (0:Int)) else false) then
                some (bif true then (seq y61.1 y62.1) else false)
              else
              some false
            else
            some false
          else
          some false
        else
        some false
      else
      some false
    else
    some false
    else none
    else none
    else none
    else none
noncomputable def lp12 (N : Nat) (a0 : List Int) (a1 : List Int) : A12 → Option R :=
  miter (fun rec => step12 N a0 a1 rec) N
noncomputable def m (N : Nat) (a0 : List Int) (a1 : List Int) : Option R :=
  bif (decide ((a0.length : Int) > (1048576:Int))) then
    some true
  else
  bif (bif false then true else (decide ((a1.length : Int) > (1048576:Int)))) then
    some true
  else
  ob (spec_BytesOf.m N a0 (20:Int)) fun y1 =>
  ob (impl_Digits.m N (strOf y1)) fun y2 =>
  ob (spec_MessageOf.m N a1) fun y3 =>
  ob (impl_Digits.m N y3) fun y4 =>
  ob (spec_BytesOf.m N a0 (20:Int)) fun y5 =>
  ob (spec_Digits.m N (strOf y5)) fun y6 =>
  bif (y2.2 != (0:Int)) then
    some false
  else
  bif (bif false then true else (y4.2 != (0:Int))) then
    some false
  else
  ob (laws_sameInts.m N y2.1 y6.1) fun y7 =>
  bif (bif false then true else (!y7)) then
    some false
  else
  bif (bif false then true else ((y2.1.length : Int) != (18:Int))) then
    some false
  else
  lp12 N a0 a1 (.s0 (0:Int) (0:Int) y2.1 y4.1)
@[reducible] noncomputable def sp (N : Nat) : Spec E := { ps := [.val (.slice 5 (.int .u8)), .val (.slice 5 (.int .u8))], rs := [.bool], own := true, dp := false, R := R, fn := fun x => m N x.1 x.2.1, res := fun r => (r, ()), out := fun r => ((), (), ()), shut := fun a b => a.1, res_shut := fun _ _ => rfl, out_shut := fun _ _ => rfl }
end laws_FnChains
/-! ### impl_SignerOK: loop.example/g00220/impl.SignerOK -/
namespace impl_SignerOK
abbrev R := Bool
noncomputable def m (N : Nat) (a0 : Signer) : Option R :=
  ob (impl_isHash.m N ([a0.Seed])) fun y1 =>
  bif y1 then
    some (bif true then ((a0.Used.length : Int) == (4:Int)) else false)
  else
  some false
@[reducible] noncomputable def sp (N : Nat) : Spec E := { ps := [.val (.st 41)], rs := [.bool], own := true, dp := false, R := R, fn := fun x => m N x.1, res := fun r => (r, ()), out := fun r => ((), ()), shut := fun a b => a.1, res_shut := fun _ _ => rfl, out_shut := fun _ _ => rfl }
end impl_SignerOK
/-! ### slices_Clone_bool_bool: slices.Clone[[]bool,bool] -/
namespace slices_Clone_bool_bool
abbrev R := (List Bool)
noncomputable def m (N : Nat) (a0 : List Bool) : Option R :=
  amb (a0.isEmpty) true
    (some ([] : List Bool))
    (bif (room (([] : List Bool).length + a0.length) 1) then
    some (([] : List Bool) ++ a0)
    else none)
@[reducible] noncomputable def sp (N : Nat) : Spec E := { ps := [.val (.slice 4 .bool)], rs := [(.slice 4 .bool)], own := true, dp := false, R := R, fn := fun x => m N x.1, res := fun r => (r, ()), out := fun r => ((), ()), shut := fun a b => a.1, res_shut := fun _ _ => rfl, out_shut := fun _ _ => rfl }
end slices_Clone_bool_bool
/-! ### impl_keyLeaves: loop.example/g00220/impl.keyLeaves -/
namespace impl_keyLeaves
abbrev R := (List ByteArray)
noncomputable def step3 (N : Nat) (a0 : ByteArray) (rec : (Int × (List ByteArray)) → Option R) : (Int × (List ByteArray)) → Option R
  | (v1, v2) =>
    bif (decide (v1 < (4:Int))) then
      ob (impl_leafKey.m N a0 v1) fun y1 =>
      bif (room (v2.length + ([y1]).length) 16) then
      rec ((w64 (v1 + (1:Int))), (v2 ++ [y1]))
      else none
    else
    some v2
noncomputable def lp3 (N : Nat) (a0 : ByteArray) : (Int × (List ByteArray)) → Option R :=
  miter (fun rec => step3 N a0 rec) N
noncomputable def m (N : Nat) (a0 : ByteArray) : Option R :=
  lp3 N a0 ((0:Int), ([] : List ByteArray))
@[reducible] noncomputable def sp (N : Nat) : Spec E := { ps := [.val .str], rs := [(.slice 9 .str)], own := true, dp := false, R := R, fn := fun x => m N x.1, res := fun r => (r, ()), out := fun r => ((), ()), shut := fun a b => a.1, res_shut := fun _ _ => rfl, out_shut := fun _ _ => rfl }
end impl_keyLeaves
/-! ### impl_split: loop.example/g00220/impl.split -/
namespace impl_split
abbrev R := Int
noncomputable def step2 (N : Nat) (a0 : Int) (rec : Int → Option R) : Int → Option R
  | v1 =>
    bif (decide ((w64 ((2:Int) * v1)) < a0)) then
      rec (w64 (v1 * (2:Int)))
    else
    some v1
noncomputable def lp2 (N : Nat) (a0 : Int) : Int → Option R :=
  miter (fun rec => step2 N a0 rec) N
noncomputable def m (N : Nat) (a0 : Int) : Option R :=
  lp2 N a0 (1:Int)
@[reducible] noncomputable def sp (N : Nat) : Spec E := { ps := [.val (.int .i64)], rs := [(.int .i64)], own := true, dp := false, R := R, fn := fun x => m N x.1, res := fun r => (r, ()), out := fun r => ((), ()), shut := fun a b => a.1, res_shut := fun _ _ => rfl, out_shut := fun _ _ => rfl }
end impl_split
/-! ### impl_nodeHash: loop.example/g00220/impl.nodeHash -/
namespace impl_nodeHash
abbrev R := ByteArray
noncomputable def m (N : Nat) (a0 : ByteArray) (a1 : ByteArray) : Option R :=
  bif (decide ((⟨#[1]⟩ : ByteArray).size + a0.size ≤ 9223372036854775807)) then
  bif (decide (((⟨#[1]⟩ : ByteArray) ++ a0).size + a1.size ≤ 9223372036854775807)) then
  ob (impl_hash.m N (((⟨#[1]⟩ : ByteArray) ++ a0) ++ a1)) fun y1 =>
  some y1
  else none
  else none
@[reducible] noncomputable def sp (N : Nat) : Spec E := { ps := [.val .str, .val .str], rs := [.str], own := true, dp := false, R := R, fn := fun x => m N x.1 x.2.1, res := fun r => (r, ()), out := fun r => ((), (), ()), shut := fun a b => a.1, res_shut := fun _ _ => rfl, out_shut := fun _ _ => rfl }
end impl_nodeHash
/-! ### impl_treeHash: loop.example/g00220/impl.treeHash -/
namespace impl_treeHash
abbrev R := ByteArray
noncomputable def mb (N : Nat) (slf : (List ByteArray) → Option R) (a0 : List ByteArray) : Option R :=
  bif ((a0.length : Int) == (0:Int)) then
    ob (impl_hash.m N ByteArray.empty) fun y1 =>
    some y1
  else
  bif ((a0.length : Int) == (1:Int)) then
    bif (decide (0 ≤ (0:Int))) then
    bif (decide ((0:Int) < (a0.length : Int))) then
    some (a0.getD 0 ByteArray.empty)
    else none
    else none
  else
  ob (impl_split.m N (a0.length : Int)) fun y2 =>
  bif (decide (0 ≤ y2)) then
  bif (decide (y2 ≤ ((a0.length : Nat) : Int))) then
  ob (slf (a0.take (Int.toNat y2))) fun y3 =>
  bif (decide (0 ≤ y2)) then
  bif (decide (y2 ≤ ((a0.length : Nat) : Int))) then
  ob (slf (a0.drop (Int.toNat y2))) fun y4 =>
  ob (impl_nodeHash.m N y3 y4) fun y5 =>
  some y5
  else none
  else none
  else none
  else none
noncomputable def mF (N : Nat) : Nat → (List ByteArray) → Option R
  | 0 => fun _ => none
  | n + 1 => fun a0 => mb N (mF N n) a0
noncomputable def m (N : Nat) : (List ByteArray) → Option R := mF N N
@[reducible] noncomputable def spf (f : (List ByteArray) → Option R) : Spec E := { ps := [.val (.slice 9 .str)], rs := [.str], own := true, dp := false, R := R, fn := fun x => f x.1, res := fun r => (r, ()), out := fun r => ((), ()), shut := fun a b => a.1, res_shut := fun _ _ => rfl, out_shut := fun _ _ => rfl }
@[reducible] noncomputable def sp (N : Nat) : Spec E := spf (m N)
end impl_treeHash
/-! ### impl_inclusion: loop.example/g00220/impl.inclusion -/
namespace impl_inclusion
abbrev R := (List ByteArray)
noncomputable def mb (N : Nat) (slf : (List ByteArray) → Int → Option R) (a0 : List ByteArray) (a1 : Int) : Option R :=
  bif (decide ((a0.length : Int) ≤ (1:Int))) then
    some ([] : List ByteArray)
  else
  ob (impl_split.m N (a0.length : Int)) fun y1 =>
  bif (decide (a1 < y1)) then
    bif (decide (0 ≤ y1)) then
    bif (decide (y1 ≤ ((a0.length : Nat) : Int))) then
    ob (slf (a0.take (Int.toNat y1)) a1) fun y2 =>
    bif (decide (0 ≤ y1)) then
    bif (decide (y1 ≤ ((a0.length : Nat) : Int))) then
    ob (impl_treeHash.m N (a0.drop (Int.toNat y1))) fun y3 =>
    bif (room (y2.length + ([y3]).length) 16) then
    some (y2 ++ [y3])
    else none
    else none
    else none
    else none
    else none
  else
  bif (decide (0 ≤ y1)) then
  bif (decide (y1 ≤ ((a0.length : Nat) : Int))) then
  ob (slf (a0.drop (Int.toNat y1)) (w64 (a1 - y1))) fun y4 =>
  bif (decide (0 ≤ y1)) then
  bif (decide (y1 ≤ ((a0.length : Nat) : Int))) then
  ob (impl_treeHash.m N (a0.take (Int.toNat y1))) fun y5 =>
  bif (room (y4.length + ([y5]).length) 16) then
  some (y4 ++ [y5])
  else none
  else none
  else none
  else none
  else none
noncomputable def mF (N : Nat) : Nat → (List ByteArray) → Int → Option R
  | 0 => fun _ _ => none
  | n + 1 => fun a0 a1 => mb N (mF N n) a0 a1
noncomputable def m (N : Nat) : (List ByteArray) → Int → Option R := mF N N
@[reducible] noncomputable def spf (f : (List ByteArray) → Int → Option R) : Spec E := { ps := [.val (.slice 9 .str), .val (.int .i64)], rs := [(.slice 9 .str)], own := true, dp := false, R := R, fn := fun x => f x.1 x.2.1, res := fun r => (r, ()), out := fun r => ((), (), ()), shut := fun a b => a.1, res_shut := fun _ _ => rfl, out_shut := fun _ _ => rfl }
@[reducible] noncomputable def sp (N : Nat) : Spec E := spf (m N)
end impl_inclusion
/-! ### impl_signWith: loop.example/g00220/impl.signWith -/
namespace impl_signWith
abbrev R := Signature
inductive A3 where
  | s0 (v2 : Int) (v3 : Int) (v4 : Int) (v6 : List ByteArray) (v7 : List Int)
  | s1 (v2 : Int) (v3 : Int) (v4 : Int) (v6 : List ByteArray) (v7 : List ByteArray) (v8 : List Int)
noncomputable def step3 (N : Nat) (a0 : ByteArray) (a1 : Int) (a2 : ByteArray) (rec : A3 → Option R) : A3 → Option R
  | .s0 v2 v3 v4 v6 v7 =>
    bif (decide (v3 < v2)) then
      bif (decide (0 ≤ v3)) then
      bif (decide (v3 < (v7.length : Int))) then
      ob (impl_secretPart.m N a0 a1 v3) fun y4 =>
      ob (impl_chain.m N y4 (0:Int) (v7.getD (Int.toNat v3) (0:Int))) fun y5 =>
      bif (room ([y5]).length 16) then
      rec (.s1 v2 (w64 (v3 + (1:Int))) v4 ([y5]) v6 v7)
      else none
      else none
      else none
    else
    some (Signature.mk a1 ([] : List ByteArray) v6)
  | .s1 v2 v3 v4 v6 v7 v8 =>
    bif (decide (v3 < v2)) then
      bif (decide (0 ≤ v3)) then
      bif (decide (v3 < (v8.length : Int))) then
      ob (impl_secretPart.m N a0 a1 v3) fun y6 =>
      ob (impl_chain.m N y6 (0:Int) (v8.getD (Int.toNat v3) (0:Int))) fun y7 =>
      bif (room (v6.length + ([y7]).length) 16) then
      rec (.s1 v2 (w64 (v3 + (1:Int))) v4 (v6 ++ [y7]) v7 v8)
      else none
      else none
      else none
    else
    some (Signature.mk a1 v6 v7)
noncomputable def lp3 (N : Nat) (a0 : ByteArray) (a1 : Int) (a2 : ByteArray) : A3 → Option R :=
  miter (fun rec => step3 N a0 a1 a2 rec) N
noncomputable def m (N : Nat) (a0 : ByteArray) (a1 : Int) (a2 : ByteArray) : Option R :=
  ob (impl_keyLeaves.m N a0) fun y1 =>
  ob (impl_inclusion.m N y1 a1) fun y2 =>
  ob (impl_digits.m N a2) fun y3 =>
  lp3 N a0 a1 a2 (.s0 (y3.length : Int) (0:Int) (0:Int) y2 y3)
@[reducible] noncomputable def sp (N : Nat) : Spec E := { ps := [.val .str, .val (.int .i64), .val .str], rs := [(.st 44)], own := true, dp := false, R := R, fn := fun x => m N x.1 x.2.1 x.2.2.1, res := fun r => (r, ()), out := fun r => ((), (), (), ()), shut := fun a b => a.1, res_shut := fun _ _ => rfl, out_shut := fun _ _ => rfl }
end impl_signWith
/-! ### impl_SignNext: loop.example/g00220/impl.SignNext -/
namespace impl_SignNext
abbrev R := Signer × Signature × Int
noncomputable def m (N : Nat) (a0 : Signer) (a1 : Int) (a2 : ByteArray) : Option R :=
  ob (impl_isText.m N ([a2])) fun y1 =>
  bif (!y1) then
    some ((Signer.mk ByteArray.empty ([] : List Bool)), (Signature.mk (0:Int) ([] : List ByteArray) ([] : List ByteArray)), (2:Int))
  else
  ob (impl_SignerOK.m N a0) fun y2 =>
  bif (!y2) then
    some ((Signer.mk ByteArray.empty ([] : List Bool)), (Signature.mk (0:Int) ([] : List ByteArray) ([] : List ByteArray)), (1:Int))
  else
  ob (impl_within.m N a1 (0:Int) (3:Int)) fun y3 =>
  bif (!y3) then
    some ((Signer.mk ByteArray.empty ([] : List Bool)), (Signature.mk (0:Int) ([] : List ByteArray) ([] : List ByteArray)), (4:Int))
  else
  ob (slices_Clone_bool_bool.m N a0.Used) fun y4 =>
  bif (decide (0 ≤ a1)) then
  bif (decide (a1 < (a0.Used.length : Int))) then
  bif (a0.Used.getD (Int.toNat a1) false) then
    some ((Signer.mk a0.Seed y4), (Signature.mk (0:Int) ([] : List ByteArray) ([] : List ByteArray)), (13:Int))
  else
  bif (decide (0 ≤ a1)) then
  bif (decide (a1 < (y4.length : Int))) then
  ob (impl_signWith.m N a0.Seed a1 a2) fun y5 =>
  some ((Signer.mk a0.Seed (y4.set (Int.toNat a1) true)), y5, (0:Int))
  else none
  else none
  else none
  else none
@[reducible] noncomputable def sp (N : Nat) : Spec E := { ps := [.val (.st 41), .val (.int .i64), .val .str], rs := [(.st 41), (.st 44), (.int .i64)], own := true, dp := false, R := R, fn := fun x => m N x.1 x.2.1 x.2.2.1, res := fun r => (r.1, r.2.1, r.2.2, ()), out := fun r => ((), (), (), ()), shut := fun a b => (a.1, a.2.1, a.2.2.1), res_shut := fun _ _ => rfl, out_shut := fun _ _ => rfl }
end impl_SignNext
/-! ### spec_SignerOK: loop.example/g00220/spec.SignerOK -/
namespace spec_SignerOK
abbrev R := Bool
noncomputable def m (N : Nat) (a0 : Signer) : Option R :=
  bif ((a0.Seed.size : Int) == (32:Int)) then
    some (bif true then ((a0.Used.length : Int) == (4:Int)) else false)
  else
  some false
@[reducible] noncomputable def sp (N : Nat) : Spec E := { ps := [.val (.st 41)], rs := [.bool], own := true, dp := false, R := R, fn := fun x => m N x.1, res := fun r => (r, ()), out := fun r => ((), ()), shut := fun a b => a.1, res_shut := fun _ _ => rfl, out_shut := fun _ _ => rfl }
end spec_SignerOK
/-! ### spec_l08Leaves: loop.example/g00220/spec.l08Leaves -/
namespace spec_l08Leaves
abbrev R := (List ByteArray)
noncomputable def step3 (N : Nat) (a0 : ByteArray) (rec : (Int × (List ByteArray)) → Option R) : (Int × (List ByteArray)) → Option R
  | (v1, v2) =>
    bif (decide (v1 < (4:Int))) then
      ob (spec_l08Leaf.m N a0 v1) fun y1 =>
      bif (room (v2.length + ([y1]).length) 16) then
      rec ((w64 (v1 + (1:Int))), (v2 ++ [y1]))
      else none
    else
    some v2
noncomputable def lp3 (N : Nat) (a0 : ByteArray) : (Int × (List ByteArray)) → Option R :=
  miter (fun rec => step3 N a0 rec) N
noncomputable def m (N : Nat) (a0 : ByteArray) : Option R :=
  lp3 N a0 ((0:Int), ([] : List ByteArray))
@[reducible] noncomputable def sp (N : Nat) : Spec E := { ps := [.val .str], rs := [(.slice 9 .str)], own := true, dp := false, R := R, fn := fun x => m N x.1, res := fun r => (r, ()), out := fun r => ((), ()), shut := fun a b => a.1, res_shut := fun _ _ => rfl, out_shut := fun _ _ => rfl }
end spec_l08Leaves
/-! ### spec_l06Half: loop.example/g00220/spec.l06Half -/
namespace spec_l06Half
abbrev R := Int
noncomputable def step2 (N : Nat) (a0 : Int) (rec : Int → Option R) : Int → Option R
  | v1 =>
    bif (decide ((w64 ((2:Int) * v1)) < a0)) then
      rec (w64 (v1 * (2:Int)))
    else
    some v1
noncomputable def lp2 (N : Nat) (a0 : Int) : Int → Option R :=
  miter (fun rec => step2 N a0 rec) N
noncomputable def m (N : Nat) (a0 : Int) : Option R :=
  lp2 N a0 (1:Int)
@[reducible] noncomputable def sp (N : Nat) : Spec E := { ps := [.val (.int .i64)], rs := [(.int .i64)], own := true, dp := false, R := R, fn := fun x => m N x.1, res := fun r => (r, ()), out := fun r => ((), ()), shut := fun a b => a.1, res_shut := fun _ _ => rfl, out_shut := fun _ _ => rfl }
end spec_l06Half
/-! ### spec_l06Node: loop.example/g00220/spec.l06Node -/
namespace spec_l06Node
abbrev R := ByteArray
noncomputable def m (N : Nat) (a0 : ByteArray) (a1 : ByteArray) : Option R :=
  bif (room (([(1:Int)]).length + (bytesOf a0).length) 1) then
  bif (room (([(1:Int)] ++ (bytesOf a0)).length + (bytesOf a1).length) 1) then
  ob (spec_l01Hash.m N (([(1:Int)] ++ (bytesOf a0)) ++ (bytesOf a1))) fun y1 =>
  some y1
  else none
  else none
@[reducible] noncomputable def sp (N : Nat) : Spec E := { ps := [.val .str, .val .str], rs := [.str], own := true, dp := false, R := R, fn := fun x => m N x.1 x.2.1, res := fun r => (r, ()), out := fun r => ((), (), ()), shut := fun a b => a.1, res_shut := fun _ _ => rfl, out_shut := fun _ _ => rfl }
end spec_l06Node
/-! ### spec_l06Tree: loop.example/g00220/spec.l06Tree -/
namespace spec_l06Tree
abbrev R := ByteArray
noncomputable def mb (N : Nat) (slf : (List ByteArray) → Option R) (a0 : List ByteArray) : Option R :=
  bif ((a0.length : Int) == (0:Int)) then
    ob (spec_l01Hash.m N ([] : List Int)) fun y1 =>
    some y1
  else
  bif ((a0.length : Int) == (1:Int)) then
    bif (decide (0 ≤ (0:Int))) then
    bif (decide ((0:Int) < (a0.length : Int))) then
    some (a0.getD 0 ByteArray.empty)
    else none
    else none
  else
  ob (spec_l06Half.m N (a0.length : Int)) fun y2 =>
  bif (decide (0 ≤ y2)) then
  bif (decide (y2 ≤ ((a0.length : Nat) : Int))) then
  ob (slf (a0.take (Int.toNat y2))) fun y3 =>
  bif (decide (0 ≤ y2)) then
  bif (decide (y2 ≤ ((a0.length : Nat) : Int))) then
  ob (slf (a0.drop (Int.toNat y2))) fun y4 =>
  ob (spec_l06Node.m N y3 y4) fun y5 =>
  some y5
  else none
  else none
  else none
  else none
noncomputable def mF (N : Nat) : Nat → (List ByteArray) → Option R
  | 0 => fun _ => none
  | n + 1 => fun a0 => mb N (mF N n) a0
noncomputable def m (N : Nat) : (List ByteArray) → Option R := mF N N
@[reducible] noncomputable def spf (f : (List ByteArray) → Option R) : Spec E := { ps := [.val (.slice 9 .str)], rs := [.str], own := true, dp := false, R := R, fn := fun x => f x.1, res := fun r => (r, ()), out := fun r => ((), ()), shut := fun a b => a.1, res_shut := fun _ _ => rfl, out_shut := fun _ _ => rfl }
@[reducible] noncomputable def sp (N : Nat) : Spec E := spf (m N)
end spec_l06Tree
/-! ### spec_l06Path: loop.example/g00220/spec.l06Path -/
namespace spec_l06Path
abbrev R := (List ByteArray)
noncomputable def mb (N : Nat) (slf : (List ByteArray) → Int → Option R) (a0 : List ByteArray) (a1 : Int) : Option R :=
  bif ((a0.length : Int) == (1:Int)) then
    some ([] : List ByteArray)
  else
  ob (spec_l06Half.m N (a0.length : Int)) fun y1 =>
  bif (decide (a1 < y1)) then
    bif (decide (0 ≤ y1)) then
    bif (decide (y1 ≤ ((a0.length : Nat) : Int))) then
    ob (slf (a0.take (Int.toNat y1)) a1) fun y2 =>
    bif (decide (0 ≤ y1)) then
    bif (decide (y1 ≤ ((a0.length : Nat) : Int))) then
    ob (spec_l06Tree.m N (a0.drop (Int.toNat y1))) fun y3 =>
    bif (room (y2.length + ([y3]).length) 16) then
    some (y2 ++ [y3])
    else none
    else none
    else none
    else none
    else none
  else
  bif (decide (0 ≤ y1)) then
  bif (decide (y1 ≤ ((a0.length : Nat) : Int))) then
  ob (slf (a0.drop (Int.toNat y1)) (w64 (a1 - y1))) fun y4 =>
  bif (decide (0 ≤ y1)) then
  bif (decide (y1 ≤ ((a0.length : Nat) : Int))) then
  ob (spec_l06Tree.m N (a0.take (Int.toNat y1))) fun y5 =>
  bif (room (y4.length + ([y5]).length) 16) then
  some (y4 ++ [y5])
  else none
  else none
  else none
  else none
  else none
noncomputable def mF (N : Nat) : Nat → (List ByteArray) → Int → Option R
  | 0 => fun _ _ => none
  | n + 1 => fun a0 a1 => mb N (mF N n) a0 a1
noncomputable def m (N : Nat) : (List ByteArray) → Int → Option R := mF N N
@[reducible] noncomputable def spf (f : (List ByteArray) → Int → Option R) : Spec E := { ps := [.val (.slice 9 .str), .val (.int .i64)], rs := [(.slice 9 .str)], own := true, dp := false, R := R, fn := fun x => f x.1 x.2.1, res := fun r => (r, ()), out := fun r => ((), (), ()), shut := fun a b => a.1, res_shut := fun _ _ => rfl, out_shut := fun _ _ => rfl }
@[reducible] noncomputable def sp (N : Nat) : Spec E := spf (m N)
end spec_l06Path
/-! ### spec_l08Sign: loop.example/g00220/spec.l08Sign -/
namespace spec_l08Sign
abbrev R := Signature
noncomputable def step4 (N : Nat) (a0 : ByteArray) (a1 : Int) (a2 : ByteArray) (rec : (Int × Int × (List ByteArray) × (List Int)) → Option R) : (Int × Int × (List ByteArray) × (List Int)) → Option R
  | (v2, v3, v5, v6) =>
    bif (decide (v2 < (18:Int))) then
      ob (spec_l08Secret.m N a0 a1 v2) fun y2 =>
      bif (decide (0 ≤ v2)) then
      bif (decide (v2 < (v6.length : Int))) then
      ob (spec_l08Chain.m N y2 (0:Int) (v6.getD (Int.toNat v2) (0:Int))) fun y3 =>
      bif (room (v5.length + ([y3]).length) 16) then
      rec ((w64 (v2 + (1:Int))), v3, (v5 ++ [y3]), v6)
      else none
      else none
      else none
    else
    ob (spec_l08Leaves.m N a0) fun y4 =>
    ob (spec_l06Path.m N y4 a1) fun y5 =>
    some (Signature.mk a1 v5 y5)
noncomputable def lp4 (N : Nat) (a0 : ByteArray) (a1 : Int) (a2 : ByteArray) : (Int × Int × (List ByteArray) × (List Int)) → Option R :=
  miter (fun rec => step4 N a0 a1 a2 rec) N
noncomputable def m (N : Nat) (a0 : ByteArray) (a1 : Int) (a2 : ByteArray) : Option R :=
  ob (spec_l08Digits.m N a2) fun y1 =>
  lp4 N a0 a1 a2 ((0:Int), (0:Int), ([] : List ByteArray), y1)
@[reducible] noncomputable def sp (N : Nat) : Spec E := { ps := [.val .str, .val (.int .i64), .val .str], rs := [(.st 44)], own := true, dp := false, R := R, fn := fun x => m N x.1 x.2.1 x.2.2.1, res := fun r => (r, ()), out := fun r => ((), (), (), ()), shut := fun a b => a.1, res_shut := fun _ _ => rfl, out_shut := fun _ _ => rfl }
end spec_l08Sign
/-! ### spec_SignNext: loop.example/g00220/spec.SignNext -/
namespace spec_SignNext
abbrev R := Signer × Signature × Int
noncomputable def m (N : Nat) (a0 : Signer) (a1 : Int) (a2 : ByteArray) : Option R :=
  bif (decide ((a2.size : Int) > (65536:Int))) then
    some ((Signer.mk ByteArray.empty ([] : List Bool)), (Signature.mk (0:Int) ([] : List ByteArray) ([] : List ByteArray)), (2:Int))
  else
  ob (spec_SignerOK.m N a0) fun y1 =>
  bif (!y1) then
    some ((Signer.mk ByteArray.empty ([] : List Bool)), (Signature.mk (0:Int) ([] : List ByteArray) ([] : List ByteArray)), (1:Int))
  else
  ob (spec_l08Index.m N a1) fun y2 =>
  bif (!y2) then
    some ((Signer.mk ByteArray.empty ([] : List Bool)), (Signature.mk (0:Int) ([] : List ByteArray) ([] : List ByteArray)), (4:Int))
  else
  bif (room (([] : List Bool).length + a0.Used.length) 1) then
  bif (decide (0 ≤ a1)) then
  bif (decide (a1 < (a0.Used.length : Int))) then
  bif (a0.Used.getD (Int.toNat a1) false) then
    some ((Signer.mk a0.Seed (([] : List Bool) ++ a0.Used)), (Signature.mk (0:Int) ([] : List ByteArray) ([] : List ByteArray)), (13:Int))
  else
  bif (decide (0 ≤ a1)) then
  bif (decide (a1 < ((([] : List Bool) ++ a0.Used).length : Int))) then
  ob (spec_l08Sign.m N a0.Seed a1 a2) fun y3 =>
  some ((Signer.mk a0.Seed ((([] : List Bool) ++ a0.Used).set (Int.toNat a1) true)), y3, (0:Int))
  else none
  else none
  else none
  else none
  else none
@[reducible] noncomputable def sp (N : Nat) : Spec E := { ps := [.val (.st 41), .val (.int .i64), .val .str], rs := [(.st 41), (.st 44), (.int .i64)], own := true, dp := false, R := R, fn := fun x => m N x.1 x.2.1 x.2.2.1, res := fun r => (r.1, r.2.1, r.2.2, ()), out := fun r => ((), (), (), ()), shut := fun a b => (a.1, a.2.1, a.2.2.1), res_shut := fun _ _ => rfl, out_shut := fun _ _ => rfl }
end spec_SignNext
/-! ### laws_FnOnce: loop.example/g00220/laws.FnOnce -/
namespace laws_FnOnce
abbrev R := Bool
noncomputable def step11 (N : Nat) (a0 : List Int) (a1 : List Int) (rec : (Int × Int × ByteArray × (List Bool) × ByteArray × (List Bool) × ByteArray × (List Bool)) → Option R) : (Int × Int × ByteArray × (List Bool) × ByteArray × (List Bool) × ByteArray × (List Bool)) → Option R
  | (v0, v1, v2, v3, v4, v5, v6, v7) =>
    bif (decide (v1 < (4:Int))) then
      bif (decide (0 ≤ v1)) then
      bif (decide (v1 < (v3.length : Int))) then
      bif (!((v3.getD (Int.toNat v1) false) == (v1 == v0))) then
        some false
      else
      bif (decide (0 ≤ v1)) then
      bif (decide (v1 < (v7.length : Int))) then
      bif (decide (0 ≤ v1)) then
      bif (decide (v1 < (v3.length : Int))) then
      bif (bif false then true else (!((v7.getD (Int.toNat v1) false) == (v3.getD (Int.toNat v1) false)))) then
        some false
      else
      bif (decide (0 ≤ v1)) then
      bif (decide (v1 < (v5.length : Int))) then
      bif (decide (0 ≤ v1)) then
      bif (decide (v1 < (v3.length : Int))) then
      bif (bif false then true else (!((v5.getD (Int.toNat v1) false) == (v3.getD (Int.toNat v1) false)))) then
        some false
      else
      rec (v0, (w64 (v1 + (1:Int))), v2, v3, v4, v5, v6, v7)
      else none
      else none
      else none
      else none
      else none
      else none
      else none
      else none
      else none
      else none
    else
    some true
noncomputable def lp11 (N : Nat) (a0 : List Int) (a1 : List Int) : (Int × Int × ByteArray × (List Bool) × ByteArray × (List Bool) × ByteArray × (List Bool)) → Option R :=
  miter (fun rec => step11 N a0 a1 rec) N
noncomputable def m (N : Nat) (a0 : List Int) (a1 : List Int) : Option R :=
  bif (decide ((a0.length : Int) > (1048576:Int))) then
    some true
  else
  bif (bif false then true else (decide ((a1.length : Int) > (1048576:Int)))) then
    some true
  else
  ob (spec_HashOf.m N a0) fun y1 =>
  bif (decide (0 ≤ (4:Int))) then
  bif (room 4 1) then
  ob (laws_at.m N a1 (0:Int) (4:Int)) fun y2 =>
  ob (spec_MessageOf.m N a0) fun y3 =>
  ob (impl_SignNext.m N (Signer.mk y1 (List.replicate 4 false)) y2 y3) fun y4 =>
  ob (spec_MessageOf.m N a0) fun y5 =>
  ob (spec_SignNext.m N (Signer.mk y1 (List.replicate 4 false)) y2 y5) fun y6 =>
  ob (spec_MessageOf.m N a1) fun y7 =>
  ob (impl_SignNext.m N y4.1 y2 y7) fun y8 =>
  bif (y4.2.2 != (0:Int)) then
    some false
  else
  bif (bif false then true else (y8.2.2 != (13:Int))) then
    some false
  else
  bif (bif false then true else ((y8.2.1.Parts.length : Int) != (0:Int))) then
    some false
  else
  bif (bif false then true else ((y4.1.Used.length : Int) != (4:Int))) then
    some false
  else
  bif (bif false then true else ((y8.1.Used.length : Int) != (4:Int))) then
    some false
  else
  ob (impl_SignerOK.m N y4.1) fun y9 =>
  bif (bif false then true else (!y9)) then
    some false
  else
  bif (bif false then true else ((y4.2.1.Parts.length : Int) != (18:Int))) then
    some false
  else
  lp11 N a0 a1 (y2, (0:Int), y4.1.Seed, y4.1.Used, y6.1.Seed, y6.1.Used, y8.1.Seed, y8.1.Used)
  else none
  else none
@[reducible] noncomputable def sp (N : Nat) : Spec E := { ps := [.val (.slice 5 (.int .u8)), .val (.slice 5 (.int .u8))], rs := [.bool], own := true, dp := false, R := R, fn := fun x => m N x.1 x.2.1, res := fun r => (r, ()), out := fun r => ((), (), ()), shut := fun a b => a.1, res_shut := fun _ _ => rfl, out_shut := fun _ _ => rfl }
end laws_FnOnce
/-! ### impl_PublicRoot: loop.example/g00220/impl.PublicRoot -/
namespace impl_PublicRoot
abbrev R := ByteArray × Int
noncomputable def m (N : Nat) (a0 : ByteArray) : Option R :=
  ob (impl_seedCode.m N a0 (0:Int)) fun y1 =>
  bif (y1 != (0:Int)) then
    some (ByteArray.empty, y1)
  else
  ob (impl_keyLeaves.m N a0) fun y2 =>
  ob (impl_treeHash.m N y2) fun y3 =>
  some (y3, (0:Int))
@[reducible] noncomputable def sp (N : Nat) : Spec E := { ps := [.val .str], rs := [.str, (.int .i64)], own := true, dp := false, R := R, fn := fun x => m N x.1, res := fun r => (r.1, r.2, ()), out := fun r => ((), ()), shut := fun a b => (a.1, a.2.1), res_shut := fun _ _ => rfl, out_shut := fun _ _ => rfl }
end impl_PublicRoot
/-! ### impl_SignWith: loop.example/g00220/impl.SignWith -/
namespace impl_SignWith
abbrev R := Signature × Int
noncomputable def m (N : Nat) (a0 : ByteArray) (a1 : Int) (a2 : ByteArray) : Option R :=
  ob (impl_isText.m N ([a2])) fun y1 =>
  bif (!y1) then
    some ((Signature.mk (0:Int) ([] : List ByteArray) ([] : List ByteArray)), (2:Int))
  else
  ob (impl_seedCode.m N a0 a1) fun y2 =>
  bif (y2 != (0:Int)) then
    some ((Signature.mk (0:Int) ([] : List ByteArray) ([] : List ByteArray)), y2)
  else
  ob (impl_signWith.m N a0 a1 a2) fun y3 =>
  some (y3, (0:Int))
@[reducible] noncomputable def sp (N : Nat) : Spec E := { ps := [.val .str, .val (.int .i64), .val .str], rs := [(.st 44), (.int .i64)], own := true, dp := false, R := R, fn := fun x => m N x.1 x.2.1 x.2.2.1, res := fun r => (r.1, r.2, ()), out := fun r => ((), (), (), ()), shut := fun a b => (a.1, a.2.1), res_shut := fun _ _ => rfl, out_shut := fun _ _ => rfl }
end impl_SignWith
/-! ### spec_SignWith: loop.example/g00220/spec.SignWith -/
namespace spec_SignWith
abbrev R := Signature × Int
noncomputable def m (N : Nat) (a0 : ByteArray) (a1 : Int) (a2 : ByteArray) : Option R :=
  bif (decide ((a0.size : Int) > (65536:Int))) then
    some ((Signature.mk (0:Int) ([] : List ByteArray) ([] : List ByteArray)), (2:Int))
  else
  bif (decide ((a2.size : Int) > (65536:Int))) then
    some ((Signature.mk (0:Int) ([] : List ByteArray) ([] : List ByteArray)), (2:Int))
  else
  bif ((a0.size : Int) != (32:Int)) then
    some ((Signature.mk (0:Int) ([] : List ByteArray) ([] : List ByteArray)), (1:Int))
  else
  ob (spec_l08Index.m N a1) fun y1 =>
  bif (!y1) then
    some ((Signature.mk (0:Int) ([] : List ByteArray) ([] : List ByteArray)), (4:Int))
  else
  ob (spec_l08Sign.m N a0 a1 a2) fun y2 =>
  some (y2, (0:Int))
@[reducible] noncomputable def sp (N : Nat) : Spec E := { ps := [.val .str, .val (.int .i64), .val .str], rs := [(.st 44), (.int .i64)], own := true, dp := false, R := R, fn := fun x => m N x.1 x.2.1 x.2.2.1, res := fun r => (r.1, r.2, ()), out := fun r => ((), (), (), ()), shut := fun a b => (a.1, a.2.1), res_shut := fun _ _ => rfl, out_shut := fun _ _ => rfl }
end spec_SignWith
end Mir.Y
