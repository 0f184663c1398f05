/- Models of functions. -/
import Derived.Test.YtojpcjbdehoibaaBM2
namespace Mir.Y
set_option linter.unusedVariables false
set_option maxRecDepth 10000
open Go Go.Proofs Mir
/-! ### spec_LedgerOK: loop.example/g00220/spec.LedgerOK -/
namespace spec_LedgerOK
abbrev R := Bool
noncomputable def step4 (N : Nat) (a0 : Ledger) (rec : Int → Option R) : Int → Option R
  | v0 =>
    bif (decide (v0 < (a0.Sessions.length : Int))) then
      bif (decide (0 ≤ v0)) then
      bif (decide (v0 < (a0.Sessions.length : Int))) then
      ob (spec_l01In.m N ((a0.Sessions.getD (Int.toNat v0) Session.dz).Id) (0:Int) (65535:Int)) fun y3 =>
      bif (!y3) then
        some false
      else
      ob (spec_l01In.m N ((a0.Sessions.getD (Int.toNat v0) Session.dz).Seq) (0:Int) (65535:Int)) fun y4 =>
      bif (bif false then true else (!y4)) then
        some false
      else
      bif (decide (v0 > (0:Int))) then
        bif (decide (0 ≤ (w64 (v0 - (1:Int))))) then
        bif (decide ((w64 (v0 - (1:Int))) < (a0.Sessions.length : Int))) then
        (let w5 : Bool := (bif true then (decide ((a0.Sessions.getD (Int.toNat (w64 (v0 - (1:Int)))) Session.dz).Id ≥ (a0.Sessions.getD (Int.toNat v0) Session.dz).Id)) else false)
        bif (bif false then true else w5) then
          some false
        else
        ob (spec_l01In.m N ((a0.Sessions.getD (Int.toNat v0) Session.dz).Last.Kind) (0:Int) (6:Int)) fun y6 =>
        bif (bif false then true else (!y6)) then
          some false
        else
        ob (spec_l01In.m N ((a0.Sessions.getD (Int.toNat v0) Session.dz).Last.Place) (0:Int) (50:Int)) fun y7 =>
        bif (bif false then true else (!y7)) then
          some false
        else
        bif (bif false then true else (decide ((((a0.Sessions.getD (Int.toNat v0) Session.dz).Last.Value).size : Int) > (60:Int)))) then
          some false
        else
        rec (w64 (v0 + (1:Int))))
        else none
        else none
      else
      bif (bif false then true else false) then
        some false
      else
      ob (spec_l01In.m N ((a0.Sessions.getD (Int.toNat v0) Session.dz).Last.Kind) (0:Int) (6:Int)) fun y8 =>
      bif (bif false then true else (!y8)) then
        some false
      else
      ob (spec_l01In.m N ((a0.Sessions.getD (Int.toNat v0) Session.dz).Last.Place) (0:Int) (50:Int)) fun y9 =>
      bif (bif false then true else (!y9)) then
        some false
      else
      bif (bif false then true else (decide ((((a0.Sessions.getD (Int.toNat v0) Session.dz).Last.Value).size : Int) > (60:Int)))) then
        some false
      else
      rec (w64 (v0 + (1:Int)))
      else none
      else none
    else
    some true
noncomputable def lp4 (N : Nat) (a0 : Ledger) : Int → Option R :=
  miter (fun rec => step4 N a0 rec) N
noncomputable def m (N : Nat) (a0 : Ledger) : Option R :=
  bif (decide ((a0.Leaves.length : Int) > (50:Int))) then
    some false
  else
  ob (spec_l06Hashes.m N a0.Leaves) fun y1 =>
  bif (bif false then true else (!y1)) then
    some false
  else
  ob (spec_MapOK.m N (Branch.mk a0.Map.Key a0.Map.Value a0.Map.At a0.Map.Kids)) fun y2 =>
  bif (bif false then true else (!y2)) then
    some false
  else
  bif (bif false then true else (decide ((a0.Sessions.length : Int) > (8:Int)))) then
    some false
  else
  lp4 N a0 (0:Int)
@[reducible] noncomputable def sp (N : Nat) : Spec E := { ps := [.val (.st 106)], rs := [.bool], own := true, dp := false, R := R, fn := fun x => m N x.1, res := fun r => (r, ()), out := fun r => ((), ()), shut := fun a b => a.1, res_shut := fun _ _ => rfl, out_shut := fun _ _ => rfl }
end spec_LedgerOK
/-! ### spec_l06Half: loop.example/g00220/spec.l06Half -/
namespace spec_l06Half
abbrev R := Int
noncomputable def step2 (N : Nat) (a0 : Int) (rec : Int → Option R) : Int → Option R
  | v1 =>
    bif (decide ((w64 ((2:Int) * v1)) < a0)) then
      rec (w64 (v1 * (2:Int)))
    else
    some v1
noncomputable def lp2 (N : Nat) (a0 : Int) : Int → Option R :=
  miter (fun rec => step2 N a0 rec) N
noncomputable def m (N : Nat) (a0 : Int) : Option R :=
  lp2 N a0 (1:Int)
@[reducible] noncomputable def sp (N : Nat) : Spec E := { ps := [.val (.int .i64)], rs := [(.int .i64)], own := true, dp := false, R := R, fn := fun x => m N x.1, res := fun r => (r, ()), out := fun r => ((), ()), shut := fun a b => a.1, res_shut := fun _ _ => rfl, out_shut := fun _ _ => rfl }
end spec_l06Half
/-! ### spec_l06Node: loop.example/g00220/spec.l06Node -/
namespace spec_l06Node
abbrev R := ByteArray
noncomputable def m (N : Nat) (a0 : ByteArray) (a1 : ByteArray) : Option R :=
  bif (room (([(1:Int)]).length + (bytesOf a0).length) 1) then
  bif (room (([(1:Int)] ++ (bytesOf a0)).length + (bytesOf a1).length) 1) then
  ob (spec_l01Hash.m N (([(1:Int)] ++ (bytesOf a0)) ++ (bytesOf a1))) fun y1 =>
  some y1
  else none
  else none
@[reducible] noncomputable def sp (N : Nat) : Spec E := { ps := [.val .str, .val .str], rs := [.str], own := true, dp := false, R := R, fn := fun x => m N x.1 x.2.1, res := fun r => (r, ()), out := fun r => ((), (), ()), shut := fun a b => a.1, res_shut := fun _ _ => rfl, out_shut := fun _ _ => rfl }
end spec_l06Node
/-! ### spec_l06Tree: loop.example/g00220/spec.l06Tree -/
namespace spec_l06Tree
abbrev R := ByteArray
@[reducible] noncomputable def spf (f : (List ByteArray) → Option R) : Spec E := { ps := [.val (.slice 9 .str)], rs := [.str], own := true, dp := false, R := R, fn := fun x => f x.1, res := fun r => (r, ()), out := fun r => ((), ()), shut := fun a b => a.1, res_shut := fun _ _ => rfl, out_shut := fun _ _ => rfl }
end spec_l06Tree
namespace spec_l06Tree
noncomputable def mb (N : Nat) (slf : (List ByteArray) → Option R) (a0 : List ByteArray) : Option R :=
  bif ((a0.length : Int) == (0:Int)) then
    ob (spec_l01Hash.m N ([] : List Int)) fun y1 =>
    some y1
  else
  bif ((a0.length : Int) == (1:Int)) then
    bif (decide (0 ≤ (0:Int))) then
    bif (decide ((0:Int) < (a0.length : Int))) then
    some (a0.getD 0 ByteArray.empty)
    else none
    else none
  else
  ob (spec_l06Half.m N (a0.length : Int)) fun y2 =>
  bif (decide (0 ≤ y2)) then
  bif (decide (y2 ≤ ((a0.length : Nat) : Int))) then
  ob (slf (a0.take (Int.toNat y2))) fun y3 =>
  bif (decide (0 ≤ y2)) then
  bif (decide (y2 ≤ ((a0.length : Nat) : Int))) then
  ob (slf (a0.drop (Int.toNat y2))) fun y4 =>
  ob (spec_l06Node.m N y3 y4) fun y5 =>
  some y5
  else none
  else none
  else none
  else none
noncomputable def mF (N : Nat) : Nat → (List ByteArray) → Option R
  | 0 => fun _ => none
  | n + 1 => fun a0 => mb N (mF N n) a0
noncomputable def m (N : Nat) : (List ByteArray) → Option R := mF N N
@[reducible] noncomputable def sp (N : Nat) : Spec E := spf (m N)
end spec_l06Tree
/-! ### spec_l09Root: loop.example/g00220/spec.l09Root -/
namespace spec_l09Root
abbrev R := ByteArray
noncomputable def m (N : Nat) (a0 : Ledger) : Option R :=
  ob (spec_l06Tree.m N a0.Leaves) fun y1 =>
  bif (decide ((⟨#[114, 111, 111, 116]⟩ : ByteArray).size + y1.size ≤ 9223372036854775807)) then
  ob (spec_l07Root.m N (Branch.mk a0.Map.Key a0.Map.Value a0.Map.At a0.Map.Kids)) fun y2 =>
  bif (decide (((⟨#[114, 111, 111, 116]⟩ : ByteArray) ++ y1).size + y2.size ≤ 9223372036854775807)) then
  ob (spec_l01Hash.m N (bytesOf (((⟨#[114, 111, 111, 116]⟩ : ByteArray) ++ y1) ++ y2))) fun y3 =>
  some y3
  else none
  else none
@[reducible] noncomputable def sp (N : Nat) : Spec E := { ps := [.val (.st 106)], rs := [.str], own := true, dp := false, R := R, fn := fun x => m N x.1, res := fun r => (r, ()), out := fun r => ((), ()), shut := fun a b => a.1, res_shut := fun _ _ => rfl, out_shut := fun _ _ => rfl }
end spec_l09Root
/-! ### spec_LedgerRoot: loop.example/g00220/spec.LedgerRoot -/
namespace spec_LedgerRoot
abbrev R := ByteArray × Int
noncomputable def m (N : Nat) (a0 : Ledger) : Option R :=
  ob (spec_LedgerOK.m N (Ledger.mk a0.Leaves (Branch.mk a0.Map.Key a0.Map.Value a0.Map.At a0.Map.Kids) a0.Sessions)) fun y1 =>
  bif (!y1) then
    some (ByteArray.empty, (1:Int))
  else
  ob (spec_l09Root.m N (Ledger.mk a0.Leaves (Branch.mk a0.Map.Key a0.Map.Value a0.Map.At a0.Map.Kids) a0.Sessions)) fun y2 =>
  some (y2, (0:Int))
@[reducible] noncomputable def sp (N : Nat) : Spec E := { ps := [.val (.st 106)], rs := [.str, (.int .i64)], own := true, dp := false, R := R, fn := fun x => m N x.1, res := fun r => (r.1, r.2, ()), out := fun r => ((), ()), shut := fun a b => (a.1, a.2.1), res_shut := fun _ _ => rfl, out_shut := fun _ _ => rfl }
end spec_LedgerRoot
/-! ### impl_isHash_1: loop.example/g00220/impl.isHash$1 -/
namespace impl_isHash_1
abbrev R := Bool
noncomputable def m (N : Nat) (a0 : ByteArray) : Option R :=
  some ((a0.size : Int) != (32:Int))
@[reducible] noncomputable def sp (N : Nat) : Spec E := { ps := [.val .str], rs := [.bool], own := true, dp := false, R := R, fn := fun x => m N x.1, res := fun r => (r, ()), out := fun r => ((), ()), shut := fun a b => a.1, res_shut := fun _ _ => rfl, out_shut := fun _ _ => rfl }
end impl_isHash_1
/-! ### slices_IndexFunc_string_string__impl_isHash_1: slices.IndexFunc[[]string,string] -/
namespace slices_IndexFunc_string_string__impl_isHash_1
abbrev R := Int
noncomputable def step2 (N : Nat) (a0 : List ByteArray) (rec : (Int × Int) → Option R) : (Int × Int) → Option R
  | (v1, v2) =>
    bif (decide (v2 < v1)) then
      bif (decide (0 ≤ v2)) then
      bif (decide (v2 < (a0.length : Int))) then
      ob (impl_isHash_1.m N (a0.getD (Int.toNat v2) ByteArray.empty)) fun y1 =>
      bif y1 then
        some v2
      else
      rec (v1, (w64 (v2 + (1:Int))))
      else none
      else none
    else
    some (-1:Int)
noncomputable def lp2 (N : Nat) (a0 : List ByteArray) : (Int × Int) → Option R :=
  miter (fun rec => step2 N a0 rec) N
noncomputable def m (N : Nat) (a0 : List ByteArray) : Option R :=
  lp2 N a0 ((a0.length : Int), (0:Int))
@[reducible] noncomputable def sp (N : Nat) : Spec E := { ps := [.val (.slice 9 .str), .clo 196 []], rs := [(.int .i64)], own := true, dp := false, R := R, fn := fun x => m N x.1, res := fun r => (r, ()), out := fun r => ((), (), ()), shut := fun a b => a.1, res_shut := fun _ _ => rfl, out_shut := fun _ _ => rfl }
end slices_IndexFunc_string_string__impl_isHash_1
/-! ### slices_ContainsFunc_string_string__impl_isHash_1: slices.ContainsFunc[[]string,string] -/
namespace slices_ContainsFunc_string_string__impl_isHash_1
abbrev R := Bool
noncomputable def m (N : Nat) (a0 : List ByteArray) : Option R :=
  ob (slices_IndexFunc_string_string__impl_isHash_1.m N a0) fun y1 =>
  some (decide (y1 ≥ (0:Int)))
@[reducible] noncomputable def sp (N : Nat) : Spec E := { ps := [.val (.slice 9 .str), .clo 196 []], rs := [.bool], own := true, dp := false, R := R, fn := fun x => m N x.1, res := fun r => (r, ()), out := fun r => ((), (), ()), shut := fun a b => a.1, res_shut := fun _ _ => rfl, out_shut := fun _ _ => rfl }
end slices_ContainsFunc_string_string__impl_isHash_1
/-! ### impl_isHash: loop.example/g00220/impl.isHash -/
namespace impl_isHash
abbrev R := Bool
noncomputable def m (N : Nat) (a0 : List ByteArray) : Option R :=
  ob (slices_ContainsFunc_string_string__impl_isHash_1.m N a0) fun y1 =>
  some (!y1)
@[reducible] noncomputable def sp (N : Nat) : Spec E := { ps := [.val (.slice 9 .str)], rs := [.bool], own := true, dp := false, R := R, fn := fun x => m N x.1, res := fun r => (r, ()), out := fun r => ((), ()), shut := fun a b => a.1, res_shut := fun _ _ => rfl, out_shut := fun _ _ => rfl }
end impl_isHash
/-! ### impl_MapOK: loop.example/g00220/impl.MapOK -/
namespace impl_MapOK
abbrev R := Bool
noncomputable def m (N : Nat) (a0 : Branch) : Option R :=
  ob (impl_mapPairs.m N (Branch.mk a0.Key a0.Value a0.At a0.Kids)) fun y1 =>
  some y1.2
@[reducible] noncomputable def sp (N : Nat) : Spec E := { ps := [.val (.st 71)], rs := [.bool], own := true, dp := false, R := R, fn := fun x => m N x.1, res := fun r => (r, ()), out := fun r => ((), ()), shut := fun a b => a.1, res_shut := fun _ _ => rfl, out_shut := fun _ _ => rfl }
end impl_MapOK
/-! ### impl_isShort: loop.example/g00220/impl.isShort -/
namespace impl_isShort
abbrev R := Bool
noncomputable def m (N : Nat) (a0 : Int) : Option R :=
  ob (impl_within.m N a0 (0:Int) (65535:Int)) fun y1 =>
  some y1
@[reducible] noncomputable def sp (N : Nat) : Spec E := { ps := [.val (.int .i64)], rs := [.bool], own := true, dp := false, R := R, fn := fun x => m N x.1, res := fun r => (r, ()), out := fun r => ((), ()), shut := fun a b => a.1, res_shut := fun _ _ => rfl, out_shut := fun _ _ => rfl }
end impl_isShort
/-! ### impl_replyOK: loop.example/g00220/impl.replyOK -/
namespace impl_replyOK
abbrev R := Bool
noncomputable def m (N : Nat) (a0 : Reply) : Option R :=
  ob (impl_within.m N a0.Kind (0:Int) (6:Int)) fun y1 =>
  bif y1 then
    ob (impl_within.m N a0.Place (0:Int) (50:Int)) fun y2 =>
    bif (bif true then y2 else false) then
      ob (impl_isValue.m N a0.Value) fun y3 =>
      some (bif true then y3 else false)
    else
    some false
  else
  some false
@[reducible] noncomputable def sp (N : Nat) : Spec E := { ps := [.val (.st 172)], rs := [.bool], own := true, dp := false, R := R, fn := fun x => m N x.1, res := fun r => (r, ()), out := fun r => ((), ()), shut := fun a b => a.1, res_shut := fun _ _ => rfl, out_shut := fun _ _ => rfl }
end impl_replyOK
/-! ### impl_LedgerOK: loop.example/g00220/impl.LedgerOK -/
namespace impl_LedgerOK
abbrev R := Bool
noncomputable def step4 (N : Nat) (a0 : Ledger) (rec : (Int × Int) → Option R) : (Int × Int) → Option R
  | (v1, v2) =>
    bif (decide (v2 < v1)) then
      bif (decide (0 ≤ v2)) then
      bif (decide (v2 < (a0.Sessions.length : Int))) then
      ob (impl_isShort.m N ((a0.Sessions.getD (Int.toNat v2) Session.dz).Id)) fun y3 =>
      bif (!y3) then
        some false
      else
      ob (impl_isShort.m N ((a0.Sessions.getD (Int.toNat v2) Session.dz).Seq)) fun y4 =>
      bif (bif false then true else (!y4)) then
        some false
      else
      ob (impl_replyOK.m N (Reply.mk ((a0.Sessions.getD (Int.toNat v2) Session.dz).Last.Kind) ((a0.Sessions.getD (Int.toNat v2) Session.dz).Last.Place) ((a0.Sessions.getD (Int.toNat v2) Session.dz).Last.Value))) fun y5 =>
      bif (bif false then true else (!y5)) then
        some false
      else
      bif (decide (v2 > (0:Int))) then
        bif (decide (0 ≤ (w64 (v2 - (1:Int))))) then
        bif (decide ((w64 (v2 - (1:Int))) < (a0.Sessions.length : Int))) then
        (let w6 : Bool := (bif true then (decide ((a0.Sessions.getD (Int.toNat (w64 (v2 - (1:Int)))) Session.dz).Id ≥ (a0.Sessions.getD (Int.toNat v2) Session.dz).Id)) else false)
        bif (bif false then true else w6) then
          some false
        else
        rec (v1, (w64 (v2 + (1:Int)))))
        else none
        else none
      else
      bif (bif false then true else false) then
        some false
      else
      rec (v1, (w64 (v2 + (1:Int))))
      else none
      else none
    else
    some true
noncomputable def lp4 (N : Nat) (a0 : Ledger) : (Int × Int) → Option R :=
  miter (fun rec => step4 N a0 rec) N
noncomputable def m (N : Nat) (a0 : Ledger) : Option R :=
  bif (decide ((a0.Leaves.length : Int) > (50:Int))) then
    some false
  else
  ob (impl_isHash.m N a0.Leaves) fun y1 =>
  bif (bif false then true else (!y1)) then
    some false
  else
  bif (bif false then true else (decide ((a0.Sessions.length : Int) > (8:Int)))) then
    some false
  else
  ob (impl_MapOK.m N (Branch.mk a0.Map.Key a0.Map.Value a0.Map.At a0.Map.Kids)) fun y2 =>
  bif (bif false then true else (!y2)) then
    some false
  else
  lp4 N a0 ((a0.Sessions.length : Int), (0:Int))
@[reducible] noncomputable def sp (N : Nat) : Spec E := { ps := [.val (.st 106)], rs := [.bool], own := true, dp := false, R := R, fn := fun x => m N x.1, res := fun r => (r, ()), out := fun r => ((), ()), shut := fun a b => a.1, res_shut := fun _ _ => rfl, out_shut := fun _ _ => rfl }
end impl_LedgerOK
/-! ### impl_split: loop.example/g00220/impl.split -/
namespace impl_split
abbrev R := Int
noncomputable def step2 (N : Nat) (a0 : Int) (rec : Int → Option R) : Int → Option R
  | v1 =>
    bif (decide ((w64 ((2:Int) * v1)) < a0)) then
      rec (w64 (v1 * (2:Int)))
    else
    some v1
noncomputable def lp2 (N : Nat) (a0 : Int) : Int → Option R :=
  miter (fun rec => step2 N a0 rec) N
noncomputable def m (N : Nat) (a0 : Int) : Option R :=
  lp2 N a0 (1:Int)
@[reducible] noncomputable def sp (N : Nat) : Spec E := { ps := [.val (.int .i64)], rs := [(.int .i64)], own := true, dp := false, R := R, fn := fun x => m N x.1, res := fun r => (r, ()), out := fun r => ((), ()), shut := fun a b => a.1, res_shut := fun _ _ => rfl, out_shut := fun _ _ => rfl }
end impl_split
/-! ### impl_nodeHash: loop.example/g00220/impl.nodeHash -/
namespace impl_nodeHash
abbrev R := ByteArray
noncomputable def m (N : Nat) (a0 : ByteArray) (a1 : ByteArray) : Option R :=
  bif (decide ((⟨#[1]⟩ : ByteArray).size + a0.size ≤ 9223372036854775807)) then
  bif (decide (((⟨#[1]⟩ : ByteArray) ++ a0).size + a1.size ≤ 9223372036854775807)) then
  ob (impl_hash.m N (((⟨#[1]⟩ : ByteArray) ++ a0) ++ a1)) fun y1 =>
  some y1
  else none
  else none
@[reducible] noncomputable def sp (N : Nat) : Spec E := { ps := [.val .str, .val .str], rs := [.str], own := true, dp := false, R := R, fn := fun x => m N x.1 x.2.1, res := fun r => (r, ()), out := fun r => ((), (), ()), shut := fun a b => a.1, res_shut := fun _ _ => rfl, out_shut := fun _ _ => rfl }
end impl_nodeHash
/-! ### impl_treeHash: loop.example/g00220/impl.treeHash -/
namespace impl_treeHash
abbrev R := ByteArray
@[reducible] noncomputable def spf (f : (List ByteArray) → Option R) : Spec E := { ps := [.val (.slice 9 .str)], rs := [.str], own := true, dp := false, R := R, fn := fun x => f x.1, res := fun r => (r, ()), out := fun r => ((), ()), shut := fun a b => a.1, res_shut := fun _ _ => rfl, out_shut := fun _ _ => rfl }
end impl_treeHash
namespace impl_treeHash
noncomputable def mb (N : Nat) (slf : (List ByteArray) → Option R) (a0 : List ByteArray) : Option R :=
  bif ((a0.length : Int) == (0:Int)) then
    ob (impl_hash.m N ByteArray.empty) fun y1 =>
    some y1
  else
  bif ((a0.length : Int) == (1:Int)) then
    bif (decide (0 ≤ (0:Int))) then
    bif (decide ((0:Int) < (a0.length : Int))) then
    some (a0.getD 0 ByteArray.empty)
    else none
    else none
  else
  ob (impl_split.m N (a0.length : Int)) fun y2 =>
  bif (decide (0 ≤ y2)) then
  bif (decide (y2 ≤ ((a0.length : Nat) : Int))) then
  ob (slf (a0.take (Int.toNat y2))) fun y3 =>
  bif (decide (0 ≤ y2)) then
  bif (decide (y2 ≤ ((a0.length : Nat) : Int))) then
  ob (slf (a0.drop (Int.toNat y2))) fun y4 =>
  ob (impl_nodeHash.m N y3 y4) fun y5 =>
  some y5
  else none
  else none
  else none
  else none
noncomputable def mF (N : Nat) : Nat → (List ByteArray) → Option R
  | 0 => fun _ => none
  | n + 1 => fun a0 => mb N (mF N n) a0
noncomputable def m (N : Nat) : (List ByteArray) → Option R := mF N N
@[reducible] noncomputable def sp (N : Nat) : Spec E := spf (m N)
end impl_treeHash
/-! ### impl_ledgerRoot: loop.example/g00220/impl.ledgerRoot -/
namespace impl_ledgerRoot
abbrev R := ByteArray
noncomputable def m (N : Nat) (a0 : Ledger) : Option R :=
  ob (impl_treeHash.m N a0.Leaves) fun y1 =>
  bif (decide ((⟨#[114, 111, 111, 116]⟩ : ByteArray).size + y1.size ≤ 9223372036854775807)) then
  ob (impl_mapRoot.m N (Branch.mk a0.Map.Key a0.Map.Value a0.Map.At a0.Map.Kids)) fun y2 =>
  bif (decide (((⟨#[114, 111, 111, 116]⟩ : ByteArray) ++ y1).size + y2.size ≤ 9223372036854775807)) then
  ob (impl_hash.m N (((⟨#[114, 111, 111, 116]⟩ : ByteArray) ++ y1) ++ y2)) fun y3 =>
  some y3
  else none
  else none
@[reducible] noncomputable def sp (N : Nat) : Spec E := { ps := [.val (.st 106)], rs := [.str], own := true, dp := false, R := R, fn := fun x => m N x.1, res := fun r => (r, ()), out := fun r => ((), ()), shut := fun a b => a.1, res_shut := fun _ _ => rfl, out_shut := fun _ _ => rfl }
end impl_ledgerRoot
/-! ### impl_LedgerRoot: loop.example/g00220/impl.LedgerRoot -/
namespace impl_LedgerRoot
abbrev R := ByteArray × Int
noncomputable def m (N : Nat) (a0 : Ledger) : Option R :=
  ob (impl_LedgerOK.m N (Ledger.mk a0.Leaves (Branch.mk a0.Map.Key a0.Map.Value a0.Map.At a0.Map.Kids) a0.Sessions)) fun y1 =>
  bif (!y1) then
    some (ByteArray.empty, (1:Int))
  else
  ob (impl_ledgerRoot.m N (Ledger.mk a0.Leaves (Branch.mk a0.Map.Key a0.Map.Value a0.Map.At a0.Map.Kids) a0.Sessions)) fun y2 =>
  some (y2, (0:Int))
@[reducible] noncomputable def sp (N : Nat) : Spec E := { ps := [.val (.st 106)], rs := [.str, (.int .i64)], own := true, dp := false, R := R, fn := fun x => m N x.1, res := fun r => (r.1, r.2, ()), out := fun r => ((), ()), shut := fun a b => (a.1, a.2.1), res_shut := fun _ _ => rfl, out_shut := fun _ _ => rfl }
end impl_LedgerRoot
/-! ### laws_eqStringS: loop.example/g00220/laws.eqStringS -/
namespace laws_eqStringS
abbrev R := Bool
noncomputable def step4 (N : Nat) (a0 : List ByteArray) (a1 : List ByteArray) (rec : Int → Option R) : Int → Option R
  | v2 =>
    bif (decide (v2 < (a0.length : Int))) then
      bif (decide (0 ≤ v2)) then
      bif (decide (v2 < (a0.length : Int))) then
      bif (decide (0 ≤ v2)) then
      bif (decide (v2 < (a1.length : Int))) then
      bif (!seq (a0.getD (Int.toNat v2) ByteArray.empty) (a1.getD (Int.toNat v2) ByteArray.empty)) then
        some false
      else
      rec (w64 (v2 + (1:Int)))
      else none
      else none
      else none
      else none
    else
    some true
noncomputable def lp4 (N : Nat) (a0 : List ByteArray) (a1 : List ByteArray) : Int → Option R :=
  miter (fun rec => step4 N a0 a1 rec) N
noncomputable def m (N : Nat) (a0 : List ByteArray) (a1 : List ByteArray) : Option R :=
  bif ((a0.length : Int) != (a1.length : Int)) then
    some false
  else
  lp4 N a0 a1 (0:Int)
@[reducible] noncomputable def sp (N : Nat) : Spec E := { ps := [.val (.slice 9 .str), .val (.slice 9 .str)], rs := [.bool], own := true, dp := false, R := R, fn := fun x => m N x.1 x.2.1, res := fun r => (r, ()), out := fun r => ((), (), ()), shut := fun a b => a.1, res_shut := fun _ _ => rfl, out_shut := fun _ _ => rfl }
end laws_eqStringS
/-! ### laws_eqReply: loop.example/g00220/laws.eqReply -/
namespace laws_eqReply
abbrev R := Bool
noncomputable def m (N : Nat) (a0 : Reply) (a1 : Reply) : Option R :=
  bif (a0.Kind != a1.Kind) then
    some false
  else
  bif (a0.Place != a1.Place) then
    some false
  else
  bif (!seq a0.Value a1.Value) then
    some false
  else
  some true
@[reducible] noncomputable def sp (N : Nat) : Spec E := { ps := [.val (.st 172), .val (.st 172)], rs := [.bool], own := true, dp := false, R := R, fn := fun x => m N x.1 x.2.1, res := fun r => (r, ()), out := fun r => ((), (), ()), shut := fun a b => a.1, res_shut := fun _ _ => rfl, out_shut := fun _ _ => rfl }
end laws_eqReply
/-! ### laws_eqSession: loop.example/g00220/laws.eqSession -/
namespace laws_eqSession
abbrev R := Bool
noncomputable def m (N : Nat) (a0 : Session) (a1 : Session) : Option R :=
  bif (a0.Id != a1.Id) then
    some false
  else
  bif (a0.Seq != a1.Seq) then
    some false
  else
  ob (laws_eqReply.m N (Reply.mk a0.Last.Kind a0.Last.Place a0.Last.Value) (Reply.mk a1.Last.Kind a1.Last.Place a1.Last.Value)) fun y1 =>
  bif (!y1) then
    some false
  else
  some true
@[reducible] noncomputable def sp (N : Nat) : Spec E := { ps := [.val (.st 174), .val (.st 174)], rs := [.bool], own := true, dp := false, R := R, fn := fun x => m N x.1 x.2.1, res := fun r => (r, ()), out := fun r => ((), (), ()), shut := fun a b => a.1, res_shut := fun _ _ => rfl, out_shut := fun _ _ => rfl }
end laws_eqSession
/-! ### laws_eqSessionS: loop.example/g00220/laws.eqSessionS -/
namespace laws_eqSessionS
abbrev R := Bool
noncomputable def step4 (N : Nat) (a0 : List Session) (a1 : List Session) (rec : Int → Option R) : Int → Option R
  | v2 =>
    bif (decide (v2 < (a0.length : Int))) then
      bif (decide (0 ≤ v2)) then
      bif (decide (v2 < (a0.length : Int))) then
      bif (decide (0 ≤ v2)) then
      bif (decide (v2 < (a1.length : Int))) then
      ob (laws_eqSession.m N (Session.mk ((a0.getD (Int.toNat v2) Session.dz).Id) ((a0.getD (Int.toNat v2) Session.dz).Seq) (Reply.mk ((a0.getD (Int.toNat v2) Session.dz).Last.Kind) ((a0.getD (Int.toNat v2) Session.dz).Last.Place) ((a0.getD (Int.toNat v2) Session.dz).Last.Value))) (Session.mk ((a1.getD (Int.toNat v2) Session.dz).Id) ((a1.getD (Int.toNat v2) Session.dz).Seq) (Reply.mk ((a1.getD (Int.toNat v2) Session.dz).Last.Kind) ((a1.getD (Int.toNat v2) Session.dz).Last.Place) ((a1.getD (Int.toNat v2) Session.dz).Last.Value)))) fun y1 =>
      bif (!y1) then
        some false
      else
      rec (w64 (v2 + (1:Int)))
      else none
      else none
      else none
      else none
    else
    some true
noncomputable def lp4 (N : Nat) (a0 : List Session) (a1 : List Session) : Int → Option R :=
  miter (fun rec => step4 N a0 a1 rec) N
noncomputable def m (N : Nat) (a0 : List Session) (a1 : List Session) : Option R :=
  bif ((a0.length : Int) != (a1.length : Int)) then
    some false
  else
  lp4 N a0 a1 (0:Int)
@[reducible] noncomputable def sp (N : Nat) : Spec E := { ps := [.val (.slice 174 (.st 174)), .val (.slice 174 (.st 174))], rs := [.bool], own := true, dp := false, R := R, fn := fun x => m N x.1 x.2.1, res := fun r => (r, ()), out := fun r => ((), (), ()), shut := fun a b => a.1, res_shut := fun _ _ => rfl, out_shut := fun _ _ => rfl }
end laws_eqSessionS
/-! ### laws_eqLedger: loop.example/g00220/laws.eqLedger -/
namespace laws_eqLedger
abbrev R := Bool
noncomputable def m (N : Nat) (a0 : Ledger) (a1 : Ledger) : Option R :=
  ob (laws_eqStringS.m N a0.Leaves a1.Leaves) fun y1 =>
  bif (!y1) then
    some false
  else
  ob (laws_eqBranch.m N (Branch.mk a0.Map.Key a0.Map.Value a0.Map.At a0.Map.Kids) (Branch.mk a1.Map.Key a1.Map.Value a1.Map.At a1.Map.Kids)) fun y2 =>
  bif (!y2) then
    some false
  else
  ob (laws_eqSessionS.m N a0.Sessions a1.Sessions) fun y3 =>
  bif (!y3) then
    some false
  else
  some true
@[reducible] noncomputable def sp (N : Nat) : Spec E := { ps := [.val (.st 106), .val (.st 106)], rs := [.bool], own := true, dp := false, R := R, fn := fun x => m N x.1 x.2.1, res := fun r => (r, ()), out := fun r => ((), (), ()), shut := fun a b => a.1, res_shut := fun _ _ => rfl, out_shut := fun _ _ => rfl }
end laws_eqLedger
/-! ### laws_FnExactLedgerRoot: loop.example/g00220/laws.FnExactLedgerRoot -/
namespace laws_FnExactLedgerRoot
abbrev R := Bool
noncomputable def m (N : Nat) (a0 : Ledger) : Option R :=
  ob (laws_szLedger.m N (Ledger.mk a0.Leaves (Branch.mk a0.Map.Key a0.Map.Value a0.Map.At a0.Map.Kids) a0.Sessions) (1048576:Int)) fun y1 =>
  bif (decide (y1 < (0:Int))) then
    some true
  else
  ob (laws_toLedger.m N (Ledger.mk a0.Leaves (Branch.mk a0.Map.Key a0.Map.Value a0.Map.At a0.Map.Kids) a0.Sessions)) fun y2 =>
  ob (spec_LedgerRoot.m N (Ledger.mk y2.Leaves (Branch.mk y2.Map.Key y2.Map.Value y2.Map.At y2.Map.Kids) y2.Sessions)) fun y3 =>
  ob (laws_toLedger.m N (Ledger.mk a0.Leaves (Branch.mk a0.Map.Key a0.Map.Value a0.Map.At a0.Map.Kids) a0.Sessions)) fun y4 =>
  ob (impl_LedgerRoot.m N (Ledger.mk y4.Leaves (Branch.mk y4.Map.Key y4.Map.Value y4.Map.At y4.Map.Kids) y4.Sessions)) fun y5 =>
  bif (!seq y5.1 y3.1) then
    some false
  else
  bif (bif false then true else (y5.2 != y3.2)) then
    some false
  else
  ob (laws_toLedger.m N (Ledger.mk a0.Leaves (Branch.mk a0.Map.Key a0.Map.Value a0.Map.At a0.Map.Kids) a0.Sessions)) fun y6 =>
  ob (laws_eqLedger.m N (Ledger.mk y4.Leaves (Branch.mk y4.Map.Key y4.Map.Value y4.Map.At y4.Map.Kids) y4.Sessions) (Ledger.mk y6.Leaves (Branch.mk y6.Map.Key y6.Map.Value y6.Map.At y6.Map.Kids) y6.Sessions)) fun y7 =>
  bif (!y7) then
    some false
  else
  some true
@[reducible] noncomputable def sp (N : Nat) : Spec E := { ps := [.val (.st 101)], rs := [.bool], own := true, dp := false, R := R, fn := fun x => m N x.1, res := fun r => (r, ()), out := fun r => ((), ()), shut := fun a b => a.1, res_shut := fun _ _ => rfl, out_shut := fun _ _ => rfl }
end laws_FnExactLedgerRoot
/-! ### laws_FnExactLedgerOK: loop.example/g00220/laws.FnExactLedgerOK -/
namespace laws_FnExactLedgerOK
abbrev R := Bool
noncomputable def m (N : Nat) (a0 : Ledger) : Option R :=
  ob (laws_szLedger.m N (Ledger.mk a0.Leaves (Branch.mk a0.Map.Key a0.Map.Value a0.Map.At a0.Map.Kids) a0.Sessions) (1048576:Int)) fun y1 =>
  bif (decide (y1 < (0:Int))) then
    some true
  else
  ob (laws_toLedger.m N (Ledger.mk a0.Leaves (Branch.mk a0.Map.Key a0.Map.Value a0.Map.At a0.Map.Kids) a0.Sessions)) fun y2 =>
  ob (spec_LedgerOK.m N (Ledger.mk y2.Leaves (Branch.mk y2.Map.Key y2.Map.Value y2.Map.At y2.Map.Kids) y2.Sessions)) fun y3 =>
  ob (laws_toLedger.m N (Ledger.mk a0.Leaves (Branch.mk a0.Map.Key a0.Map.Value a0.Map.At a0.Map.Kids) a0.Sessions)) fun y4 =>
  ob (impl_LedgerOK.m N (Ledger.mk y4.Leaves (Branch.mk y4.Map.Key y4.Map.Value y4.Map.At y4.Map.Kids) y4.Sessions)) fun y5 =>
  bif (!(y5 == y3)) then
    some false
  else
  ob (laws_toLedger.m N (Ledger.mk a0.Leaves (Branch.mk a0.Map.Key a0.Map.Value a0.Map.At a0.Map.Kids) a0.Sessions)) fun y6 =>
  ob (laws_eqLedger.m N (Ledger.mk y4.Leaves (Branch.mk y4.Map.Key y4.Map.Value y4.Map.At y4.Map.Kids) y4.Sessions) (Ledger.mk y6.Leaves (Branch.mk y6.Map.Key y6.Map.Value y6.Map.At y6.Map.Kids) y6.Sessions)) fun y7 =>
  bif (!y7) then
    some false
  else
  some true
@[reducible] noncomputable def sp (N : Nat) : Spec E := { ps := [.val (.st 101)], rs := [.bool], own := true, dp := false, R := R, fn := fun x => m N x.1, res := fun r => (r, ()), out := fun r => ((), ()), shut := fun a b => a.1, res_shut := fun _ _ => rfl, out_shut := fun _ _ => rfl }
end laws_FnExactLedgerOK
/-! ### spec_l07List: loop.example/g00220/spec.l07List -/
namespace spec_l07List
abbrev R := (List Command)
@[reducible] noncomputable def spf (f : Branch → (List Command) → Option R) : Spec E := { ps := [.val (.st 71), .mov false (.slice 97 (.st 97))], rs := [(.slice 97 (.st 97))], own := true, dp := false, R := R, fn := fun x => f x.1 x.2.1, res := fun r => (r, ()), out := fun r => ((), (), ()), shut := fun a b => a.1, res_shut := fun _ _ => rfl, out_shut := fun _ _ => rfl }
end spec_l07List
namespace spec_l07List
noncomputable def mb (N : Nat) (slf : Branch → (List Command) → Option R) (a0 : Branch) (a1 : List Command) : Option R :=
  ob (spec_l07Empty.m N (Branch.mk a0.Key a0.Value a0.At a0.Kids)) fun y1 =>
  bif y1 then
    some a1
  else
  ob (spec_l07Leaf.m N (Branch.mk a0.Key a0.Value a0.At a0.Kids)) fun y2 =>
  bif y2 then
    bif (room (a1.length + ([(Command.mk (1:Int) (0:Int) (0:Int) a0.Key a0.Value)]).length) 56) then
    some (a1 ++ [(Command.mk (1:Int) (0:Int) (0:Int) a0.Key a0.Value)])
    else none
  else
  bif (decide (0 ≤ (1:Int))) then
  bif (decide ((1:Int) < (a0.Kids.length : Int))) then
  bif (decide (0 ≤ (0:Int))) then
  bif (decide ((0:Int) < (a0.Kids.length : Int))) then
  ob (slf (Branch.mk ((a0.Kids.getD 0 Branch.dz).Key) ((a0.Kids.getD 0 Branch.dz).Value) ((a0.Kids.getD 0 Branch.dz).At) ((a0.Kids.getD 0 Branch.dz).Kids)) a1) fun y3 =>
  ob (slf (Branch.mk ((a0.Kids.getD 1 Branch.dz).Key) ((a0.Kids.getD 1 Branch.dz).Value) ((a0.Kids.getD 1 Branch.dz).At) ((a0.Kids.getD 1 Branch.dz).Kids)) y3) fun y4 =>
  some y4
  else none
  else none
  else none
  else none
noncomputable def mF (N : Nat) : Nat → Branch → (List Command) → Option R
  | 0 => fun _ _ => none
  | n + 1 => fun a0 a1 => mb N (mF N n) a0 a1
noncomputable def m (N : Nat) : Branch → (List Command) → Option R := mF N N
@[reducible] noncomputable def sp (N : Nat) : Spec E := spf (m N)
end spec_l07List
/-! ### spec_l02Two: loop.example/g00220/spec.l02Two -/
namespace spec_l02Two
abbrev R := (List Int)
noncomputable def m (N : Nat) (a0 : Int) : Option R :=
  bif (!decide ((256:Int) = 0)) then
  some ([(wu8 (w64 (Int.tdiv a0 (256:Int)))), (wu8 a0)])
  else none
@[reducible] noncomputable def sp (N : Nat) : Spec E := { ps := [.val (.int .i64)], rs := [(.slice 5 (.int .u8))], own := true, dp := false, R := R, fn := fun x => m N x.1, res := fun r => (r, ()), out := fun r => ((), ()), shut := fun a b => a.1, res_shut := fun _ _ => rfl, out_shut := fun _ _ => rfl }
end spec_l02Two
/-! ### spec_l09Snapshot: loop.example/g00220/spec.l09Snapshot -/
namespace spec_l09Snapshot
abbrev R := (List Int)
noncomputable def step3 (N : Nat) (a0 : Ledger) (lp9 : Int × (List Int) × (List Command) → Option R) (rec : (Int × (List Int)) → Option R) : (Int × (List Int)) → Option R
  | (v0, v7) =>
    bif (decide (v0 < (a0.Leaves.length : Int))) then
      bif (decide (0 ≤ v0)) then
      bif (decide (v0 < (a0.Leaves.length : Int))) then
      bif (room (v7.length + (bytesOf (a0.Leaves.getD (Int.toNat v0) ByteArray.empty)).length) 1) then
      rec ((w64 (v0 + (1:Int))), (v7 ++ (bytesOf (a0.Leaves.getD (Int.toNat v0) ByteArray.empty))))
      else none
      else none
      else none
    else
    ob (spec_l07List.m N (Branch.mk a0.Map.Key a0.Map.Value a0.Map.At a0.Map.Kids) ([] : List Command)) fun y1 =>
    bif (room (v7.length + ([(wu8 (y1.length : Int))]).length) 1) then
    lp9 ((0:Int), (v7 ++ [(wu8 (y1.length : Int))]), y1)
    else none
noncomputable def step9 (N : Nat) (a0 : Ledger) (lp15 : Int × (List Int) → Option R) (rec : (Int × (List Int) × (List Command)) → Option R) : (Int × (List Int) × (List Command)) → Option R
  | (v0, v7, v8) =>
    bif (decide (v0 < (v8.length : Int))) then
      bif (decide (0 ≤ v0)) then
      bif (decide (v0 < (v8.length : Int))) then
      bif (room (v7.length + ([(wu8 (((v8.getD (Int.toNat v0) Command.dz).Key).size : Int))]).length) 1) then
      bif (decide (0 ≤ v0)) then
      bif (decide (v0 < (v8.length : Int))) then
      bif (room ((v7 ++ [(wu8 (((v8.getD (Int.toNat v0) Command.dz).Key).size : Int))]).length + (bytesOf ((v8.getD (Int.toNat v0) Command.dz).Key)).length) 1) then
      bif (decide (0 ≤ v0)) then
      bif (decide (v0 < (v8.length : Int))) then
      bif (room (((v7 ++ [(wu8 (((v8.getD (Int.toNat v0) Command.dz).Key).size : Int))]) ++ (bytesOf ((v8.getD (Int.toNat v0) Command.dz).Key))).length + ([(wu8 (((v8.getD (Int.toNat v0) Command.dz).Value).size : Int))]).length) 1) then
      (let w2 : List Int := (((v7 ++ [(wu8 (((v8.getD (Int.toNat v0) Command.dz).Key).size : Int))]) ++ (bytesOf ((v8.getD (Int.toNat v0) Command.dz).Key))) ++ [(wu8 (((v8.getD (Int.toNat v0) Command.dz).Value).size : Int))])
      bif (decide (0 ≤ v0)) then
      bif (decide (v0 < (v8.length : Int))) then
      bif (room (w2.length + (bytesOf ((v8.getD (Int.toNat v0) Command.dz).Value)).length) 1) then
      rec ((w64 (v0 + (1:Int))), (w2 ++ (bytesOf ((v8.getD (Int.toNat v0) Command.dz).Value))), v8)
      else none
      else none
      else none)
      else none
      else none
      else none
      else none
      else none
      else none
      else none
      else none
      else none
    else
    bif (room (v7.length + ([(wu8 (a0.Sessions.length : Int))]).length) 1) then
    lp15 ((0:Int), (v7 ++ [(wu8 (a0.Sessions.length : Int))]))
    else none
noncomputable def step15 (N : Nat) (a0 : Ledger) (rec : (Int × (List Int)) → Option R) : (Int × (List Int)) → Option R
  | (v0, v7) =>
    bif (decide (v0 < (a0.Sessions.length : Int))) then
      bif (decide (0 ≤ v0)) then
      bif (decide (v0 < (a0.Sessions.length : Int))) then
      ob (spec_l02Two.m N ((a0.Sessions.getD (Int.toNat v0) Session.dz).Id)) fun y3 =>
      bif (room (v7.length + y3.length) 1) then
      ob (spec_l02Two.m N ((a0.Sessions.getD (Int.toNat v0) Session.dz).Seq)) fun y4 =>
      bif (room ((v7 ++ y3).length + y4.length) 1) then
      (let w5 : List Int := [(wu8 ((a0.Sessions.getD (Int.toNat v0) Session.dz).Last.Kind)), (wu8 ((a0.Sessions.getD (Int.toNat v0) Session.dz).Last.Place)), (wu8 (((a0.Sessions.getD (Int.toNat v0) Session.dz).Last.Value).size : Int))]
      bif (room (((v7 ++ y3) ++ y4).length + w5.length) 1) then
      bif (room ((((v7 ++ y3) ++ y4) ++ w5).length + (bytesOf ((a0.Sessions.getD (Int.toNat v0) Session.dz).Last.Value)).length) 1) then
      rec ((w64 (v0 + (1:Int))), ((((v7 ++ y3) ++ y4) ++ w5) ++ (bytesOf ((a0.Sessions.getD (Int.toNat v0) Session.dz).Last.Value))))
      else none
      else none)
      else none
      else none
      else none
      else none
    else
    some v7
noncomputable def lp15 (N : Nat) (a0 : Ledger) : (Int × (List Int)) → Option R :=
  miter (fun rec => step15 N a0 rec) N
noncomputable def lp9 (N : Nat) (a0 : Ledger) : (Int × (List Int) × (List Command)) → Option R :=
  miter (fun rec => step9 N a0 (lp15 N a0) rec) N
noncomputable def lp3 (N : Nat) (a0 : Ledger) : (Int × (List Int)) → Option R :=
  miter (fun rec => step3 N a0 (lp9 N a0) rec) N
noncomputable def m (N : Nat) (a0 : Ledger) : Option R :=
  lp3 N a0 ((0:Int), [(wu8 (a0.Leaves.length : Int))])
@[reducible] noncomputable def sp (N : Nat) : Spec E := { ps := [.val (.st 106)], rs := [(.slice 5 (.int .u8))], own := true, dp := false, R := R, fn := fun x => m N x.1, res := fun r => (r, ()), out := fun r => ((), ()), shut := fun a b => a.1, res_shut := fun _ _ => rfl, out_shut := fun _ _ => rfl }
end spec_l09Snapshot
/-! ### spec_SameLedger: loop.example/g00220/spec.SameLedger -/
namespace spec_SameLedger
abbrev R := Bool × Int
noncomputable def m (N : Nat) (a0 : Ledger) (a1 : Ledger) : Option R :=
  ob (spec_LedgerOK.m N (Ledger.mk a0.Leaves (Branch.mk a0.Map.Key a0.Map.Value a0.Map.At a0.Map.Kids) a0.Sessions)) fun y1 =>
  bif (!y1) then
    some (false, (1:Int))
  else
  ob (spec_LedgerOK.m N (Ledger.mk a1.Leaves (Branch.mk a1.Map.Key a1.Map.Value a1.Map.At a1.Map.Kids) a1.Sessions)) fun y2 =>
  bif (bif false then true else (!y2)) then
    some (false, (1:Int))
  else
  ob (spec_l09Snapshot.m N (Ledger.mk a0.Leaves (Branch.mk a0.Map.Key a0.Map.Value a0.Map.At a0.Map.Kids) a0.Sessions)) fun y3 =>
  ob (spec_l09Snapshot.m N (Ledger.mk a1.Leaves (Branch.mk a1.Map.Key a1.Map.Value a1.Map.At a1.Map.Kids) a1.Sessions)) fun y4 =>
  some ((seq (strOf y3) (strOf y4)), (0:Int))
@[reducible] noncomputable def sp (N : Nat) : Spec E := { ps := [.val (.st 106), .val (.st 106)], rs := [.bool, (.int .i64)], own := true, dp := false, R := R, fn := fun x => m N x.1 x.2.1, res := fun r => (r.1, r.2, ()), out := fun r => ((), (), ()), shut := fun a b => (a.1, a.2.1), res_shut := fun _ _ => rfl, out_shut := fun _ _ => rfl }
end spec_SameLedger
/-! ### slices_Clone_string_string: slices.Clone[[]string,string] -/
namespace slices_Clone_string_string
abbrev R := (List ByteArray)
noncomputable def m (N : Nat) (a0 : List ByteArray) : Option R :=
  amb (a0.isEmpty) true
    (some ([] : List ByteArray))
    (bif (room (([] : List ByteArray).length + a0.length) 16) then
    some (([] : List ByteArray) ++ a0)
    else none)
@[reducible] noncomputable def sp (N : Nat) : Spec E := { ps := [.val (.slice 9 .str)], rs := [(.slice 9 .str)], own := true, dp := false, R := R, fn := fun x => m N x.1, res := fun r => (r, ()), out := fun r => ((), ()), shut := fun a b => a.1, res_shut := fun _ _ => rfl, out_shut := fun _ _ => rfl }
end slices_Clone_string_string
/-! ### slices_Clone_impl_Session_impl_Session: slices.Clone[[]loop.example/g00220/impl.Session,loop.example/g00220/impl.Session] -/
namespace slices_Clone_impl_Session_impl_Session
abbrev R := (List Session)
noncomputable def m (N : Nat) (a0 : List Session) : Option R :=
  amb (a0.isEmpty) true
    (some ([] : List Session))
    (bif (room (([] : List Session).length + a0.length) 48) then
    some (([] : List Session) ++ a0)
    else none)
@[reducible] noncomputable def sp (N : Nat) : Spec E := { ps := [.val (.slice 174 (.st 174))], rs := [(.slice 174 (.st 174))], own := true, dp := false, R := R, fn := fun x => m N x.1, res := fun r => (r, ()), out := fun r => ((), ()), shut := fun a b => a.1, res_shut := fun _ _ => rfl, out_shut := fun _ _ => rfl }
end slices_Clone_impl_Session_impl_Session
/-! ### impl_booksOf: loop.example/g00220/impl.booksOf -/
namespace impl_booksOf
abbrev R := books
noncomputable def m (N : Nat) (a0 : Ledger) : Option R :=
  ob (impl_mapPairs.m N (Branch.mk a0.Map.Key a0.Map.Value a0.Map.At a0.Map.Kids)) fun y1 =>
  ob (slices_Clone_string_string.m N a0.Leaves) fun y2 =>
  ob (slices_Clone_impl_Session_impl_Session.m N a0.Sessions) fun y3 =>
  some (books.mk y2 y1.1 y3)
@[reducible] noncomputable def sp (N : Nat) : Spec E := { ps := [.val (.st 106)], rs := [(.pbx 230 230)], own := true, dp := false, R := R, fn := fun x => m N x.1, res := fun r => (r, ()), out := fun r => ((), ()), shut := fun a b => a.1, res_shut := fun _ _ => rfl, out_shut := fun _ _ => rfl }
end impl_booksOf
/-! ### impl_snapshot: loop.example/g00220/impl.snapshot -/
namespace impl_snapshot
abbrev R := ByteArray
noncomputable def step4 (N : Nat) (a0 : Ledger) (lp10 : ByteArray × Int × Int × (List ByteArray) × (List pairOf) × (List Session) → Option R) (rec : (ByteArray × Int × Int × (List ByteArray) × (List pairOf) × (List Session)) → Option R) : (ByteArray × Int × Int × (List ByteArray) × (List pairOf) × (List Session)) → Option R
  | (v0, v1, v2, v3, v4, v5) =>
    bif (decide (v2 < v1)) then
      bif (decide (0 ≤ v2)) then
      bif (decide (v2 < (v3.length : Int))) then
      bif (decide (v0.size + (v3.getD (Int.toNat v2) ByteArray.empty).size ≤ 9223372036854775807)) then
      rec ((v0 ++ (v3.getD (Int.toNat v2) ByteArray.empty)), v1, (w64 (v2 + (1:Int))), v3, v4, v5)
      else none
      else none
      else none
    else
    ob (impl_number.m N (v4.length : Int) (1:Int)) fun y3 =>
    bif (decide (v0.size + y3.size ≤ 9223372036854775807)) then
    lp10 ((v0 ++ y3), (v4.length : Int), (0:Int), v3, v4, v5)
    else none
noncomputable def step10 (N : Nat) (a0 : Ledger) (lp16 : ByteArray × Int × Int × (List Session) → Option R) (rec : (ByteArray × Int × Int × (List ByteArray) × (List pairOf) × (List Session)) → Option R) : (ByteArray × Int × Int × (List ByteArray) × (List pairOf) × (List Session)) → Option R
  | (v0, v1, v2, v3, v4, v5) =>
    bif (decide (v2 < v1)) then
      bif (decide (0 ≤ v2)) then
      bif (decide (v2 < (v4.length : Int))) then
      ob (impl_counted.m N ((v4.getD (Int.toNat v2) pairOf.dz).key)) fun y4 =>
      ob (impl_counted.m N ((v4.getD (Int.toNat v2) pairOf.dz).value)) fun y5 =>
      bif (decide (y4.size + y5.size ≤ 9223372036854775807)) then
      bif (decide (v0.size + (y4 ++ y5).size ≤ 9223372036854775807)) then
      rec ((v0 ++ (y4 ++ y5)), v1, (w64 (v2 + (1:Int))), v3, v4, v5)
      else none
      else none
      else none
      else none
    else
    ob (impl_number.m N (v5.length : Int) (1:Int)) fun y6 =>
    bif (decide (v0.size + y6.size ≤ 9223372036854775807)) then
    lp16 ((v0 ++ y6), (v5.length : Int), (0:Int), v5)
    else none
noncomputable def step16 (N : Nat) (a0 : Ledger) (rec : (ByteArray × Int × Int × (List Session)) → Option R) : (ByteArray × Int × Int × (List Session)) → Option R
  | (v0, v1, v2, v3) =>
    bif (decide (v2 < v1)) then
      bif (decide (0 ≤ v2)) then
      bif (decide (v2 < (v3.length : Int))) then
      ob (impl_number.m N ((v3.getD (Int.toNat v2) Session.dz).Id) (2:Int)) fun y7 =>
      ob (impl_number.m N ((v3.getD (Int.toNat v2) Session.dz).Seq) (2:Int)) fun y8 =>
      bif (decide (y7.size + y8.size ≤ 9223372036854775807)) then
      ob (impl_number.m N ((v3.getD (Int.toNat v2) Session.dz).Last.Kind) (1:Int)) fun y9 =>
      bif (decide ((y7 ++ y8).size + y9.size ≤ 9223372036854775807)) then
      ob (impl_number.m N ((v3.getD (Int.toNat v2) Session.dz).Last.Place) (1:Int)) fun y10 =>
      bif (decide (((y7 ++ y8) ++ y9).size + y10.size ≤ 9223372036854775807)) then
      ob (impl_counted.m N ((v3.getD (Int.toNat v2) Session.dz).Last.Value)) fun y11 =>
      bif (decide ((((y7 ++ y8) ++ y9) ++ y10).size + y11.size ≤ 9223372036854775807)) then
      bif (decide (v0.size + ((((y7 ++ y8) ++ y9) ++ y10) ++ y11).size ≤ 9223372036854775807)) then
      rec ((v0 ++ ((((y7 ++ y8) ++ y9) ++ y10) ++ y11)), v1, (w64 (v2 + (1:Int))), v3)
      else none
      else none
      else none
      else none
      else none
      else none
      else none
    else
    some v0
noncomputable def lp16 (N : Nat) (a0 : Ledger) : (ByteArray × Int × Int × (List Session)) → Option R :=
  miter (fun rec => step16 N a0 rec) N
noncomputable def lp10 (N : Nat) (a0 : Ledger) : (ByteArray × Int × Int × (List ByteArray) × (List pairOf) × (List Session)) → Option R :=
  miter (fun rec => step10 N a0 (lp16 N a0) rec) N
noncomputable def lp4 (N : Nat) (a0 : Ledger) : (ByteArray × Int × Int × (List ByteArray) × (List pairOf) × (List Session)) → Option R :=
  miter (fun rec => step4 N a0 (lp10 N a0) rec) N
noncomputable def m (N : Nat) (a0 : Ledger) : Option R :=
  ob (impl_booksOf.m N (Ledger.mk a0.Leaves (Branch.mk a0.Map.Key a0.Map.Value a0.Map.At a0.Map.Kids) a0.Sessions)) fun y1 =>
  ob (impl_number.m N (y1.leaves.length : Int) (1:Int)) fun y2 =>
  lp4 N a0 (y2, (y1.leaves.length : Int), (0:Int), y1.leaves, y1.pairs, y1.sessions)
@[reducible] noncomputable def sp (N : Nat) : Spec E := { ps := [.val (.st 106)], rs := [.str], own := true, dp := false, R := R, fn := fun x => m N x.1, res := fun r => (r, ()), out := fun r => ((), ()), shut := fun a b => a.1, res_shut := fun _ _ => rfl, out_shut := fun _ _ => rfl }
end impl_snapshot
/-! ### impl_SameLedger: loop.example/g00220/impl.SameLedger -/
namespace impl_SameLedger
abbrev R := Bool × Int
noncomputable def m (N : Nat) (a0 : Ledger) (a1 : Ledger) : Option R :=
  ob (impl_LedgerOK.m N (Ledger.mk a0.Leaves (Branch.mk a0.Map.Key a0.Map.Value a0.Map.At a0.Map.Kids) a0.Sessions)) fun y1 =>
  bif (!y1) then
    some (false, (1:Int))
  else
  ob (impl_LedgerOK.m N (Ledger.mk a1.Leaves (Branch.mk a1.Map.Key a1.Map.Value a1.Map.At a1.Map.Kids) a1.Sessions)) fun y2 =>
  bif (bif false then true else (!y2)) then
    some (false, (1:Int))
  else
  ob (impl_snapshot.m N (Ledger.mk a0.Leaves (Branch.mk a0.Map.Key a0.Map.Value a0.Map.At a0.Map.Kids) a0.Sessions)) fun y3 =>
  ob (impl_snapshot.m N (Ledger.mk a1.Leaves (Branch.mk a1.Map.Key a1.Map.Value a1.Map.At a1.Map.Kids) a1.Sessions)) fun y4 =>
  some ((seq y3 y4), (0:Int))
@[reducible] noncomputable def sp (N : Nat) : Spec E := { ps := [.val (.st 106), .val (.st 106)], rs := [.bool, (.int .i64)], own := true, dp := false, R := R, fn := fun x => m N x.1 x.2.1, res := fun r => (r.1, r.2, ()), out := fun r => ((), (), ()), shut := fun a b => (a.1, a.2.1), res_shut := fun _ _ => rfl, out_shut := fun _ _ => rfl }
end impl_SameLedger
/-! ### laws_FnExactSameLedger: loop.example/g00220/laws.FnExactSameLedger -/
namespace laws_FnExactSameLedger
abbrev R := Bool
noncomputable def m (N : Nat) (a0 : Ledger) (a1 : Ledger) : Option R :=
  ob (laws_szLedger.m N (Ledger.mk a0.Leaves (Branch.mk a0.Map.Key a0.Map.Value a0.Map.At a0.Map.Kids) a0.Sessions) (1048576:Int)) fun y1 =>
  bif (decide (y1 < (0:Int))) then
    some true
  else
  ob (laws_szLedger.m N (Ledger.mk a1.Leaves (Branch.mk a1.Map.Key a1.Map.Value a1.Map.At a1.Map.Kids) a1.Sessions) y1) fun y2 =>
  bif (decide (y2 < (0:Int))) then
    some true
  else
  ob (laws_toLedger.m N (Ledger.mk a0.Leaves (Branch.mk a0.Map.Key a0.Map.Value a0.Map.At a0.Map.Kids) a0.Sessions)) fun y3 =>
  ob (laws_toLedger.m N (Ledger.mk a1.Leaves (Branch.mk a1.Map.Key a1.Map.Value a1.Map.At a1.Map.Kids) a1.Sessions)) fun y4 =>
  ob (spec_SameLedger.m N (Ledger.mk y3.Leaves (Branch.mk y3.Map.Key y3.Map.Value y3.Map.At y3.Map.Kids) y3.Sessions) (Ledger.mk y4.Leaves (Branch.mk y4.Map.Key y4.Map.Value y4.Map.At y4.Map.Kids) y4.Sessions)) fun y5 =>
  ob (laws_toLedger.m N (Ledger.mk a0.Leaves (Branch.mk a0.Map.Key a0.Map.Value a0.Map.At a0.Map.Kids) a0.Sessions)) fun y6 =>
  ob (laws_toLedger.m N (Ledger.mk a1.Leaves (Branch.mk a1.Map.Key a1.Map.Value a1.Map.At a1.Map.Kids) a1.Sessions)) fun y7 =>
  ob (impl_SameLedger.m N (Ledger.mk y6.Leaves (Branch.mk y6.Map.Key y6.Map.Value y6.Map.At y6.Map.Kids) y6.Sessions) (Ledger.mk y7.Leaves (Branch.mk y7.Map.Key y7.Map.Value y7.Map.At y7.Map.Kids) y7.Sessions)) fun y8 =>
  bif (!(y8.1 == y5.1)) then
    some false
  else
  bif (bif false then true else (y8.2 != y5.2)) then
    some false
  else
  ob (laws_toLedger.m N (Ledger.mk a0.Leaves (Branch.mk a0.Map.Key a0.Map.Value a0.Map.At a0.Map.Kids) a0.Sessions)) fun y9 =>
  ob (laws_eqLedger.m N (Ledger.mk y6.Leaves (Branch.mk y6.Map.Key y6.Map.Value y6.Map.At y6.Map.Kids) y6.Sessions) (Ledger.mk y9.Leaves (Branch.mk y9.Map.Key y9.Map.Value y9.Map.At y9.Map.Kids) y9.Sessions)) fun y10 =>
  bif (!y10) then
    some false
  else
  ob (laws_toLedger.m N (Ledger.mk a1.Leaves (Branch.mk a1.Map.Key a1.Map.Value a1.Map.At a1.Map.Kids) a1.Sessions)) fun y11 =>
  ob (laws_eqLedger.m N (Ledger.mk y7.Leaves (Branch.mk y7.Map.Key y7.Map.Value y7.Map.At y7.Map.Kids) y7.Sessions) (Ledger.mk y11.Leaves (Branch.mk y11.Map.Key y11.Map.Value y11.Map.At y11.Map.Kids) y11.Sessions)) fun y12 =>
  bif (!y12) then
    some false
  else
  some true
@[reducible] noncomputable def sp (N : Nat) : Spec E := { ps := [.val (.st 101), .val (.st 101)], rs := [.bool], own := true, dp := false, R := R, fn := fun x => m N x.1 x.2.1, res := fun r => (r, ()), out := fun r => ((), (), ()), shut := fun a b => a.1, res_shut := fun _ _ => rfl, out_shut := fun _ _ => rfl }
end laws_FnExactSameLedger
end Mir.Y
