/- Models of functions. -/
import Derived.Test.YtojpcjbdehoibaaBM1
namespace Mir.Y
set_option linter.unusedVariables false
set_option maxRecDepth 10000
open Go Go.Proofs Mir
/-! ### impl_blockHash: loop.example/g00220/impl.blockHash -/
namespace impl_blockHash
abbrev R := (List Int)
noncomputable def step3 (N : Nat) (a0 : List Int) (a1 : List Int) (a2 : ByteArray) (lp11 : Int × (List Int) × (List Int) → Option R) (rec : (Int × (List Int) × (List Int) × (List Int)) → Option R) : (Int × (List Int) × (List Int) × (List Int)) → Option R
  | (v0, v3, v4, v5) =>
    bif (decide (v0 < (64:Int))) then
      bif (decide (0 ≤ (0:Int))) then
      bif (decide ((0:Int) < (8 : Int))) then
      bif (decide (0 ≤ (1:Int))) then
      bif (decide ((1:Int) < (8 : Int))) then
      bif (decide (0 ≤ (2:Int))) then
      bif (decide ((2:Int) < (8 : Int))) then
      bif (decide (0 ≤ (4:Int))) then
      bif (decide ((4:Int) < (8 : Int))) then
      bif (decide (0 ≤ (5:Int))) then
      bif (decide ((5:Int) < (8 : Int))) then
      bif (decide (0 ≤ (6:Int))) then
      bif (decide ((6:Int) < (8 : Int))) then
      bif (decide (0 ≤ (7:Int))) then
      bif (decide ((7:Int) < (8 : Int))) then
      ob (impl_turned.m N (v4.getD 4 0) (6:Int)) fun y2 =>
      ob (impl_turned.m N (v4.getD 4 0) (11:Int)) fun y3 =>
      ob (impl_turned.m N (v4.getD 4 0) (25:Int)) fun y4 =>
      (let w5 : Int := (ibit .or .u32 (ibit .and .u32 (v4.getD 4 0) (v4.getD 5 0)) (ibit .and .u32 (ibit .xor .u32 (if IntKind.signed .u32 then -1 else IntKind.max .u32) (v4.getD 4 0)) (v4.getD 6 0)))
      bif (decide (0 ≤ v0)) then
      bif (decide (v0 < (64 : Int))) then
      bif (decide (0 ≤ v0)) then
      bif (decide (v0 < (64 : Int))) then
      (let w6 : Int := (wu32 ((wu32 ((wu32 ((wu32 ((v4.getD 7 0) + (ibit .xor .u32 (ibit .xor .u32 y2 y3) y4))) + w5)) + (a1.getD (Int.toNat v0) 0))) + (v5.getD (Int.toNat v0) 0)))
      ob (impl_turned.m N (v4.getD 0 0) (2:Int)) fun y7 =>
      ob (impl_turned.m N (v4.getD 0 0) (13:Int)) fun y8 =>
      ob (impl_turned.m N (v4.getD 0 0) (22:Int)) fun y9 =>
      (let w10 : Int := (ibit .or .u32 (ibit .or .u32 (ibit .and .u32 (v4.getD 0 0) (v4.getD 1 0)) (ibit .and .u32 (v4.getD 0 0) (v4.getD 2 0))) (ibit .and .u32 (v4.getD 1 0) (v4.getD 2 0)))
      bif (decide (0 ≤ (3:Int))) then
      bif (decide ((3:Int) < (8 : Int))) then
      (let w11 : List Int := [(wu32 (w6 + (wu32 ((ibit .xor .u32 (ibit .xor .u32 y7 y8) y9) + w10)))), (v4.getD 0 0), (v4.getD 1 0), (v4.getD 2 0), (wu32 ((v4.getD 3 0) + w6)), (v4.getD 4 0), (v4.getD 5 0), (v4.getD 6 0)]
      rec ((w64 (v0 + (1:Int))), v3, w11, v5))
      else none
      else none))
      else none
      else none
      else none
      else none)
      else none
      else none
      else none
      else none
      else none
      else none
      else none
      else none
      else none
      else none
      else none
      else none
      else none
      else none
    else
    lp11 ((0:Int), v3, v4)
noncomputable def step11 (N : Nat) (a0 : List Int) (a1 : List Int) (a2 : ByteArray) (rec : (Int × (List Int) × (List Int)) → Option R) : (Int × (List Int) × (List Int)) → Option R
  | (v0, v2, v3) =>
    bif (decide (v0 < (8:Int))) then
      bif (decide (0 ≤ v0)) then
      bif (decide (v0 < (8 : Int))) then
      bif (decide (0 ≤ v0)) then
      bif (decide (v0 < (8 : Int))) then
      bif (decide (0 ≤ v0)) then
      bif (decide (v0 < (8 : Int))) then
      rec ((w64 (v0 + (1:Int))), v2, (v3.set (Int.toNat v0) (wu32 ((v3.getD (Int.toNat v0) 0) + (a0.getD (Int.toNat v0) 0)))))
      else none
      else none
      else none
      else none
      else none
      else none
    else
    some v3
noncomputable def lp11 (N : Nat) (a0 : List Int) (a1 : List Int) (a2 : ByteArray) : (Int × (List Int) × (List Int)) → Option R :=
  miter (fun rec => step11 N a0 a1 a2 rec) N
noncomputable def lp3 (N : Nat) (a0 : List Int) (a1 : List Int) (a2 : ByteArray) : (Int × (List Int) × (List Int) × (List Int)) → Option R :=
  miter (fun rec => step3 N a0 a1 a2 (lp11 N a0 a1 a2) rec) N
noncomputable def m (N : Nat) (a0 : List Int) (a1 : List Int) (a2 : ByteArray) : Option R :=
  ob (impl_wordsOf.m N a2) fun y1 =>
  lp3 N a0 a1 a2 ((0:Int), (List.replicate 8 (0:Int)), a0, y1)
@[reducible] noncomputable def sp (N : Nat) : Spec E := { ps := [.val (.arr .u32 8), .val (.arr .u32 64), .val .str], rs := [(.arr .u32 8)], own := true, dp := false, R := R, fn := fun x => m N x.1 x.2.1 x.2.2.1, res := fun r => (r, ()), out := fun r => ((), (), (), ()), shut := fun a b => a.1, res_shut := fun _ _ => rfl, out_shut := fun _ _ => rfl }
end impl_blockHash
/-! ### impl_hash: loop.example/g00220/impl.hash -/
namespace impl_hash
abbrev R := ByteArray
noncomputable def step4 (N : Nat) (a0 : ByteArray) (lp9 : ByteArray × (List Int) × Int → Option R) (rec : (ByteArray × Int × (List Int) × (List Int)) → Option R) : (ByteArray × Int × (List Int) × (List Int)) → Option R
  | (v0, v1, v2, v3) =>
    bif (decide (v1 < (v0.size : Int))) then
      bif (decide (0 ≤ (w64 (v1 + (64:Int))))) then
      bif (decide ((w64 (v1 + (64:Int))) ≤ ((v0.size : Nat) : Int))) then
      bif (decide (0 ≤ v1)) then
      bif (decide (v1 ≤ (((Int.toNat (w64 (v1 + (64:Int)))) : Nat) : Int))) then
      ob (impl_blockHash.m N v2 v3 (v0.extract (Int.toNat v1) (Int.toNat (w64 (v1 + (64:Int)))))) fun y5 =>
      rec (v0, (w64 (v1 + (64:Int))), y5, v3)
      else none
      else none
      else none
      else none
    else
    lp9 (ByteArray.empty, v2, (0:Int))
noncomputable def step9 (N : Nat) (a0 : ByteArray) (rec : (ByteArray × (List Int) × Int) → Option R) : (ByteArray × (List Int) × Int) → Option R
  | (v0, v1, v2) =>
    bif (decide (v2 < (8:Int))) then
      bif (decide (0 ≤ v2)) then
      bif (decide (v2 < (8 : Int))) then
      ob (impl_number.m N (w64 (v1.getD (Int.toNat v2) 0)) (4:Int)) fun y6 =>
      bif (decide (v0.size + y6.size ≤ 9223372036854775807)) then
      rec ((v0 ++ y6), v1, (w64 (v2 + (1:Int))))
      else none
      else none
      else none
    else
    some v0
noncomputable def lp9 (N : Nat) (a0 : ByteArray) : (ByteArray × (List Int) × Int) → Option R :=
  miter (fun rec => step9 N a0 rec) N
noncomputable def lp4 (N : Nat) (a0 : ByteArray) : (ByteArray × Int × (List Int) × (List Int)) → Option R :=
  miter (fun rec => step4 N a0 (lp9 N a0) rec) N
noncomputable def m (N : Nat) (a0 : ByteArray) : Option R :=
  bif (decide (a0.size + (⟨#[128]⟩ : ByteArray).size ≤ 9223372036854775807)) then
  bif (!decide ((64:Int) = 0)) then
  bif (!decide ((64:Int) = 0)) then
  ob (strings_Repeat.m N (⟨#[0]⟩ : ByteArray) (Int.tmod (w64 ((119:Int) - (Int.tmod (a0.size : Int) (64:Int)))) (64:Int))) fun y1 =>
  bif (decide ((a0 ++ (⟨#[128]⟩ : ByteArray)).size + y1.size ≤ 9223372036854775807)) then
  ob (impl_number.m N (w64 ((8:Int) * (a0.size : Int))) (8:Int)) fun y2 =>
  bif (decide (((a0 ++ (⟨#[128]⟩ : ByteArray)) ++ y1).size + y2.size ≤ 9223372036854775807)) then
  ob (impl_hashWords.m N) fun y3 =>
  ob (impl_roundWords.m N) fun y4 =>
  lp4 N a0 ((((a0 ++ (⟨#[128]⟩ : ByteArray)) ++ y1) ++ y2), (0:Int), y3, y4)
  else none
  else none
  else none
  else none
  else none
@[reducible] noncomputable def sp (N : Nat) : Spec E := { ps := [.val .str], rs := [.str], own := true, dp := false, R := R, fn := fun x => m N x.1, res := fun r => (r, ()), out := fun r => ((), ()), shut := fun a b => a.1, res_shut := fun _ _ => rfl, out_shut := fun _ _ => rfl }
end impl_hash
/-! ### impl_Branch_isFork: (loop.example/g00220/impl.Branch).isFork -/
namespace impl_Branch_isFork
abbrev R := Bool
noncomputable def m (N : Nat) (a0 : Branch) : Option R :=
  bif (seq a0.Key ByteArray.empty) then
    bif (bif true then (seq a0.Value ByteArray.empty) else false) then
      ob (impl_within.m N a0.At (0:Int) (255:Int)) fun y1 =>
      bif (bif true then y1 else false) then
        some (bif true then ((a0.Kids.length : Int) == (2:Int)) else false)
      else
      some false
    else
    some false
  else
  some false
@[reducible] noncomputable def sp (N : Nat) : Spec E := { ps := [.val (.st 71)], rs := [.bool], own := true, dp := false, R := R, fn := fun x => m N x.1, res := fun r => (r, ()), out := fun r => ((), ()), shut := fun a b => a.1, res_shut := fun _ _ => rfl, out_shut := fun _ _ => rfl }
end impl_Branch_isFork
/-! ### impl_bit: loop.example/g00220/impl.bit -/
namespace impl_bit
abbrev R := Int
noncomputable def m (N : Nat) (a0 : ByteArray) (a1 : Int) : Option R :=
  bif (!decide ((8:Int) = 0)) then
  bif (decide (0 ≤ (w64 (Int.tdiv a1 (8:Int))))) then
  bif (decide ((w64 (Int.tdiv a1 (8:Int))) < (a0.size : Int))) then
  bif (!decide ((8:Int) = 0)) then
  bif (!decide ((w64 ((7:Int) - (Int.tmod a1 (8:Int)))) < 0)) then
  (let w1 : Int := (ibit .and .i64 (w64 (Int.fdiv (sb a0 (w64 (Int.tdiv a1 (8:Int)))) (2 ^ (min (Int.toNat (w64 ((7:Int) - (Int.tmod a1 (8:Int))))) 8)))) (1:Int))
  some w1)
  else none
  else none
  else none
  else none
  else none
@[reducible] noncomputable def sp (N : Nat) : Spec E := { ps := [.val .str, .val (.int .i64)], rs := [(.int .i64)], own := true, dp := false, R := R, fn := fun x => m N x.1 x.2.1, res := fun r => (r, ()), out := fun r => ((), (), ()), shut := fun a b => a.1, res_shut := fun _ _ => rfl, out_shut := fun _ _ => rfl }
end impl_bit
/-! ### impl_Branch_pairs_1: (loop.example/g00220/impl.Branch).pairs$1 -/
namespace impl_Branch_pairs_1
abbrev R := Bool
noncomputable def m (N : Nat) (a0 : pairOf) (a1 : Branch) (a2 : Int) : Option R :=
  ob (impl_bit.m N a0.hash a1.At) fun y1 =>
  some (y1 != a2)
@[reducible] noncomputable def sp (N : Nat) : Spec E := { ps := [.val (.st 146), .cap (.rb (.st 71)), .cap (.rb (.int .i64))], rs := [.bool], own := true, dp := false, R := R, fn := fun x => m N x.1 x.2.1 x.2.2.1, res := fun r => (r, ()), out := fun r => ((), (), (), ()), shut := fun a b => a.1, res_shut := fun _ _ => rfl, out_shut := fun _ _ => rfl }
end impl_Branch_pairs_1
/-! ### slices_IndexFunc_impl_pairOf_impl_pairOf__impl_Branch_pairs_1: slices.IndexFunc[[]loop.example/g00220/impl.pairOf,loop.example/g00220/impl.pairOf] -/
namespace slices_IndexFunc_impl_pairOf_impl_pairOf__impl_Branch_pairs_1
abbrev R := Int
noncomputable def step2 (N : Nat) (a0 : List pairOf) (a1_0 : Branch) (a1_1 : Int) (rec : (Int × Int) → Option R) : (Int × Int) → Option R
  | (v1, v2) =>
    bif (decide (v2 < v1)) then
      bif (decide (0 ≤ v2)) then
      bif (decide (v2 < (a0.length : Int))) then
      ob (impl_Branch_pairs_1.m N (a0.getD (Int.toNat v2) pairOf.dz) (Branch.mk a1_0.Key a1_0.Value a1_0.At a1_0.Kids) a1_1) fun y1 =>
      bif y1 then
        some v2
      else
      rec (v1, (w64 (v2 + (1:Int))))
      else none
      else none
    else
    some (-1:Int)
noncomputable def lp2 (N : Nat) (a0 : List pairOf) (a1_0 : Branch) (a1_1 : Int) : (Int × Int) → Option R :=
  miter (fun rec => step2 N a0 a1_0 a1_1 rec) N
noncomputable def m (N : Nat) (a0 : List pairOf) (a1_0 : Branch) (a1_1 : Int) : Option R :=
  lp2 N a0 a1_0 a1_1 ((a0.length : Int), (0:Int))
@[reducible] noncomputable def sp (N : Nat) : Spec E := { ps := [.val (.slice 146 (.st 146)), .clo 226 [.rb (.st 71), .rb (.int .i64)]], rs := [(.int .i64)], own := true, dp := false, R := R, fn := fun x => m N x.1 x.2.1.1 x.2.1.2.1, res := fun r => (r, ()), out := fun r => ((), (), ()), shut := fun a b => a.1, res_shut := fun _ _ => rfl, out_shut := fun _ _ => rfl }
end slices_IndexFunc_impl_pairOf_impl_pairOf__impl_Branch_pairs_1
/-! ### slices_ContainsFunc_impl_pairOf_impl_pairOf__impl_Branch_pairs_1: slices.ContainsFunc[[]loop.example/g00220/impl.pairOf,loop.example/g00220/impl.pairOf] -/
namespace slices_ContainsFunc_impl_pairOf_impl_pairOf__impl_Branch_pairs_1
abbrev R := Bool
noncomputable def m (N : Nat) (a0 : List pairOf) (a1_0 : Branch) (a1_1 : Int) : Option R :=
  ob (slices_IndexFunc_impl_pairOf_impl_pairOf__impl_Branch_pairs_1.m N a0 (Branch.mk a1_0.Key a1_0.Value a1_0.At a1_0.Kids) a1_1) fun y1 =>
  some (decide (y1 ≥ (0:Int)))
@[reducible] noncomputable def sp (N : Nat) : Spec E := { ps := [.val (.slice 146 (.st 146)), .clo 226 [.rb (.st 71), .rb (.int .i64)]], rs := [.bool], own := true, dp := false, R := R, fn := fun x => m N x.1 x.2.1.1 x.2.1.2.1, res := fun r => (r, ()), out := fun r => ((), (), ()), shut := fun a b => a.1, res_shut := fun _ _ => rfl, out_shut := fun _ _ => rfl }
end slices_ContainsFunc_impl_pairOf_impl_pairOf__impl_Branch_pairs_1
/-! ### impl_sameAhead: loop.example/g00220/impl.sameAhead -/
namespace impl_sameAhead
abbrev R := Bool
noncomputable def step2 (N : Nat) (a0 : ByteArray) (a1 : ByteArray) (a2 : Int) (rec : Int → Option R) : Int → Option R
  | v3 =>
    bif (decide (v3 < a2)) then
      ob (impl_bit.m N a0 v3) fun y1 =>
      ob (impl_bit.m N a1 v3) fun y2 =>
      bif (y1 != y2) then
        some false
      else
      rec (w64 (v3 + (1:Int)))
    else
    some true
noncomputable def lp2 (N : Nat) (a0 : ByteArray) (a1 : ByteArray) (a2 : Int) : Int → Option R :=
  miter (fun rec => step2 N a0 a1 a2 rec) N
noncomputable def m (N : Nat) (a0 : ByteArray) (a1 : ByteArray) (a2 : Int) : Option R :=
  lp2 N a0 a1 a2 (0:Int)
@[reducible] noncomputable def sp (N : Nat) : Spec E := { ps := [.val .str, .val .str, .val (.int .i64)], rs := [.bool], own := true, dp := false, R := R, fn := fun x => m N x.1 x.2.1 x.2.2.1, res := fun r => (r, ()), out := fun r => ((), (), (), ()), shut := fun a b => a.1, res_shut := fun _ _ => rfl, out_shut := fun _ _ => rfl }
end impl_sameAhead
/-! ### impl_Branch_pairs_2: (loop.example/g00220/impl.Branch).pairs$2 -/
namespace impl_Branch_pairs_2
abbrev R := Bool
noncomputable def m (N : Nat) (a0 : pairOf) (a1 : List pairOf) (a2 : Branch) : Option R :=
  bif (decide (0 ≤ (0:Int))) then
  bif (decide ((0:Int) < (a1.length : Int))) then
  ob (impl_sameAhead.m N a0.hash ((a1.getD 0 pairOf.dz).hash) a2.At) fun y1 =>
  some (!y1)
  else none
  else none
@[reducible] noncomputable def sp (N : Nat) : Spec E := { ps := [.val (.st 146), .cap (.rb (.slice 146 (.st 146))), .cap (.rb (.st 71))], rs := [.bool], own := true, dp := false, R := R, fn := fun x => m N x.1 x.2.1 x.2.2.1, res := fun r => (r, ()), out := fun r => ((), (), (), ()), shut := fun a b => a.1, res_shut := fun _ _ => rfl, out_shut := fun _ _ => rfl }
end impl_Branch_pairs_2
/-! ### slices_IndexFunc_impl_pairOf_impl_pairOf__impl_Branch_pairs_2: slices.IndexFunc[[]loop.example/g00220/impl.pairOf,loop.example/g00220/impl.pairOf] -/
namespace slices_IndexFunc_impl_pairOf_impl_pairOf__impl_Branch_pairs_2
abbrev R := Int
noncomputable def step2 (N : Nat) (a0 : List pairOf) (a1_0 : List pairOf) (a1_1 : Branch) (rec : (Int × Int) → Option R) : (Int × Int) → Option R
  | (v1, v2) =>
    bif (decide (v2 < v1)) then
      bif (decide (0 ≤ v2)) then
      bif (decide (v2 < (a0.length : Int))) then
      ob (impl_Branch_pairs_2.m N (a0.getD (Int.toNat v2) pairOf.dz) a1_0 (Branch.mk a1_1.Key a1_1.Value a1_1.At a1_1.Kids)) fun y1 =>
      bif y1 then
        some v2
      else
      rec (v1, (w64 (v2 + (1:Int))))
      else none
      else none
    else
    some (-1:Int)
noncomputable def lp2 (N : Nat) (a0 : List pairOf) (a1_0 : List pairOf) (a1_1 : Branch) : (Int × Int) → Option R :=
  miter (fun rec => step2 N a0 a1_0 a1_1 rec) N
noncomputable def m (N : Nat) (a0 : List pairOf) (a1_0 : List pairOf) (a1_1 : Branch) : Option R :=
  lp2 N a0 a1_0 a1_1 ((a0.length : Int), (0:Int))
@[reducible] noncomputable def sp (N : Nat) : Spec E := { ps := [.val (.slice 146 (.st 146)), .clo 227 [.rb (.slice 146 (.st 146)), .rb (.st 71)]], rs := [(.int .i64)], own := true, dp := false, R := R, fn := fun x => m N x.1 x.2.1.1 x.2.1.2.1, res := fun r => (r, ()), out := fun r => ((), (), ()), shut := fun a b => a.1, res_shut := fun _ _ => rfl, out_shut := fun _ _ => rfl }
end slices_IndexFunc_impl_pairOf_impl_pairOf__impl_Branch_pairs_2
/-! ### slices_ContainsFunc_impl_pairOf_impl_pairOf__impl_Branch_pairs_2: slices.ContainsFunc[[]loop.example/g00220/impl.pairOf,loop.example/g00220/impl.pairOf] -/
namespace slices_ContainsFunc_impl_pairOf_impl_pairOf__impl_Branch_pairs_2
abbrev R := Bool
noncomputable def m (N : Nat) (a0 : List pairOf) (a1_0 : List pairOf) (a1_1 : Branch) : Option R :=
  ob (slices_IndexFunc_impl_pairOf_impl_pairOf__impl_Branch_pairs_2.m N a0 a1_0 (Branch.mk a1_1.Key a1_1.Value a1_1.At a1_1.Kids)) fun y1 =>
  some (decide (y1 ≥ (0:Int)))
@[reducible] noncomputable def sp (N : Nat) : Spec E := { ps := [.val (.slice 146 (.st 146)), .clo 227 [.rb (.slice 146 (.st 146)), .rb (.st 71)]], rs := [.bool], own := true, dp := false, R := R, fn := fun x => m N x.1 x.2.1.1 x.2.1.2.1, res := fun r => (r, ()), out := fun r => ((), (), ()), shut := fun a b => a.1, res_shut := fun _ _ => rfl, out_shut := fun _ _ => rfl }
end slices_ContainsFunc_impl_pairOf_impl_pairOf__impl_Branch_pairs_2
/-! ### impl_Branch_pairs: (loop.example/g00220/impl.Branch).pairs -/
namespace impl_Branch_pairs
abbrev R := (List pairOf) × Bool × Int
@[reducible] noncomputable def spf (f : Branch → Int → Int → Option R) : Spec E := { ps := [.val (.st 71), .val (.int .i64), .box false 3 3], rs := [(.slice 146 (.st 146)), .bool], own := true, dp := false, R := R, fn := fun x => f x.1 x.2.1 x.2.2.1, res := fun r => (r.1, r.2.1, ()), out := fun r => ((), (), r.2.2, ()), shut := fun a b => (a.1, a.2.1, b.2.2.1), res_shut := fun _ _ => rfl, out_shut := fun _ _ => rfl }
end impl_Branch_pairs
namespace impl_Branch_pairs
noncomputable def step8 (N : Nat) (slf : Branch → Int → Int → Option R) (a0 : Branch) (a1 : Int) (a2 : Int) (rec : (Int × Int × Int × (List pairOf)) → Option R) : (Int × Int × Int × (List pairOf)) → Option R
  | (v1, v2, v3, v8) =>
    bif (decide (v2 < v1)) then
      bif (decide (0 ≤ v2)) then
      bif (decide (v2 < (a0.Kids.length : Int))) then
      ob (slf (Branch.mk ((a0.Kids.getD (Int.toNat v2) Branch.dz).Key) ((a0.Kids.getD (Int.toNat v2) Branch.dz).Value) ((a0.Kids.getD (Int.toNat v2) Branch.dz).At) ((a0.Kids.getD (Int.toNat v2) Branch.dz).Kids)) a0.At v3) fun y4 =>
      bif (!y4.2.1) then
        some (([] : List pairOf), false, y4.2.2)
      else
      ob (slices_ContainsFunc_impl_pairOf_impl_pairOf__impl_Branch_pairs_1.m N y4.1 (Branch.mk a0.Key a0.Value a0.At a0.Kids) v2) fun y5 =>
      bif (bif false then true else y5) then
        some (([] : List pairOf), false, y4.2.2)
      else
      bif (room (v8.length + y4.1.length) 48) then
      rec (v1, (w64 (v2 + (1:Int))), y4.2.2, (v8 ++ y4.1))
      else none
      else none
      else none
    else
    ob (slices_ContainsFunc_impl_pairOf_impl_pairOf__impl_Branch_pairs_2.m N v8 v8 (Branch.mk a0.Key a0.Value a0.At a0.Kids)) fun y6 =>
    some (v8, (!y6), v3)
noncomputable def lp8 (N : Nat) (slf : Branch → Int → Int → Option R) (a0 : Branch) (a1 : Int) (a2 : Int) : (Int × Int × Int × (List pairOf)) → Option R :=
  miter (fun rec => step8 N slf a0 a1 a2 rec) N
noncomputable def mb (N : Nat) (slf : Branch → Int → Int → Option R) (a0 : Branch) (a1 : Int) (a2 : Int) : Option R :=
  ob (impl_Branch_isLeaf.m N (Branch.mk a0.Key a0.Value a0.At a0.Kids)) fun y1 =>
  bif y1 then
    ob (impl_hash.m N a0.Key) fun y2 =>
    some ([(pairOf.mk a0.Key a0.Value y2)], (decide ((w64 (a2 - (1:Int))) ≥ (0:Int))), (w64 (a2 - (1:Int))))
  else
  ob (impl_Branch_isFork.m N (Branch.mk a0.Key a0.Value a0.At a0.Kids)) fun y3 =>
  bif (!y3) then
    some (([] : List pairOf), false, a2)
  else
  bif (bif false then true else (decide (a0.At ≤ a1))) then
    some (([] : List pairOf), false, a2)
  else
  lp8 N slf a0 a1 a2 ((a0.Kids.length : Int), (0:Int), a2, ([] : List pairOf))
noncomputable def mF (N : Nat) : Nat → Branch → Int → Int → Option R
  | 0 => fun _ _ _ => none
  | n + 1 => fun a0 a1 a2 => mb N (mF N n) a0 a1 a2
noncomputable def m (N : Nat) : Branch → Int → Int → Option R := mF N N
@[reducible] noncomputable def sp (N : Nat) : Spec E := spf (m N)
end impl_Branch_pairs
/-! ### impl_mapPairs: loop.example/g00220/impl.mapPairs -/
namespace impl_mapPairs
abbrev R := (List pairOf) × Bool
noncomputable def m (N : Nat) (a0 : Branch) : Option R :=
  ob (impl_Branch_isEmpty.m N (Branch.mk a0.Key a0.Value a0.At a0.Kids)) fun y1 =>
  bif y1 then
    some (([] : List pairOf), true)
  else
  ob (impl_Branch_pairs.m N (Branch.mk a0.Key a0.Value a0.At a0.Kids) (-1:Int) (40:Int)) fun y2 =>
  some (y2.1, y2.2.1)
@[reducible] noncomputable def sp (N : Nat) : Spec E := { ps := [.val (.st 71)], rs := [(.slice 146 (.st 146)), .bool], own := true, dp := false, R := R, fn := fun x => m N x.1, res := fun r => (r.1, r.2, ()), out := fun r => ((), ()), shut := fun a b => (a.1, a.2.1), res_shut := fun _ _ => rfl, out_shut := fun _ _ => rfl }
end impl_mapPairs
/-! ### impl_mapCode: loop.example/g00220/impl.mapCode -/
namespace impl_mapCode
abbrev R := (List pairOf) × Int
noncomputable def m (N : Nat) (a0 : Branch) (a1 : ByteArray) : Option R :=
  ob (impl_isText.m N ([a1])) fun y1 =>
  bif (!y1) then
    some (([] : List pairOf), (2:Int))
  else
  ob (impl_mapPairs.m N (Branch.mk a0.Key a0.Value a0.At a0.Kids)) fun y2 =>
  bif (!y2.2) then
    some (([] : List pairOf), (1:Int))
  else
  ob (impl_isKey.m N a1) fun y3 =>
  bif (bif false then true else (!y3)) then
    some (([] : List pairOf), (1:Int))
  else
  some (y2.1, (0:Int))
@[reducible] noncomputable def sp (N : Nat) : Spec E := { ps := [.val (.st 71), .val .str], rs := [(.slice 146 (.st 146)), (.int .i64)], own := true, dp := false, R := R, fn := fun x => m N x.1 x.2.1, res := fun r => (r.1, r.2, ()), out := fun r => ((), (), ()), shut := fun a b => (a.1, a.2.1), res_shut := fun _ _ => rfl, out_shut := fun _ _ => rfl }
end impl_mapCode
/-! ### impl_counted: loop.example/g00220/impl.counted -/
namespace impl_counted
abbrev R := ByteArray
noncomputable def m (N : Nat) (a0 : ByteArray) : Option R :=
  ob (impl_number.m N (a0.size : Int) (1:Int)) fun y1 =>
  bif (decide (y1.size + a0.size ≤ 9223372036854775807)) then
  some (y1 ++ a0)
  else none
@[reducible] noncomputable def sp (N : Nat) : Spec E := { ps := [.val .str], rs := [.str], own := true, dp := false, R := R, fn := fun x => m N x.1, res := fun r => (r, ()), out := fun r => ((), ()), shut := fun a b => a.1, res_shut := fun _ _ => rfl, out_shut := fun _ _ => rfl }
end impl_counted
/-! ### impl_leafRoot: loop.example/g00220/impl.leafRoot -/
namespace impl_leafRoot
abbrev R := ByteArray
noncomputable def m (N : Nat) (a0 : ByteArray) (a1 : ByteArray) : Option R :=
  ob (impl_counted.m N a0) fun y1 =>
  bif (decide ((⟨#[0]⟩ : ByteArray).size + y1.size ≤ 9223372036854775807)) then
  bif (decide (((⟨#[0]⟩ : ByteArray) ++ y1).size + a1.size ≤ 9223372036854775807)) then
  ob (impl_hash.m N (((⟨#[0]⟩ : ByteArray) ++ y1) ++ a1)) fun y2 =>
  some y2
  else none
  else none
@[reducible] noncomputable def sp (N : Nat) : Spec E := { ps := [.val .str, .val .str], rs := [.str], own := true, dp := false, R := R, fn := fun x => m N x.1 x.2.1, res := fun r => (r, ()), out := fun r => ((), (), ()), shut := fun a b => a.1, res_shut := fun _ _ => rfl, out_shut := fun _ _ => rfl }
end impl_leafRoot
/-! ### impl_forkRoot: loop.example/g00220/impl.forkRoot -/
namespace impl_forkRoot
abbrev R := ByteArray
noncomputable def m (N : Nat) (a0 : Int) (a1 : ByteArray) (a2 : ByteArray) : Option R :=
  ob (impl_number.m N a0 (1:Int)) fun y1 =>
  bif (decide ((⟨#[1]⟩ : ByteArray).size + y1.size ≤ 9223372036854775807)) then
  bif (decide (((⟨#[1]⟩ : ByteArray) ++ y1).size + a1.size ≤ 9223372036854775807)) then
  bif (decide ((((⟨#[1]⟩ : ByteArray) ++ y1) ++ a1).size + a2.size ≤ 9223372036854775807)) then
  ob (impl_hash.m N ((((⟨#[1]⟩ : ByteArray) ++ y1) ++ a1) ++ a2)) fun y2 =>
  some y2
  else none
  else none
  else none
@[reducible] noncomputable def sp (N : Nat) : Spec E := { ps := [.val (.int .i64), .val .str, .val .str], rs := [.str], own := true, dp := false, R := R, fn := fun x => m N x.1 x.2.1 x.2.2.1, res := fun r => (r, ()), out := fun r => ((), (), (), ()), shut := fun a b => a.1, res_shut := fun _ _ => rfl, out_shut := fun _ _ => rfl }
end impl_forkRoot
/-! ### impl_mapRoot: loop.example/g00220/impl.mapRoot -/
namespace impl_mapRoot
abbrev R := ByteArray
@[reducible] noncomputable def spf (f : Branch → Option R) : Spec E := { ps := [.val (.st 71)], rs := [.str], own := true, dp := false, R := R, fn := fun x => f x.1, res := fun r => (r, ()), out := fun r => ((), ()), shut := fun a b => a.1, res_shut := fun _ _ => rfl, out_shut := fun _ _ => rfl }
end impl_mapRoot
namespace impl_mapRoot
noncomputable def mb (N : Nat) (slf : Branch → Option R) (a0 : Branch) : Option R :=
  ob (impl_Branch_isEmpty.m N (Branch.mk a0.Key a0.Value a0.At a0.Kids)) fun y1 =>
  bif y1 then
    ob (impl_hash.m N (⟨#[2]⟩ : ByteArray)) fun y2 =>
    some y2
  else
  bif (a0.At == (256:Int)) then
    ob (impl_leafRoot.m N a0.Key a0.Value) fun y3 =>
    some y3
  else
  bif (decide (0 ≤ (0:Int))) then
  bif (decide ((0:Int) < (a0.Kids.length : Int))) then
  ob (slf (Branch.mk ((a0.Kids.getD 0 Branch.dz).Key) ((a0.Kids.getD 0 Branch.dz).Value) ((a0.Kids.getD 0 Branch.dz).At) ((a0.Kids.getD 0 Branch.dz).Kids))) fun y4 =>
  bif (decide (0 ≤ (1:Int))) then
  bif (decide ((1:Int) < (a0.Kids.length : Int))) then
  ob (slf (Branch.mk ((a0.Kids.getD 1 Branch.dz).Key) ((a0.Kids.getD 1 Branch.dz).Value) ((a0.Kids.getD 1 Branch.dz).At) ((a0.Kids.getD 1 Branch.dz).Kids))) fun y5 =>
  ob (impl_forkRoot.m N a0.At y4 y5) fun y6 =>
  some y6
  else none
  else none
  else none
  else none
noncomputable def mF (N : Nat) : Nat → Branch → Option R
  | 0 => fun _ => none
  | n + 1 => fun a0 => mb N (mF N n) a0
noncomputable def m (N : Nat) : Branch → Option R := mF N N
@[reducible] noncomputable def sp (N : Nat) : Spec E := spf (m N)
end impl_mapRoot
/-! ### impl_ProveKey: loop.example/g00220/impl.ProveKey -/
namespace impl_ProveKey
abbrev R := MapProof × Int
inductive A7 where
  | s0 (v1 : ByteArray) (v6 : ByteArray) (v7 : ByteArray) (v8 : ByteArray) (v9 : ByteArray)
  | s1 (v1 : ByteArray) (v2 : ByteArray) (v3 : ByteArray) (v4 : Int) (v5 : List Branch) (v6 : ByteArray) (v7 : ByteArray) (v8 : ByteArray) (v9 : ByteArray) (v10 : List MapStep)
noncomputable def step7 (N : Nat) (a0 : Branch) (a1 : ByteArray) (rec : A7 → Option R) : A7 → Option R
  | .s0 v1 v6 v7 v8 v9 =>
    bif (a0.At != (256:Int)) then
      ob (impl_bit.m N v1 a0.At) fun y4 =>
      bif (decide (0 ≤ (w64 ((1:Int) - y4)))) then
      bif (decide ((w64 ((1:Int) - y4)) < (a0.Kids.length : Int))) then
      ob (impl_mapRoot.m N (Branch.mk ((a0.Kids.getD (Int.toNat (w64 ((1:Int) - y4))) Branch.dz).Key) ((a0.Kids.getD (Int.toNat (w64 ((1:Int) - y4))) Branch.dz).Value) ((a0.Kids.getD (Int.toNat (w64 ((1:Int) - y4))) Branch.dz).At) ((a0.Kids.getD (Int.toNat (w64 ((1:Int) - y4))) Branch.dz).Kids))) fun y5 =>
      bif (room ([(MapStep.mk a0.At y5)]).length 24) then
      bif (decide (0 ≤ y4)) then
      bif (decide (y4 < (a0.Kids.length : Int))) then
      rec (.s1 v1 ((a0.Kids.getD (Int.toNat y4) Branch.dz).Key) ((a0.Kids.getD (Int.toNat y4) Branch.dz).Value) ((a0.Kids.getD (Int.toNat y4) Branch.dz).At) ((a0.Kids.getD (Int.toNat y4) Branch.dz).Kids) v6 v7 v8 v9 ([(MapStep.mk a0.At y5)]))
      else none
      else none
      else none
      else none
      else none
    else
    some ((MapProof.mk (seq a0.Key a1) a0.Key a0.Value ([] : List MapStep)), (0:Int))
  | .s1 v1 v2 v3 v4 v5 v6 v7 v8 v9 v10 =>
    bif (v4 != (256:Int)) then
      ob (impl_bit.m N v1 v4) fun y6 =>
      bif (decide (0 ≤ (w64 ((1:Int) - y6)))) then
      bif (decide ((w64 ((1:Int) - y6)) < (v5.length : Int))) then
      ob (impl_mapRoot.m N (Branch.mk ((v5.getD (Int.toNat (w64 ((1:Int) - y6))) Branch.dz).Key) ((v5.getD (Int.toNat (w64 ((1:Int) - y6))) Branch.dz).Value) ((v5.getD (Int.toNat (w64 ((1:Int) - y6))) Branch.dz).At) ((v5.getD (Int.toNat (w64 ((1:Int) - y6))) Branch.dz).Kids))) fun y7 =>
      bif (room (v10.length + ([(MapStep.mk v4 y7)]).length) 24) then
      bif (decide (0 ≤ y6)) then
      bif (decide (y6 < (v5.length : Int))) then
      rec (.s1 v1 ((v5.getD (Int.toNat y6) Branch.dz).Key) ((v5.getD (Int.toNat y6) Branch.dz).Value) ((v5.getD (Int.toNat y6) Branch.dz).At) ((v5.getD (Int.toNat y6) Branch.dz).Kids) v6 v7 v8 v9 (v10 ++ [(MapStep.mk v4 y7)]))
      else none
      else none
      else none
      else none
      else none
    else
    some ((MapProof.mk (seq v2 a1) v2 v3 v10), (0:Int))
noncomputable def lp7 (N : Nat) (a0 : Branch) (a1 : ByteArray) : A7 → Option R :=
  miter (fun rec => step7 N a0 a1 rec) N
noncomputable def m (N : Nat) (a0 : Branch) (a1 : ByteArray) : Option R :=
  ob (impl_mapCode.m N (Branch.mk a0.Key a0.Value a0.At a0.Kids) a1) fun y1 =>
  bif (y1.2 != (0:Int)) then
    some ((MapProof.mk false ByteArray.empty ByteArray.empty ([] : List MapStep)), y1.2)
  else
  ob (impl_hash.m N a1) fun y2 =>
  ob (impl_Branch_isEmpty.m N (Branch.mk a0.Key a0.Value a0.At a0.Kids)) fun y3 =>
  bif y3 then
    some ((MapProof.mk false ByteArray.empty ByteArray.empty ([] : List MapStep)), (0:Int))
  else
  lp7 N a0 a1 (.s0 y2 ByteArray.empty ByteArray.empty ByteArray.empty ByteArray.empty)
@[reducible] noncomputable def sp (N : Nat) : Spec E := { ps := [.val (.st 71), .val .str], rs := [(.st 82), (.int .i64)], own := true, dp := false, R := R, fn := fun x => m N x.1 x.2.1, res := fun r => (r.1, r.2, ()), out := fun r => ((), (), ()), shut := fun a b => (a.1, a.2.1), res_shut := fun _ _ => rfl, out_shut := fun _ _ => rfl }
end impl_ProveKey
/-! ### laws_eqMapStep: loop.example/g00220/laws.eqMapStep -/
namespace laws_eqMapStep
abbrev R := Bool
noncomputable def m (N : Nat) (a0 : MapStep) (a1 : MapStep) : Option R :=
  bif (a0.At != a1.At) then
    some false
  else
  bif (!seq a0.Hash a1.Hash) then
    some false
  else
  some true
@[reducible] noncomputable def sp (N : Nat) : Spec E := { ps := [.val (.st 156), .val (.st 156)], rs := [.bool], own := true, dp := false, R := R, fn := fun x => m N x.1 x.2.1, res := fun r => (r, ()), out := fun r => ((), (), ()), shut := fun a b => a.1, res_shut := fun _ _ => rfl, out_shut := fun _ _ => rfl }
end laws_eqMapStep
/-! ### laws_eqMapStepS: loop.example/g00220/laws.eqMapStepS -/
namespace laws_eqMapStepS
abbrev R := Bool
noncomputable def step4 (N : Nat) (a0 : List MapStep) (a1 : List MapStep) (rec : Int → Option R) : Int → Option R
  | v2 =>
    bif (decide (v2 < (a0.length : Int))) then
      bif (decide (0 ≤ v2)) then
      bif (decide (v2 < (a0.length : Int))) then
      bif (decide (0 ≤ v2)) then
      bif (decide (v2 < (a1.length : Int))) then
      ob (laws_eqMapStep.m N (a0.getD (Int.toNat v2) MapStep.dz) (a1.getD (Int.toNat v2) MapStep.dz)) fun y1 =>
      bif (!y1) then
        some false
      else
      rec (w64 (v2 + (1:Int)))
      else none
      else none
      else none
      else none
    else
    some true
noncomputable def lp4 (N : Nat) (a0 : List MapStep) (a1 : List MapStep) : Int → Option R :=
  miter (fun rec => step4 N a0 a1 rec) N
noncomputable def m (N : Nat) (a0 : List MapStep) (a1 : List MapStep) : Option R :=
  bif ((a0.length : Int) != (a1.length : Int)) then
    some false
  else
  lp4 N a0 a1 (0:Int)
@[reducible] noncomputable def sp (N : Nat) : Spec E := { ps := [.val (.slice 156 (.st 156)), .val (.slice 156 (.st 156))], rs := [.bool], own := true, dp := false, R := R, fn := fun x => m N x.1 x.2.1, res := fun r => (r, ()), out := fun r => ((), (), ()), shut := fun a b => a.1, res_shut := fun _ _ => rfl, out_shut := fun _ _ => rfl }
end laws_eqMapStepS
/-! ### laws_eqMapProof: loop.example/g00220/laws.eqMapProof -/
namespace laws_eqMapProof
abbrev R := Bool
noncomputable def m (N : Nat) (a0 : MapProof) (a1 : MapProof) : Option R :=
  bif (!(a0.Found == a1.Found)) then
    some false
  else
  bif (!seq a0.Key a1.Key) then
    some false
  else
  bif (!seq a0.Value a1.Value) then
    some false
  else
  ob (laws_eqMapStepS.m N a0.Steps a1.Steps) fun y1 =>
  bif (!y1) then
    some false
  else
  some true
@[reducible] noncomputable def sp (N : Nat) : Spec E := { ps := [.val (.st 82), .val (.st 82)], rs := [.bool], own := true, dp := false, R := R, fn := fun x => m N x.1 x.2.1, res := fun r => (r, ()), out := fun r => ((), (), ()), shut := fun a b => a.1, res_shut := fun _ _ => rfl, out_shut := fun _ _ => rfl }
end laws_eqMapProof
namespace laws_eqBranch
abbrev R := Bool
@[reducible] noncomputable def spf (f : Branch → Branch → Option R) : Spec E := { ps := [.val (.st 71), .val (.st 71)], rs := [.bool], own := true, dp := false, R := R, fn := fun x => f x.1 x.2.1, res := fun r => (r, ()), out := fun r => ((), (), ()), shut := fun a b => a.1, res_shut := fun _ _ => rfl, out_shut := fun _ _ => rfl }
end laws_eqBranch
/-! ### laws_eqBranchS: loop.example/g00220/laws.eqBranchS -/
namespace laws_eqBranchS
abbrev R := Bool
noncomputable def step4 (N : Nat) (x_laws_eqBranch : Branch → Branch → Option laws_eqBranch.R) (a0 : List Branch) (a1 : List Branch) (rec : Int → Option R) : Int → Option R
  | v2 =>
    bif (decide (v2 < (a0.length : Int))) then
      bif (decide (0 ≤ v2)) then
      bif (decide (v2 < (a0.length : Int))) then
      bif (decide (0 ≤ v2)) then
      bif (decide (v2 < (a1.length : Int))) then
      ob (x_laws_eqBranch (Branch.mk ((a0.getD (Int.toNat v2) Branch.dz).Key) ((a0.getD (Int.toNat v2) Branch.dz).Value) ((a0.getD (Int.toNat v2) Branch.dz).At) ((a0.getD (Int.toNat v2) Branch.dz).Kids)) (Branch.mk ((a1.getD (Int.toNat v2) Branch.dz).Key) ((a1.getD (Int.toNat v2) Branch.dz).Value) ((a1.getD (Int.toNat v2) Branch.dz).At) ((a1.getD (Int.toNat v2) Branch.dz).Kids))) fun y1 =>
      bif (!y1) then
        some false
      else
      rec (w64 (v2 + (1:Int)))
      else none
      else none
      else none
      else none
    else
    some true
noncomputable def lp4 (N : Nat) (x_laws_eqBranch : Branch → Branch → Option laws_eqBranch.R) (a0 : List Branch) (a1 : List Branch) : Int → Option R :=
  miter (fun rec => step4 N x_laws_eqBranch a0 a1 rec) N
noncomputable def m (N : Nat) (x_laws_eqBranch : Branch → Branch → Option laws_eqBranch.R) (a0 : List Branch) (a1 : List Branch) : Option R :=
  bif ((a0.length : Int) != (a1.length : Int)) then
    some false
  else
  lp4 N x_laws_eqBranch a0 a1 (0:Int)
@[reducible] noncomputable def sp (N : Nat) (x_laws_eqBranch : Branch → Branch → Option laws_eqBranch.R) : Spec E := { ps := [.val (.slice 71 (.st 71)), .val (.slice 71 (.st 71))], rs := [.bool], own := true, dp := false, R := R, fn := fun x => m N x_laws_eqBranch x.1 x.2.1, res := fun r => (r, ()), out := fun r => ((), (), ()), shut := fun a b => a.1, res_shut := fun _ _ => rfl, out_shut := fun _ _ => rfl }
end laws_eqBranchS
/-! ### laws_eqBranch: loop.example/g00220/laws.eqBranch -/
namespace laws_eqBranch
noncomputable def mb (N : Nat) (slf : Branch → Branch → Option R) (a0 : Branch) (a1 : Branch) : Option R :=
  bif (!seq a0.Key a1.Key) then
    some false
  else
  bif (!seq a0.Value a1.Value) then
    some false
  else
  bif (a0.At != a1.At) then
    some false
  else
  ob (laws_eqBranchS.m N slf a0.Kids a1.Kids) fun y1 =>
  bif (!y1) then
    some false
  else
  some true
noncomputable def mF (N : Nat) : Nat → Branch → Branch → Option R
  | 0 => fun _ _ => none
  | n + 1 => fun a0 a1 => mb N (mF N n) a0 a1
noncomputable def m (N : Nat) : Branch → Branch → Option R := mF N N
@[reducible] noncomputable def sp (N : Nat) : Spec E := spf (m N)
end laws_eqBranch
/-! ### laws_markText: loop.example/g00220/laws.markText -/
namespace laws_markText
abbrev R := ByteArray
noncomputable def step4 (N : Nat) (a0 : Int) (rec : (Int × ByteArray) → Option R) : (Int × ByteArray) → Option R
  | (v0, v1) =>
    bif (decide (v0 > (0:Int))) then
      bif (!decide ((10:Int) = 0)) then
      bif (decide ((strOf ([(wu8 (w64 ((48:Int) + (Int.tmod v0 (10:Int)))))])).size + v1.size ≤ 9223372036854775807)) then
      bif (!decide ((10:Int) = 0)) then
      rec ((w64 (Int.tdiv v0 (10:Int))), ((strOf ([(wu8 (w64 ((48:Int) + (Int.tmod v0 (10:Int)))))])) ++ v1))
      else none
      else none
      else none
    else
    bif (decide ((⟨#[109]⟩ : ByteArray).size + v1.size ≤ 9223372036854775807)) then
    some ((⟨#[109]⟩ : ByteArray) ++ v1)
    else none
noncomputable def lp4 (N : Nat) (a0 : Int) : (Int × ByteArray) → Option R :=
  miter (fun rec => step4 N a0 rec) N
noncomputable def m (N : Nat) (a0 : Int) : Option R :=
  bif (decide (a0 ≤ (0:Int))) then
    some (⟨#[109, 48]⟩ : ByteArray)
  else
  lp4 N a0 (a0, ByteArray.empty)
@[reducible] noncomputable def sp (N : Nat) : Spec E := { ps := [.val (.int .i64)], rs := [.str], own := true, dp := false, R := R, fn := fun x => m N x.1, res := fun r => (r, ()), out := fun r => ((), ()), shut := fun a b => a.1, res_shut := fun _ _ => rfl, out_shut := fun _ _ => rfl }
end laws_markText
/-! ### laws_markBranchS: loop.example/g00220/laws.markBranchS -/
namespace laws_markBranchS
abbrev R := Int × (List Branch)
@[reducible] noncomputable def spf (f : (List Branch) → Int → Option R) : Spec E := { ps := [.mut true (.slice 71 (.st 71)), .val (.int .i64)], rs := [(.int .i64)], own := true, dp := true, R := R, fn := fun x => f x.1 x.2.1, res := fun r => (r.1, ()), out := fun r => (r.2, (), ()), shut := fun a b => (a.1, b.1), res_shut := fun _ _ => rfl, out_shut := fun _ _ => rfl }
end laws_markBranchS
namespace laws_markBranchS
noncomputable def step2 (N : Nat) (slf : (List Branch) → Int → Option R) (a0 : List Branch) (a1 : Int) (rec : (Int × Int × (List Branch)) → Option R) : (Int × Int × (List Branch)) → Option R
  | (v0, v1, v2) =>
    bif (decide (v1 < (v2.length : Int))) then
      ob (laws_markText.m N v0) fun y1 =>
      bif (decide (0 ≤ v1)) then
      bif (decide (v1 < (v2.length : Int))) then
      (let w2 : List Branch := (v2.set (Int.toNat v1) (Branch.mk y1 ((v2.getD (Int.toNat v1) Branch.dz).Value) ((v2.getD (Int.toNat v1) Branch.dz).At) ((v2.getD (Int.toNat v1) Branch.dz).Kids)))
      ob (laws_markText.m N (w64 (v0 + (1:Int)))) fun y3 =>
      bif (decide (0 ≤ v1)) then
      bif (decide (v1 < (w2.length : Int))) then
      (let w4 : List Branch := (w2.set (Int.toNat v1) (Branch.mk ((w2.getD (Int.toNat v1) Branch.dz).Key) y3 ((w2.getD (Int.toNat v1) Branch.dz).At) ((w2.getD (Int.toNat v1) Branch.dz).Kids)))
      bif (decide (0 ≤ v1)) then
      bif (decide (v1 < (w4.length : Int))) then
      (let w5 : List Branch := (w4.set (Int.toNat v1) (Branch.mk ((w4.getD (Int.toNat v1) Branch.dz).Key) ((w4.getD (Int.toNat v1) Branch.dz).Value) (w64 ((w64 (v0 + (1:Int))) + (1:Int))) ((w4.getD (Int.toNat v1) Branch.dz).Kids)))
      bif (decide (0 ≤ v1)) then
      bif (decide (v1 < (w5.length : Int))) then
      bif (decide ((Int.toNat v1) < w5.length)) then
      ob (slf ((w5.getD (Int.toNat v1) Branch.dz).Kids) (w64 ((w64 ((w64 (v0 + (1:Int))) + (1:Int))) + (1:Int)))) fun y6 =>
      (let w7 : List Branch := (w5.set (Int.toNat v1) (Branch.mk ((w5.getD (Int.toNat v1) Branch.dz).Key) ((w5.getD (Int.toNat v1) Branch.dz).Value) ((w5.getD (Int.toNat v1) Branch.dz).At) y6.2))
      rec (y6.1, (w64 (v1 + (1:Int))), w7))
      else none
      else none
      else none)
      else none
      else none)
      else none
      else none)
      else none
      else none
    else
    some (v0, v2)
noncomputable def lp2 (N : Nat) (slf : (List Branch) → Int → Option R) (a0 : List Branch) (a1 : Int) : (Int × Int × (List Branch)) → Option R :=
  miter (fun rec => step2 N slf a0 a1 rec) N
noncomputable def mb (N : Nat) (slf : (List Branch) → Int → Option R) (a0 : List Branch) (a1 : Int) : Option R :=
  lp2 N slf a0 a1 (a1, (0:Int), a0)
noncomputable def mF (N : Nat) : Nat → (List Branch) → Int → Option R
  | 0 => fun _ _ => none
  | n + 1 => fun a0 a1 => mb N (mF N n) a0 a1
noncomputable def m (N : Nat) : (List Branch) → Int → Option R := mF N N
@[reducible] noncomputable def sp (N : Nat) : Spec E := spf (m N)
end laws_markBranchS
/-! ### laws_markBranch: loop.example/g00220/laws.markBranch -/
namespace laws_markBranch
abbrev R := Int × Branch
noncomputable def m (N : Nat) (a0 : Branch) (a1 : Int) : Option R :=
  ob (laws_markBranchS.m N a0.Kids a1) fun y1 =>
  some (y1.1, (Branch.mk a0.Key a0.Value a0.At y1.2))
@[reducible] noncomputable def sp (N : Nat) : Spec E := { ps := [.mut true (.st 71), .val (.int .i64)], rs := [(.int .i64)], own := true, dp := true, R := R, fn := fun x => m N x.1 x.2.1, res := fun r => (r.1, ()), out := fun r => (r.2, (), ()), shut := fun a b => (a.1, b.1), res_shut := fun _ _ => rfl, out_shut := fun _ _ => rfl }
end laws_markBranch
/-! ### laws_markMapStepS: loop.example/g00220/laws.markMapStepS -/
namespace laws_markMapStepS
abbrev R := Int × (List MapStep)
noncomputable def step2 (N : Nat) (a0 : List MapStep) (a1 : Int) (rec : (Int × Int × (List MapStep)) → Option R) : (Int × Int × (List MapStep)) → Option R
  | (v0, v1, v2) =>
    bif (decide (v1 < (v2.length : Int))) then
      bif (decide (0 ≤ v1)) then
      bif (decide (v1 < (v2.length : Int))) then
      ob (laws_markText.m N (w64 (v0 + (1:Int)))) fun y1 =>
      bif (decide (0 ≤ v1)) then
      bif (decide (v1 < ((v2.set (Int.toNat v1) (MapStep.mk v0 ((v2.getD (Int.toNat v1) MapStep.dz).Hash))).length : Int))) then
      (let w2 : List MapStep := ((v2.set (Int.toNat v1) (MapStep.mk v0 ((v2.getD (Int.toNat v1) MapStep.dz).Hash))).set (Int.toNat v1) (MapStep.mk (((v2.set (Int.toNat v1) (MapStep.mk v0 ((v2.getD (Int.toNat v1) MapStep.dz).Hash))).getD (Int.toNat v1) MapStep.dz).At) y1))
      rec ((w64 ((w64 (v0 + (1:Int))) + (1:Int))), (w64 (v1 + (1:Int))), w2))
      else none
      else none
      else none
      else none
    else
    some (v0, v2)
noncomputable def lp2 (N : Nat) (a0 : List MapStep) (a1 : Int) : (Int × Int × (List MapStep)) → Option R :=
  miter (fun rec => step2 N a0 a1 rec) N
noncomputable def m (N : Nat) (a0 : List MapStep) (a1 : Int) : Option R :=
  lp2 N a0 a1 (a1, (0:Int), a0)
@[reducible] noncomputable def sp (N : Nat) : Spec E := { ps := [.mut false (.slice 156 (.st 156)), .val (.int .i64)], rs := [(.int .i64)], own := true, dp := false, R := R, fn := fun x => m N x.1 x.2.1, res := fun r => (r.1, ()), out := fun r => (r.2, (), ()), shut := fun a b => (a.1, b.1), res_shut := fun _ _ => rfl, out_shut := fun _ _ => rfl }
end laws_markMapStepS
/-! ### laws_markMapProof: loop.example/g00220/laws.markMapProof -/
namespace laws_markMapProof
abbrev R := Int × MapProof
noncomputable def m (N : Nat) (a0 : MapProof) (a1 : Int) : Option R :=
  ob (laws_markMapStepS.m N a0.Steps a1) fun y1 =>
  some (y1.1, (MapProof.mk a0.Found a0.Key a0.Value y1.2))
@[reducible] noncomputable def sp (N : Nat) : Spec E := { ps := [.mut false (.st 82), .val (.int .i64)], rs := [(.int .i64)], own := true, dp := false, R := R, fn := fun x => m N x.1 x.2.1, res := fun r => (r.1, ()), out := fun r => (r.2, (), ()), shut := fun a b => (a.1, b.1), res_shut := fun _ _ => rfl, out_shut := fun _ _ => rfl }
end laws_markMapProof
/-! ### laws_heldMapStepS: loop.example/g00220/laws.heldMapStepS -/
namespace laws_heldMapStepS
abbrev R := Int
noncomputable def step2 (N : Nat) (a0 : List MapStep) (a1 : Int) (rec : (Int × Int) → Option R) : (Int × Int) → Option R
  | (v1, v2) =>
    bif (decide (v2 < (a0.length : Int))) then
      bif (decide (0 ≤ v2)) then
      bif (decide (v2 < (a0.length : Int))) then
      bif ((a0.getD (Int.toNat v2) MapStep.dz).At != v1) then
        some (-1:Int)
      else
      bif (decide (0 ≤ v2)) then
      bif (decide (v2 < (a0.length : Int))) then
      ob (laws_markText.m N (w64 (v1 + (1:Int)))) fun y1 =>
      bif (!seq ((a0.getD (Int.toNat v2) MapStep.dz).Hash) y1) then
        some (-1:Int)
      else
      rec ((w64 ((w64 (v1 + (1:Int))) + (1:Int))), (w64 (v2 + (1:Int))))
      else none
      else none
      else none
      else none
    else
    some v1
noncomputable def lp2 (N : Nat) (a0 : List MapStep) (a1 : Int) : (Int × Int) → Option R :=
  miter (fun rec => step2 N a0 a1 rec) N
noncomputable def m (N : Nat) (a0 : List MapStep) (a1 : Int) : Option R :=
  lp2 N a0 a1 (a1, (0:Int))
@[reducible] noncomputable def sp (N : Nat) : Spec E := { ps := [.val (.slice 156 (.st 156)), .val (.int .i64)], rs := [(.int .i64)], own := true, dp := false, R := R, fn := fun x => m N x.1 x.2.1, res := fun r => (r, ()), out := fun r => ((), (), ()), shut := fun a b => a.1, res_shut := fun _ _ => rfl, out_shut := fun _ _ => rfl }
end laws_heldMapStepS
/-! ### laws_heldMapProof: loop.example/g00220/laws.heldMapProof -/
namespace laws_heldMapProof
abbrev R := Int
noncomputable def m (N : Nat) (a0 : MapProof) (a1 : Int) : Option R :=
  ob (laws_heldMapStepS.m N a0.Steps a1) fun y1 =>
  bif (decide (y1 < (0:Int))) then
    some (-1:Int)
  else
  some y1
@[reducible] noncomputable def sp (N : Nat) : Spec E := { ps := [.val (.st 82), .val (.int .i64)], rs := [(.int .i64)], own := true, dp := false, R := R, fn := fun x => m N x.1 x.2.1, res := fun r => (r, ()), out := fun r => ((), (), ()), shut := fun a b => a.1, res_shut := fun _ _ => rfl, out_shut := fun _ _ => rfl }
end laws_heldMapProof
/-! ### laws_FnExactProveKey: loop.example/g00220/laws.FnExactProveKey -/
namespace laws_FnExactProveKey
abbrev R := Bool
noncomputable def m (N : Nat) (a0 : Branch) (a1 : ByteArray) : Option R :=
  bif (decide ((a1.size : Int) > (1048576:Int))) then
    some true
  else
  ob (laws_szBranch.m N (Branch.mk a0.Key a0.Value a0.At a0.Kids) (1048576:Int)) fun y1 =>
  bif (decide (y1 < (0:Int))) then
    some true
  else
  ob (laws_toBranch.m N (Branch.mk a0.Key a0.Value a0.At a0.Kids)) fun y2 =>
  ob (spec_ProveKey.m N (Branch.mk y2.Key y2.Value y2.At y2.Kids) a1) fun y3 =>
  ob (laws_toBranch.m N (Branch.mk a0.Key a0.Value a0.At a0.Kids)) fun y4 =>
  ob (impl_ProveKey.m N (Branch.mk y4.Key y4.Value y4.At y4.Kids) a1) fun y5 =>
  ob (laws_eqMapProof.m N y5.1 y3.1) fun y6 =>
  bif (!y6) then
    some false
  else
  bif (bif false then true else (y5.2 != y3.2)) then
    some false
  else
  ob (laws_toBranch.m N (Branch.mk a0.Key a0.Value a0.At a0.Kids)) fun y7 =>
  ob (laws_eqBranch.m N (Branch.mk y4.Key y4.Value y4.At y4.Kids) (Branch.mk y7.Key y7.Value y7.At y7.Kids)) fun y8 =>
  bif (!y8) then
    some false
  else
  ob (laws_markBranch.m N (Branch.mk y4.Key y4.Value y4.At y4.Kids) (1:Int)) fun y9 =>
  bif (decide (y9.1 < (0:Int))) then
    some false
  else
  ob (laws_eqMapProof.m N y5.1 y3.1) fun y10 =>
  bif (bif false then true else (!y10)) then
    some false
  else
  bif (bif false then true else (y5.2 != y3.2)) then
    some false
  else
  ob (laws_markMapProof.m N y5.1 (1:Int)) fun y11 =>
  ob (laws_heldMapProof.m N (MapProof.mk y5.1.Found y5.1.Key y5.1.Value y11.2.Steps) (1:Int)) fun y12 =>
  bif (decide (y12 < (0:Int))) then
    some false
  else
  bif (y12 != y11.1) then
    some false
  else
  ob (laws_toBranch.m N (Branch.mk a0.Key a0.Value a0.At a0.Kids)) fun y13 =>
  ob (impl_ProveKey.m N (Branch.mk y13.Key y13.Value y13.At y13.Kids) a1) fun y14 =>
  ob (laws_eqMapProof.m N y14.1 y3.1) fun y15 =>
  bif (!y15) then
    some false
  else
  bif (bif false then true else (y14.2 != y3.2)) then
    some false
  else
  ob (laws_heldMapProof.m N (MapProof.mk y5.1.Found y5.1.Key y5.1.Value y11.2.Steps) (1:Int)) fun y16 =>
  bif (decide (y16 < (0:Int))) then
    some false
  else
  bif (y16 != y11.1) then
    some false
  else
  some true
@[reducible] noncomputable def sp (N : Nat) : Spec E := { ps := [.val (.st 67), .val .str], rs := [.bool], own := true, dp := false, R := R, fn := fun x => m N x.1 x.2.1, res := fun r => (r, ()), out := fun r => ((), (), ()), shut := fun a b => a.1, res_shut := fun _ _ => rfl, out_shut := fun _ _ => rfl }
end laws_FnExactProveKey
/-! ### laws_szStringS: loop.example/g00220/laws.szStringS -/
namespace laws_szStringS
abbrev R := Int
noncomputable def step5 (N : Nat) (a0 : List ByteArray) (a1 : Int) (rec : (Int × Int) → Option R) : (Int × Int) → Option R
  | (v1, v2) =>
    bif (decide (v2 < (a0.length : Int))) then
      bif (decide (0 ≤ v2)) then
      bif (decide (v2 < (a0.length : Int))) then
      bif (decide ((w64 (v1 - ((a0.getD (Int.toNat v2) ByteArray.empty).size : Int))) < (0:Int))) then
        some (-1:Int)
      else
      rec ((w64 (v1 - ((a0.getD (Int.toNat v2) ByteArray.empty).size : Int))), (w64 (v2 + (1:Int))))
      else none
      else none
    else
    some v1
noncomputable def lp5 (N : Nat) (a0 : List ByteArray) (a1 : Int) : (Int × Int) → Option R :=
  miter (fun rec => step5 N a0 a1 rec) N
noncomputable def m (N : Nat) (a0 : List ByteArray) (a1 : Int) : Option R :=
  bif (decide ((w64 (a1 - (a0.length : Int))) < (0:Int))) then
    some (-1:Int)
  else
  lp5 N a0 a1 ((w64 (a1 - (a0.length : Int))), (0:Int))
@[reducible] noncomputable def sp (N : Nat) : Spec E := { ps := [.val (.slice 9 .str), .val (.int .i64)], rs := [(.int .i64)], own := true, dp := false, R := R, fn := fun x => m N x.1 x.2.1, res := fun r => (r, ()), out := fun r => ((), (), ()), shut := fun a b => a.1, res_shut := fun _ _ => rfl, out_shut := fun _ _ => rfl }
end laws_szStringS
/-! ### laws_szReply: loop.example/g00220/laws.szReply -/
namespace laws_szReply
abbrev R := Int
noncomputable def m (N : Nat) (a0 : Reply) (a1 : Int) : Option R :=
  bif (decide ((w64 (a1 - (a0.Value.size : Int))) < (0:Int))) then
    some (-1:Int)
  else
  some (w64 (a1 - (a0.Value.size : Int)))
@[reducible] noncomputable def sp (N : Nat) : Spec E := { ps := [.val (.st 220), .val (.int .i64)], rs := [(.int .i64)], own := true, dp := false, R := R, fn := fun x => m N x.1 x.2.1, res := fun r => (r, ()), out := fun r => ((), (), ()), shut := fun a b => a.1, res_shut := fun _ _ => rfl, out_shut := fun _ _ => rfl }
end laws_szReply
/-! ### laws_szSession: loop.example/g00220/laws.szSession -/
namespace laws_szSession
abbrev R := Int
noncomputable def m (N : Nat) (a0 : Session) (a1 : Int) : Option R :=
  ob (laws_szReply.m N (Reply.mk a0.Last.Kind a0.Last.Place a0.Last.Value) a1) fun y1 =>
  bif (decide (y1 < (0:Int))) then
    some (-1:Int)
  else
  some y1
@[reducible] noncomputable def sp (N : Nat) : Spec E := { ps := [.val (.st 222), .val (.int .i64)], rs := [(.int .i64)], own := true, dp := false, R := R, fn := fun x => m N x.1 x.2.1, res := fun r => (r, ()), out := fun r => ((), (), ()), shut := fun a b => a.1, res_shut := fun _ _ => rfl, out_shut := fun _ _ => rfl }
end laws_szSession
/-! ### laws_szSessionS: loop.example/g00220/laws.szSessionS -/
namespace laws_szSessionS
abbrev R := Int
noncomputable def step5 (N : Nat) (a0 : List Session) (a1 : Int) (rec : (Int × Int) → Option R) : (Int × Int) → Option R
  | (v1, v2) =>
    bif (decide (v2 < (a0.length : Int))) then
      bif (decide (0 ≤ v2)) then
      bif (decide (v2 < (a0.length : Int))) then
      ob (laws_szSession.m N (Session.mk ((a0.getD (Int.toNat v2) Session.dz).Id) ((a0.getD (Int.toNat v2) Session.dz).Seq) (Reply.mk ((a0.getD (Int.toNat v2) Session.dz).Last.Kind) ((a0.getD (Int.toNat v2) Session.dz).Last.Place) ((a0.getD (Int.toNat v2) Session.dz).Last.Value))) v1) fun y1 =>
      bif (decide (y1 < (0:Int))) then
        some (-1:Int)
      else
      rec (y1, (w64 (v2 + (1:Int))))
      else none
      else none
    else
    some v1
noncomputable def lp5 (N : Nat) (a0 : List Session) (a1 : Int) : (Int × Int) → Option R :=
  miter (fun rec => step5 N a0 a1 rec) N
noncomputable def m (N : Nat) (a0 : List Session) (a1 : Int) : Option R :=
  bif (decide ((w64 (a1 - (a0.length : Int))) < (0:Int))) then
    some (-1:Int)
  else
  lp5 N a0 a1 ((w64 (a1 - (a0.length : Int))), (0:Int))
@[reducible] noncomputable def sp (N : Nat) : Spec E := { ps := [.val (.slice 222 (.st 222)), .val (.int .i64)], rs := [(.int .i64)], own := true, dp := false, R := R, fn := fun x => m N x.1 x.2.1, res := fun r => (r, ()), out := fun r => ((), (), ()), shut := fun a b => a.1, res_shut := fun _ _ => rfl, out_shut := fun _ _ => rfl }
end laws_szSessionS
/-! ### laws_szLedger: loop.example/g00220/laws.szLedger -/
namespace laws_szLedger
abbrev R := Int
noncomputable def m (N : Nat) (a0 : Ledger) (a1 : Int) : Option R :=
  ob (laws_szStringS.m N a0.Leaves a1) fun y1 =>
  bif (decide (y1 < (0:Int))) then
    some (-1:Int)
  else
  ob (laws_szBranch.m N (Branch.mk a0.Map.Key a0.Map.Value a0.Map.At a0.Map.Kids) y1) fun y2 =>
  bif (decide (y2 < (0:Int))) then
    some (-1:Int)
  else
  ob (laws_szSessionS.m N a0.Sessions y2) fun y3 =>
  bif (decide (y3 < (0:Int))) then
    some (-1:Int)
  else
  some y3
@[reducible] noncomputable def sp (N : Nat) : Spec E := { ps := [.val (.st 101), .val (.int .i64)], rs := [(.int .i64)], own := true, dp := false, R := R, fn := fun x => m N x.1 x.2.1, res := fun r => (r, ()), out := fun r => ((), (), ()), shut := fun a b => a.1, res_shut := fun _ _ => rfl, out_shut := fun _ _ => rfl }
end laws_szLedger
/-! ### laws_toStringS: loop.example/g00220/laws.toStringS -/
namespace laws_toStringS
abbrev R := (List ByteArray)
noncomputable def step3 (N : Nat) (a0 : List ByteArray) (rec : (Int × (List ByteArray)) → Option R) : (Int × (List ByteArray)) → Option R
  | (v1, v2) =>
    bif (decide (v1 < (a0.length : Int))) then
      bif (decide (0 ≤ v1)) then
      bif (decide (v1 < (a0.length : Int))) then
      bif (decide (0 ≤ v1)) then
      bif (decide (v1 < (v2.length : Int))) then
      rec ((w64 (v1 + (1:Int))), (v2.set (Int.toNat v1) (a0.getD (Int.toNat v1) ByteArray.empty)))
      else none
      else none
      else none
      else none
    else
    some v2
noncomputable def lp3 (N : Nat) (a0 : List ByteArray) : (Int × (List ByteArray)) → Option R :=
  miter (fun rec => step3 N a0 rec) N
noncomputable def m (N : Nat) (a0 : List ByteArray) : Option R :=
  bif (decide (0 ≤ (a0.length : Int))) then
  bif (room (Int.toNat (a0.length : Int)) 16) then
  lp3 N a0 ((0:Int), (List.replicate (Int.toNat (a0.length : Int)) ByteArray.empty))
  else none
  else none
@[reducible] noncomputable def sp (N : Nat) : Spec E := { ps := [.val (.slice 9 .str)], rs := [(.slice 9 .str)], own := true, dp := false, R := R, fn := fun x => m N x.1, res := fun r => (r, ()), out := fun r => ((), ()), shut := fun a b => a.1, res_shut := fun _ _ => rfl, out_shut := fun _ _ => rfl }
end laws_toStringS
/-! ### laws_toReply: loop.example/g00220/laws.toReply -/
namespace laws_toReply
abbrev R := Reply
noncomputable def m (N : Nat) (a0 : Reply) : Option R :=
  some a0
@[reducible] noncomputable def sp (N : Nat) : Spec E := { ps := [.val (.st 220)], rs := [(.st 172)], own := true, dp := false, R := R, fn := fun x => m N x.1, res := fun r => (r, ()), out := fun r => ((), ()), shut := fun a b => a.1, res_shut := fun _ _ => rfl, out_shut := fun _ _ => rfl }
end laws_toReply
/-! ### laws_toSession: loop.example/g00220/laws.toSession -/
namespace laws_toSession
abbrev R := Session
noncomputable def m (N : Nat) (a0 : Session) : Option R :=
  ob (laws_toReply.m N (Reply.mk a0.Last.Kind a0.Last.Place a0.Last.Value)) fun y1 =>
  some (Session.mk a0.Id a0.Seq y1)
@[reducible] noncomputable def sp (N : Nat) : Spec E := { ps := [.val (.st 222)], rs := [(.st 174)], own := true, dp := false, R := R, fn := fun x => m N x.1, res := fun r => (r, ()), out := fun r => ((), ()), shut := fun a b => a.1, res_shut := fun _ _ => rfl, out_shut := fun _ _ => rfl }
end laws_toSession
/-! ### laws_toSessionS: loop.example/g00220/laws.toSessionS -/
namespace laws_toSessionS
abbrev R := (List Session)
noncomputable def step3 (N : Nat) (a0 : List Session) (rec : (Int × (List Session)) → Option R) : (Int × (List Session)) → Option R
  | (v1, v2) =>
    bif (decide (v1 < (a0.length : Int))) then
      bif (decide (0 ≤ v1)) then
      bif (decide (v1 < (a0.length : Int))) then
      ob (laws_toSession.m N (Session.mk ((a0.getD (Int.toNat v1) Session.dz).Id) ((a0.getD (Int.toNat v1) Session.dz).Seq) (Reply.mk ((a0.getD (Int.toNat v1) Session.dz).Last.Kind) ((a0.getD (Int.toNat v1) Session.dz).Last.Place) ((a0.getD (Int.toNat v1) Session.dz).Last.Value)))) fun y1 =>
      bif (decide (0 ≤ v1)) then
      bif (decide (v1 < (v2.length : Int))) then
      rec ((w64 (v1 + (1:Int))), (v2.set (Int.toNat v1) (Session.mk y1.Id y1.Seq (Reply.mk y1.Last.Kind y1.Last.Place y1.Last.Value))))
      else none
      else none
      else none
      else none
    else
    some v2
noncomputable def lp3 (N : Nat) (a0 : List Session) : (Int × (List Session)) → Option R :=
  miter (fun rec => step3 N a0 rec) N
noncomputable def m (N : Nat) (a0 : List Session) : Option R :=
  bif (decide (0 ≤ (a0.length : Int))) then
  bif (room (Int.toNat (a0.length : Int)) 48) then
  lp3 N a0 ((0:Int), (List.replicate (Int.toNat (a0.length : Int)) (Session.mk (0:Int) (0:Int) (Reply.mk (0:Int) (0:Int) ByteArray.empty))))
  else none
  else none
@[reducible] noncomputable def sp (N : Nat) : Spec E := { ps := [.val (.slice 222 (.st 222))], rs := [(.slice 174 (.st 174))], own := true, dp := false, R := R, fn := fun x => m N x.1, res := fun r => (r, ()), out := fun r => ((), ()), shut := fun a b => a.1, res_shut := fun _ _ => rfl, out_shut := fun _ _ => rfl }
end laws_toSessionS
/-! ### laws_toLedger: loop.example/g00220/laws.toLedger -/
namespace laws_toLedger
abbrev R := Ledger
noncomputable def m (N : Nat) (a0 : Ledger) : Option R :=
  ob (laws_toStringS.m N a0.Leaves) fun y1 =>
  ob (laws_toBranch.m N (Branch.mk a0.Map.Key a0.Map.Value a0.Map.At a0.Map.Kids)) fun y2 =>
  ob (laws_toSessionS.m N a0.Sessions) fun y3 =>
  some (Ledger.mk y1 (Branch.mk y2.Key y2.Value y2.At y2.Kids) y3)
@[reducible] noncomputable def sp (N : Nat) : Spec E := { ps := [.val (.st 101)], rs := [(.st 106)], own := true, dp := true, R := R, fn := fun x => m N x.1, res := fun r => (r, ()), out := fun r => ((), ()), shut := fun a b => a.1, res_shut := fun _ _ => rfl, out_shut := fun _ _ => rfl }
end laws_toLedger
/-! ### spec_l06Hashes: loop.example/g00220/spec.l06Hashes -/
namespace spec_l06Hashes
abbrev R := Bool
noncomputable def step4 (N : Nat) (a0 : List ByteArray) (rec : Int → Option R) : Int → Option R
  | v1 =>
    bif (decide (v1 < (a0.length : Int))) then
      bif (decide (0 ≤ v1)) then
      bif (decide (v1 < (a0.length : Int))) then
      bif (((a0.getD (Int.toNat v1) ByteArray.empty).size : Int) != (32:Int)) then
        some false
      else
      rec (w64 (v1 + (1:Int)))
      else none
      else none
    else
    some true
noncomputable def lp4 (N : Nat) (a0 : List ByteArray) : Int → Option R :=
  miter (fun rec => step4 N a0 rec) N
noncomputable def m (N : Nat) (a0 : List ByteArray) : Option R :=
  bif (decide ((a0.length : Int) > (64:Int))) then
    some false
  else
  lp4 N a0 (0:Int)
@[reducible] noncomputable def sp (N : Nat) : Spec E := { ps := [.val (.slice 9 .str)], rs := [.bool], own := true, dp := false, R := R, fn := fun x => m N x.1, res := fun r => (r, ()), out := fun r => ((), ()), shut := fun a b => a.1, res_shut := fun _ _ => rfl, out_shut := fun _ _ => rfl }
end spec_l06Hashes
end Mir.Y
