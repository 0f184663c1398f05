/- Models of functions. -/
import Derived.Lib.Bytealg
import Derived.Test.YtojpcjbdehoibaaGreatKM1
namespace Mir.Y
set_option linter.unusedVariables false
set_option maxRecDepth 10000
open Go Go.Proofs Mir
/-! ### impl_wordsOf: loop.example/g00220/impl.wordsOf -/
namespace impl_wordsOf
abbrev R := (List Int)
noncomputable def step3 (N : Nat) (a0 : ByteArray) (rec : (Int × (List Int) × (List Int)) → Option R) : (Int × (List Int) × (List Int)) → Option R
  | (v1, v2, v3) =>
    bif (decide (v1 < (64:Int))) then
      bif (decide (v1 < (16:Int))) then
        bif (decide (0 ≤ (w64 ((4:Int) * v1)))) then
        bif (decide ((w64 ((4:Int) * v1)) < (a0.size : Int))) then
        bif (!decide ((24:Int) < 0)) then
        bif (decide (0 ≤ (w64 ((w64 ((4:Int) * v1)) + (1:Int))))) then
        bif (decide ((w64 ((w64 ((4:Int) * v1)) + (1:Int))) < (a0.size : Int))) then
        bif (!decide ((16:Int) < 0)) then
        (let w1 : Int := (ibit .or .u32 (wu32 ((wu32 (sb a0 (w64 ((4:Int) * v1)))) * 2 ^ (min (Int.toNat (24:Int)) 32))) (wu32 ((wu32 (sb a0 (w64 ((w64 ((4:Int) * v1)) + (1:Int))))) * 2 ^ (min (Int.toNat (16:Int)) 32))))
        bif (decide (0 ≤ (w64 ((w64 ((4:Int) * v1)) + (2:Int))))) then
        bif (decide ((w64 ((w64 ((4:Int) * v1)) + (2:Int))) < (a0.size : Int))) then
        bif (!decide ((8:Int) < 0)) then
        bif (decide (0 ≤ (w64 ((w64 ((4:Int) * v1)) + (3:Int))))) then
        bif (decide ((w64 ((w64 ((4:Int) * v1)) + (3:Int))) < (a0.size : Int))) then
        (let w2 : Int := (ibit .or .u32 (ibit .or .u32 w1 (wu32 ((wu32 (sb a0 (w64 ((w64 ((4:Int) * v1)) + (2:Int))))) * 2 ^ (min (Int.toNat (8:Int)) 32)))) (wu32 (sb a0 (w64 ((w64 ((4:Int) * v1)) + (3:Int))))))
        bif (decide (0 ≤ v1)) then
        bif (decide (v1 < (64 : Int))) then
        rec ((w64 (v1 + (1:Int))), v2, (v3.set (Int.toNat v1) w2))
        else none
        else none)
        else none
        else none
        else none
        else none
        else none)
        else none
        else none
        else none
        else none
        else none
        else none
      else
      bif (decide (0 ≤ (w64 (v1 - (15:Int))))) then
      bif (decide ((w64 (v1 - (15:Int))) < (64 : Int))) then
      bif (decide (0 ≤ (w64 (v1 - (2:Int))))) then
      bif (decide ((w64 (v1 - (2:Int))) < (64 : Int))) then
      ob (impl_turned.m N (v3.getD (Int.toNat (w64 (v1 - (15:Int)))) 0) (7:Int)) fun y3 =>
      ob (impl_turned.m N (v3.getD (Int.toNat (w64 (v1 - (15:Int)))) 0) (18:Int)) fun y4 =>
      bif (!decide ((3:Int) < 0)) then
      ob (impl_turned.m N (v3.getD (Int.toNat (w64 (v1 - (2:Int)))) 0) (17:Int)) fun y5 =>
      ob (impl_turned.m N (v3.getD (Int.toNat (w64 (v1 - (2:Int)))) 0) (19:Int)) fun y6 =>
      bif (!decide ((10:Int) < 0)) then
      bif (decide (0 ≤ (w64 (v1 - (16:Int))))) then
      bif (decide ((w64 (v1 - (16:Int))) < (64 : Int))) then
      (let w7 : Int := (wu32 ((v3.getD (Int.toNat (w64 (v1 - (16:Int)))) 0) + (ibit .xor .u32 (ibit .xor .u32 y3 y4) (Int.fdiv (v3.getD (Int.toNat (w64 (v1 - (15:Int)))) 0) (2 ^ (min (Int.toNat (3:Int)) 32))))))
      bif (decide (0 ≤ (w64 (v1 - (7:Int))))) then
      bif (decide ((w64 (v1 - (7:Int))) < (64 : Int))) then
      (let w8 : Int := (wu32 ((wu32 (w7 + (v3.getD (Int.toNat (w64 (v1 - (7:Int)))) 0))) + (ibit .xor .u32 (ibit .xor .u32 y5 y6) (Int.fdiv (v3.getD (Int.toNat (w64 (v1 - (2:Int)))) 0) (2 ^ (min (Int.toNat (10:Int)) 32))))))
      bif (decide (0 ≤ v1)) then
      bif (decide (v1 < (64 : Int))) then
      rec ((w64 (v1 + (1:Int))), v2, (v3.set (Int.toNat v1) w8))
      else none
      else none)
      else none
      else none)
      else none
      else none
      else none
      else none
      else none
      else none
      else none
      else none
    else
    some v3
noncomputable def lp3 (N : Nat) (a0 : ByteArray) : (Int × (List Int) × (List Int)) → Option R :=
  miter (fun rec => step3 N a0 rec) N
noncomputable def m (N : Nat) (a0 : ByteArray) : Option R :=
  lp3 N a0 ((0:Int), (List.replicate 64 (0:Int)), (List.replicate 64 (0:Int)))
@[reducible] noncomputable def sp (N : Nat) : Spec E := { ps := [.val .str], rs := [(.arr .u32 64)], own := true, dp := false, R := R, fn := fun x => m N x.1, res := fun r => (r, ()), out := fun r => ((), ()), shut := fun a b => a.1, res_shut := fun _ _ => rfl, out_shut := fun _ _ => rfl }
end impl_wordsOf
/-! ### impl_blockHash: loop.example/g00220/impl.blockHash -/
namespace impl_blockHash
abbrev R := (List Int)
noncomputable def step3 (N : Nat) (a0 : List Int) (a1 : List Int) (a2 : ByteArray) (lp11 : Int × (List Int) × (List Int) → Option R) (rec : (Int × (List Int) × (List Int) × (List Int)) → Option R) : (Int × (List Int) × (List Int) × (List Int)) → Option R
  | (v0, v3, v4, v5) =>
    bif (decide (v0 < (64:Int))) then
      bif (decide (0 ≤ (0:Int))) then
      bif (decide ((0:Int) < (8 : Int))) then
      bif (decide (0 ≤ (1:Int))) then
      bif (decide ((1:Int) < (8 : Int))) then
      bif (decide (0 ≤ (2:Int))) then
      bif (decide ((2:Int) < (8 : Int))) then
      bif (decide (0 ≤ (4:Int))) then
      bif (decide ((4:Int) < (8 : Int))) then
      bif (decide (0 ≤ (5:Int))) then
      bif (decide ((5:Int) < (8 : Int))) then
      bif (decide (0 ≤ (6:Int))) then
      bif (decide ((6:Int) < (8 : Int))) then
      bif (decide (0 ≤ (7:Int))) then
      bif (decide ((7:Int) < (8 : Int))) then
      ob (impl_turned.m N (v4.getD 4 0) (6:Int)) fun y2 =>
      ob (impl_turned.m N (v4.getD 4 0) (11:Int)) fun y3 =>
      ob (impl_turned.m N (v4.getD 4 0) (25:Int)) fun y4 =>
      (let w5 : Int := (ibit .or .u32 (ibit .and .u32 (v4.getD 4 0) (v4.getD 5 0)) (ibit .and .u32 (ibit .xor .u32 (if IntKind.signed .u32 then -1 else IntKind.max .u32) (v4.getD 4 0)) (v4.getD 6 0)))
      bif (decide (0 ≤ v0)) then
      bif (decide (v0 < (64 : Int))) then
      bif (decide (0 ≤ v0)) then
      bif (decide (v0 < (64 : Int))) then
      (let w6 : Int := (wu32 ((wu32 ((wu32 ((wu32 ((v4.getD 7 0) + (ibit .xor .u32 (ibit .xor .u32 y2 y3) y4))) + w5)) + (a1.getD (Int.toNat v0) 0))) + (v5.getD (Int.toNat v0) 0)))
      ob (impl_turned.m N (v4.getD 0 0) (2:Int)) fun y7 =>
      ob (impl_turned.m N (v4.getD 0 0) (13:Int)) fun y8 =>
      ob (impl_turned.m N (v4.getD 0 0) (22:Int)) fun y9 =>
      (let w10 : Int := (ibit .or .u32 (ibit .or .u32 (ibit .and .u32 (v4.getD 0 0) (v4.getD 1 0)) (ibit .and .u32 (v4.getD 0 0) (v4.getD 2 0))) (ibit .and .u32 (v4.getD 1 0) (v4.getD 2 0)))
      bif (decide (0 ≤ (3:Int))) then
      bif (decide ((3:Int) < (8 : Int))) then
      (let w11 : List Int := [(wu32 (w6 + (wu32 ((ibit .xor .u32 (ibit .xor .u32 y7 y8) y9) + w10)))), (v4.getD 0 0), (v4.getD 1 0), (v4.getD 2 0), (wu32 ((v4.getD 3 0) + w6)), (v4.getD 4 0), (v4.getD 5 0), (v4.getD 6 0)]
      rec ((w64 (v0 + (1:Int))), v3, w11, v5))
      else none
      else none))
      else none
      else none
      else none
      else none)
      else none
      else none
      else none
      else none
      else none
      else none
      else none
      else none
      else none
      else none
      else none
      else none
      else none
      else none
    else
    lp11 ((0:Int), v3, v4)
noncomputable def step11 (N : Nat) (a0 : List Int) (a1 : List Int) (a2 : ByteArray) (rec : (Int × (List Int) × (List Int)) → Option R) : (Int × (List Int) × (List Int)) → Option R
  | (v0, v2, v3) =>
    bif (decide (v0 < (8:Int))) then
      bif (decide (0 ≤ v0)) then
      bif (decide (v0 < (8 : Int))) then
      bif (decide (0 ≤ v0)) then
      bif (decide (v0 < (8 : Int))) then
      bif (decide (0 ≤ v0)) then
      bif (decide (v0 < (8 : Int))) then
      rec ((w64 (v0 + (1:Int))), v2, (v3.set (Int.toNat v0) (wu32 ((v3.getD (Int.toNat v0) 0) + (a0.getD (Int.toNat v0) 0)))))
      else none
      else none
      else none
      else none
      else none
      else none
    else
    some v3
noncomputable def lp11 (N : Nat) (a0 : List Int) (a1 : List Int) (a2 : ByteArray) : (Int × (List Int) × (List Int)) → Option R :=
  miter (fun rec => step11 N a0 a1 a2 rec) N
noncomputable def lp3 (N : Nat) (a0 : List Int) (a1 : List Int) (a2 : ByteArray) : (Int × (List Int) × (List Int) × (List Int)) → Option R :=
  miter (fun rec => step3 N a0 a1 a2 (lp11 N a0 a1 a2) rec) N
noncomputable def m (N : Nat) (a0 : List Int) (a1 : List Int) (a2 : ByteArray) : Option R :=
  ob (impl_wordsOf.m N a2) fun y1 =>
  lp3 N a0 a1 a2 ((0:Int), (List.replicate 8 (0:Int)), a0, y1)
@[reducible] noncomputable def sp (N : Nat) : Spec E := { ps := [.val (.arr .u32 8), .val (.arr .u32 64), .val .str], rs := [(.arr .u32 8)], own := true, dp := false, R := R, fn := fun x => m N x.1 x.2.1 x.2.2.1, res := fun r => (r, ()), out := fun r => ((), (), (), ()), shut := fun a b => a.1, res_shut := fun _ _ => rfl, out_shut := fun _ _ => rfl }
end impl_blockHash
/-! ### impl_hash: loop.example/g00220/impl.hash -/
namespace impl_hash
abbrev R := ByteArray
noncomputable def step4 (N : Nat) (a0 : ByteArray) (lp9 : ByteArray × (List Int) × Int → Option R) (rec : (ByteArray × Int × (List Int) × (List Int)) → Option R) : (ByteArray × Int × (List Int) × (List Int)) → Option R
  | (v0, v1, v2, v3) =>
    bif (decide (v1 < (v0.size : Int))) then
      bif (decide (0 ≤ (w64 (v1 + (64:Int))))) then
      bif (decide ((w64 (v1 + (64:Int))) ≤ ((v0.size : Nat) : Int))) then
      bif (decide (0 ≤ v1)) then
      bif (decide (v1 ≤ (((Int.toNat (w64 (v1 + (64:Int)))) : Nat) : Int))) then
      ob (impl_blockHash.m N v2 v3 (v0.extract (Int.toNat v1) (Int.toNat (w64 (v1 + (64:Int)))))) fun y5 =>
      rec (v0, (w64 (v1 + (64:Int))), y5, v3)
      else none
      else none
      else none
      else none
    else
    lp9 (ByteArray.empty, v2, (0:Int))
noncomputable def step9 (N : Nat) (a0 : ByteArray) (rec : (ByteArray × (List Int) × Int) → Option R) : (ByteArray × (List Int) × Int) → Option R
  | (v0, v1, v2) =>
    bif (decide (v2 < (8:Int))) then
      bif (decide (0 ≤ v2)) then
      bif (decide (v2 < (8 : Int))) then
      ob (impl_number.m N (w64 (v1.getD (Int.toNat v2) 0)) (4:Int)) fun y6 =>
      bif (decide (v0.size + y6.size ≤ 9223372036854775807)) then
      rec ((v0 ++ y6), v1, (w64 (v2 + (1:Int))))
      else none
      else none
      else none
    else
    some v0
noncomputable def lp9 (N : Nat) (a0 : ByteArray) : (ByteArray × (List Int) × Int) → Option R :=
  miter (fun rec => step9 N a0 rec) N
noncomputable def lp4 (N : Nat) (a0 : ByteArray) : (ByteArray × Int × (List Int) × (List Int)) → Option R :=
  miter (fun rec => step4 N a0 (lp9 N a0) rec) N
noncomputable def m (N : Nat) (a0 : ByteArray) : Option R :=
  bif (decide (a0.size + (⟨#[128]⟩ : ByteArray).size ≤ 9223372036854775807)) then
  bif (!decide ((64:Int) = 0)) then
  bif (!decide ((64:Int) = 0)) then
  ob (strings_Repeat.m N (⟨#[0]⟩ : ByteArray) (Int.tmod (w64 ((119:Int) - (Int.tmod (a0.size : Int) (64:Int)))) (64:Int))) fun y1 =>
  bif (decide ((a0 ++ (⟨#[128]⟩ : ByteArray)).size + y1.size ≤ 9223372036854775807)) then
  ob (impl_number.m N (w64 ((8:Int) * (a0.size : Int))) (8:Int)) fun y2 =>
  bif (decide (((a0 ++ (⟨#[128]⟩ : ByteArray)) ++ y1).size + y2.size ≤ 9223372036854775807)) then
  ob (impl_hashWords.m N) fun y3 =>
  ob (impl_roundWords.m N) fun y4 =>
  lp4 N a0 ((((a0 ++ (⟨#[128]⟩ : ByteArray)) ++ y1) ++ y2), (0:Int), y3, y4)
  else none
  else none
  else none
  else none
  else none
@[reducible] noncomputable def sp (N : Nat) : Spec E := { ps := [.val .str], rs := [.str], own := true, dp := false, R := R, fn := fun x => m N x.1, res := fun r => (r, ()), out := fun r => ((), ()), shut := fun a b => a.1, res_shut := fun _ _ => rfl, out_shut := fun _ _ => rfl }
end impl_hash
/-! ### impl_Branch_isFork: (loop.example/g00220/impl.Branch).isFork -/
namespace impl_Branch_isFork
abbrev R := Bool
noncomputable def m (N : Nat) (a0 : Branch) : Option R :=
  bif (seq a0.Key ByteArray.empty) then
    bif (bif true then (seq a0.Value ByteArray.empty) else false) then
      ob (impl_within.m N a0.At (0:Int) (255:Int)) fun y1 =>
      bif (bif true then y1 else false) then
        some (bif true then ((a0.Kids.length : Int) == (2:Int)) else false)
      else
      some false
    else
    some false
  else
  some false
@[reducible] noncomputable def sp (N : Nat) : Spec E := { ps := [.val (.st 25)], rs := [.bool], own := true, dp := false, R := R, fn := fun x => m N x.1, res := fun r => (r, ()), out := fun r => ((), ()), shut := fun a b => a.1, res_shut := fun _ _ => rfl, out_shut := fun _ _ => rfl }
end impl_Branch_isFork
/-! ### impl_bit: loop.example/g00220/impl.bit -/
namespace impl_bit
abbrev R := Int
noncomputable def m (N : Nat) (a0 : ByteArray) (a1 : Int) : Option R :=
  bif (!decide ((8:Int) = 0)) then
  bif (decide (0 ≤ (w64 (Int.tdiv a1 (8:Int))))) then
  bif (decide ((w64 (Int.tdiv a1 (8:Int))) < (a0.size : Int))) then
  bif (!decide ((8:Int) = 0)) then
  bif (!decide ((w64 ((7:Int) - (Int.tmod a1 (8:Int)))) < 0)) then
  (let w1 : Int := (ibit .and .i64 (w64 (Int.fdiv (sb a0 (w64 (Int.tdiv a1 (8:Int)))) (2 ^ (min (Int.toNat (w64 ((7:Int) - (Int.tmod a1 (8:Int))))) 8)))) (1:Int))
  some w1)
  else none
  else none
  else none
  else none
  else none
@[reducible] noncomputable def sp (N : Nat) : Spec E := { ps := [.val .str, .val (.int .i64)], rs := [(.int .i64)], own := true, dp := false, R := R, fn := fun x => m N x.1 x.2.1, res := fun r => (r, ()), out := fun r => ((), (), ()), shut := fun a b => a.1, res_shut := fun _ _ => rfl, out_shut := fun _ _ => rfl }
end impl_bit
/-! ### impl_Branch_pairs_1: (loop.example/g00220/impl.Branch).pairs$1 -/
namespace impl_Branch_pairs_1
abbrev R := Bool
noncomputable def m (N : Nat) (a0 : pairOf) (a1 : Branch) (a2 : Int) : Option R :=
  ob (impl_bit.m N a0.hash a1.At) fun y1 =>
  some (y1 != a2)
@[reducible] noncomputable def sp (N : Nat) : Spec E := { ps := [.val (.st 58), .cap (.rb (.st 25)), .cap (.rb (.int .i64))], rs := [.bool], own := true, dp := false, R := R, fn := fun x => m N x.1 x.2.1 x.2.2.1, res := fun r => (r, ()), out := fun r => ((), (), (), ()), shut := fun a b => a.1, res_shut := fun _ _ => rfl, out_shut := fun _ _ => rfl }
end impl_Branch_pairs_1
/-! ### slices_IndexFunc_impl_pairOf_impl_pairOf__impl_Branch_pairs_1: slices.IndexFunc[[]loop.example/g00220/impl.pairOf,loop.example/g00220/impl.pairOf] -/
namespace slices_IndexFunc_impl_pairOf_impl_pairOf__impl_Branch_pairs_1
abbrev R := Int
noncomputable def step2 (N : Nat) (a0 : List pairOf) (a1_0 : Branch) (a1_1 : Int) (rec : (Int × Int) → Option R) : (Int × Int) → Option R
  | (v1, v2) =>
    bif (decide (v2 < v1)) then
      bif (decide (0 ≤ v2)) then
      bif (decide (v2 < (a0.length : Int))) then
      ob (impl_Branch_pairs_1.m N (a0.getD (Int.toNat v2) pairOf.dz) (Branch.mk a1_0.Key a1_0.Value a1_0.At a1_0.Kids) a1_1) fun y1 =>
      bif y1 then
        some v2
      else
      rec (v1, (w64 (v2 + (1:Int))))
      else none
      else none
    else
    some (-1:Int)
noncomputable def lp2 (N : Nat) (a0 : List pairOf) (a1_0 : Branch) (a1_1 : Int) : (Int × Int) → Option R :=
  miter (fun rec => step2 N a0 a1_0 a1_1 rec) N
noncomputable def m (N : Nat) (a0 : List pairOf) (a1_0 : Branch) (a1_1 : Int) : Option R :=
  lp2 N a0 a1_0 a1_1 ((a0.length : Int), (0:Int))
@[reducible] noncomputable def sp (N : Nat) : Spec E := { ps := [.val (.slice 58 (.st 58)), .clo 100 [.rb (.st 25), .rb (.int .i64)]], rs := [(.int .i64)], own := true, dp := false, R := R, fn := fun x => m N x.1 x.2.1.1 x.2.1.2.1, res := fun r => (r, ()), out := fun r => ((), (), ()), shut := fun a b => a.1, res_shut := fun _ _ => rfl, out_shut := fun _ _ => rfl }
end slices_IndexFunc_impl_pairOf_impl_pairOf__impl_Branch_pairs_1
/-! ### slices_ContainsFunc_impl_pairOf_impl_pairOf__impl_Branch_pairs_1: slices.ContainsFunc[[]loop.example/g00220/impl.pairOf,loop.example/g00220/impl.pairOf] -/
namespace slices_ContainsFunc_impl_pairOf_impl_pairOf__impl_Branch_pairs_1
abbrev R := Bool
noncomputable def m (N : Nat) (a0 : List pairOf) (a1_0 : Branch) (a1_1 : Int) : Option R :=
  ob (slices_IndexFunc_impl_pairOf_impl_pairOf__impl_Branch_pairs_1.m N a0 (Branch.mk a1_0.Key a1_0.Value a1_0.At a1_0.Kids) a1_1) fun y1 =>
  some (decide (y1 ≥ (0:Int)))
@[reducible] noncomputable def sp (N : Nat) : Spec E := { ps := [.val (.slice 58 (.st 58)), .clo 100 [.rb (.st 25), .rb (.int .i64)]], rs := [.bool], own := true, dp := false, R := R, fn := fun x => m N x.1 x.2.1.1 x.2.1.2.1, res := fun r => (r, ()), out := fun r => ((), (), ()), shut := fun a b => a.1, res_shut := fun _ _ => rfl, out_shut := fun _ _ => rfl }
end slices_ContainsFunc_impl_pairOf_impl_pairOf__impl_Branch_pairs_1
/-! ### impl_sameAhead: loop.example/g00220/impl.sameAhead -/
namespace impl_sameAhead
abbrev R := Bool
noncomputable def step2 (N : Nat) (a0 : ByteArray) (a1 : ByteArray) (a2 : Int) (rec : Int → Option R) : Int → Option R
  | v3 =>
    bif (decide (v3 < a2)) then
      ob (impl_bit.m N a0 v3) fun y1 =>
      ob (impl_bit.m N a1 v3) fun y2 =>
      bif (y1 != y2) then
        some false
      else
      rec (w64 (v3 + (1:Int)))
    else
    some true
noncomputable def lp2 (N : Nat) (a0 : ByteArray) (a1 : ByteArray) (a2 : Int) : Int → Option R :=
  miter (fun rec => step2 N a0 a1 a2 rec) N
noncomputable def m (N : Nat) (a0 : ByteArray) (a1 : ByteArray) (a2 : Int) : Option R :=
  lp2 N a0 a1 a2 (0:Int)
@[reducible] noncomputable def sp (N : Nat) : Spec E := { ps := [.val .str, .val .str, .val (.int .i64)], rs := [.bool], own := true, dp := false, R := R, fn := fun x => m N x.1 x.2.1 x.2.2.1, res := fun r => (r, ()), out := fun r => ((), (), (), ()), shut := fun a b => a.1, res_shut := fun _ _ => rfl, out_shut := fun _ _ => rfl }
end impl_sameAhead
/-! ### impl_Branch_pairs_2: (loop.example/g00220/impl.Branch).pairs$2 -/
namespace impl_Branch_pairs_2
abbrev R := Bool
noncomputable def m (N : Nat) (a0 : pairOf) (a1 : List pairOf) (a2 : Branch) : Option R :=
  bif (decide (0 ≤ (0:Int))) then
  bif (decide ((0:Int) < (a1.length : Int))) then
  ob (impl_sameAhead.m N a0.hash ((a1.getD 0 pairOf.dz).hash) a2.At) fun y1 =>
  some (!y1)
  else none
  else none
@[reducible] noncomputable def sp (N : Nat) : Spec E := { ps := [.val (.st 58), .cap (.rb (.slice 58 (.st 58))), .cap (.rb (.st 25))], rs := [.bool], own := true, dp := false, R := R, fn := fun x => m N x.1 x.2.1 x.2.2.1, res := fun r => (r, ()), out := fun r => ((), (), (), ()), shut := fun a b => a.1, res_shut := fun _ _ => rfl, out_shut := fun _ _ => rfl }
end impl_Branch_pairs_2
/-! ### slices_IndexFunc_impl_pairOf_impl_pairOf__impl_Branch_pairs_2: slices.IndexFunc[[]loop.example/g00220/impl.pairOf,loop.example/g00220/impl.pairOf] -/
namespace slices_IndexFunc_impl_pairOf_impl_pairOf__impl_Branch_pairs_2
abbrev R := Int
noncomputable def step2 (N : Nat) (a0 : List pairOf) (a1_0 : List pairOf) (a1_1 : Branch) (rec : (Int × Int) → Option R) : (Int × Int) → Option R
  | (v1, v2) =>
    bif (decide (v2 < v1)) then
      bif (decide (0 ≤ v2)) then
      bif (decide (v2 < (a0.length : Int))) then
      ob (impl_Branch_pairs_2.m N (a0.getD (Int.toNat v2) pairOf.dz) a1_0 (Branch.mk a1_1.Key a1_1.Value a1_1.At a1_1.Kids)) fun y1 =>
      bif y1 then
        some v2
      else
      rec (v1, (w64 (v2 + (1:Int))))
      else none
      else none
    else
    some (-1:Int)
noncomputable def lp2 (N : Nat) (a0 : List pairOf) (a1_0 : List pairOf) (a1_1 : Branch) : (Int × Int) → Option R :=
  miter (fun rec => step2 N a0 a1_0 a1_1 rec) N
noncomputable def m (N : Nat) (a0 : List pairOf) (a1_0 : List pairOf) (a1_1 : Branch) : Option R :=
  lp2 N a0 a1_0 a1_1 ((a0.length : Int), (0:Int))
@[reducible] noncomputable def sp (N : Nat) : Spec E := { ps := [.val (.slice 58 (.st 58)), .clo 101 [.rb (.slice 58 (.st 58)), .rb (.st 25)]], rs := [(.int .i64)], own := true, dp := false, R := R, fn := fun x => m N x.1 x.2.1.1 x.2.1.2.1, res := fun r => (r, ()), out := fun r => ((), (), ()), shut := fun a b => a.1, res_shut := fun _ _ => rfl, out_shut := fun _ _ => rfl }
end slices_IndexFunc_impl_pairOf_impl_pairOf__impl_Branch_pairs_2
/-! ### slices_ContainsFunc_impl_pairOf_impl_pairOf__impl_Branch_pairs_2: slices.ContainsFunc[[]loop.example/g00220/impl.pairOf,loop.example/g00220/impl.pairOf] -/
namespace slices_ContainsFunc_impl_pairOf_impl_pairOf__impl_Branch_pairs_2
abbrev R := Bool
noncomputable def m (N : Nat) (a0 : List pairOf) (a1_0 : List pairOf) (a1_1 : Branch) : Option R :=
  ob (slices_IndexFunc_impl_pairOf_impl_pairOf__impl_Branch_pairs_2.m N a0 a1_0 (Branch.mk a1_1.Key a1_1.Value a1_1.At a1_1.Kids)) fun y1 =>
  some (decide (y1 ≥ (0:Int)))
@[reducible] noncomputable def sp (N : Nat) : Spec E := { ps := [.val (.slice 58 (.st 58)), .clo 101 [.rb (.slice 58 (.st 58)), .rb (.st 25)]], rs := [.bool], own := true, dp := false, R := R, fn := fun x => m N x.1 x.2.1.1 x.2.1.2.1, res := fun r => (r, ()), out := fun r => ((), (), ()), shut := fun a b => a.1, res_shut := fun _ _ => rfl, out_shut := fun _ _ => rfl }
end slices_ContainsFunc_impl_pairOf_impl_pairOf__impl_Branch_pairs_2
/-! ### impl_Branch_pairs: (loop.example/g00220/impl.Branch).pairs -/
namespace impl_Branch_pairs
abbrev R := (List pairOf) × Bool × Int
@[reducible] noncomputable def spf (f : Branch → Int → Int → Option R) : Spec E := { ps := [.val (.st 25), .val (.int .i64), .box false 3 3], rs := [(.slice 58 (.st 58)), .bool], own := true, dp := false, R := R, fn := fun x => f x.1 x.2.1 x.2.2.1, res := fun r => (r.1, r.2.1, ()), out := fun r => ((), (), r.2.2, ()), shut := fun a b => (a.1, a.2.1, b.2.2.1), res_shut := fun _ _ => rfl, out_shut := fun _ _ => rfl }
end impl_Branch_pairs
namespace impl_Branch_pairs
noncomputable def step8 (N : Nat) (slf : Branch → Int → Int → Option R) (a0 : Branch) (a1 : Int) (a2 : Int) (rec : (Int × Int × Int × (List pairOf)) → Option R) : (Int × Int × Int × (List pairOf)) → Option R
  | (v1, v2, v3, v8) =>
    bif (decide (v2 < v1)) then
      bif (decide (0 ≤ v2)) then
      bif (decide (v2 < (a0.Kids.length : Int))) then
      ob (slf (Branch.mk ((a0.Kids.getD (Int.toNat v2) Branch.dz).Key) ((a0.Kids.getD (Int.toNat v2) Branch.dz).Value) ((a0.Kids.getD (Int.toNat v2) Branch.dz).At) ((a0.Kids.getD (Int.toNat v2) Branch.dz).Kids)) a0.At v3) fun y4 =>
      bif (!y4.2.1) then
        some (([] : List pairOf), false, y4.2.2)
      else
      ob (slices_ContainsFunc_impl_pairOf_impl_pairOf__impl_Branch_pairs_1.m N y4.1 (Branch.mk a0.Key a0.Value a0.At a0.Kids) v2) fun y5 =>
      bif (bif false then true else y5) then
        some (([] : List pairOf), false, y4.2.2)
      else
      bif (room (v8.length + y4.1.length) 48) then
      rec (v1, (w64 (v2 + (1:Int))), y4.2.2, (v8 ++ y4.1))
      else none
      else none
      else none
    else
    ob (slices_ContainsFunc_impl_pairOf_impl_pairOf__impl_Branch_pairs_2.m N v8 v8 (Branch.mk a0.Key a0.Value a0.At a0.Kids)) fun y6 =>
    some (v8, (!y6), v3)
noncomputable def lp8 (N : Nat) (slf : Branch → Int → Int → Option R) (a0 : Branch) (a1 : Int) (a2 : Int) : (Int × Int × Int × (List pairOf)) → Option R :=
  miter (fun rec => step8 N slf a0 a1 a2 rec) N
noncomputable def mb (N : Nat) (slf : Branch → Int → Int → Option R) (a0 : Branch) (a1 : Int) (a2 : Int) : Option R :=
  ob (impl_Branch_isLeaf.m N (Branch.mk a0.Key a0.Value a0.At a0.Kids)) fun y1 =>
  bif y1 then
    ob (impl_hash.m N a0.Key) fun y2 =>
    some ([(pairOf.mk a0.Key a0.Value y2)], (decide ((w64 (a2 - (1:Int))) ≥ (0:Int))), (w64 (a2 - (1:Int))))
  else
  ob (impl_Branch_isFork.m N (Branch.mk a0.Key a0.Value a0.At a0.Kids)) fun y3 =>
  bif (!y3) then
    some (([] : List pairOf), false, a2)
  else
  bif (bif false then true else (decide (a0.At ≤ a1))) then
    some (([] : List pairOf), false, a2)
  else
  lp8 N slf a0 a1 a2 ((a0.Kids.length : Int), (0:Int), a2, ([] : List pairOf))
noncomputable def mF (N : Nat) : Nat → Branch → Int → Int → Option R
  | 0 => fun _ _ _ => none
  | n + 1 => fun a0 a1 a2 => mb N (mF N n) a0 a1 a2
noncomputable def m (N : Nat) : Branch → Int → Int → Option R := mF N N
@[reducible] noncomputable def sp (N : Nat) : Spec E := spf (m N)
end impl_Branch_pairs
/-! ### impl_mapPairs: loop.example/g00220/impl.mapPairs -/
namespace impl_mapPairs
abbrev R := (List pairOf) × Bool
noncomputable def m (N : Nat) (a0 : Branch) : Option R :=
  ob (impl_Branch_isEmpty.m N (Branch.mk a0.Key a0.Value a0.At a0.Kids)) fun y1 =>
  bif y1 then
    some (([] : List pairOf), true)
  else
  ob (impl_Branch_pairs.m N (Branch.mk a0.Key a0.Value a0.At a0.Kids) (-1:Int) (40:Int)) fun y2 =>
  some (y2.1, y2.2.1)
@[reducible] noncomputable def sp (N : Nat) : Spec E := { ps := [.val (.st 25)], rs := [(.slice 58 (.st 58)), .bool], own := true, dp := false, R := R, fn := fun x => m N x.1, res := fun r => (r.1, r.2, ()), out := fun r => ((), ()), shut := fun a b => (a.1, a.2.1), res_shut := fun _ _ => rfl, out_shut := fun _ _ => rfl }
end impl_mapPairs
/-! ### impl_MapOK: loop.example/g00220/impl.MapOK -/
namespace impl_MapOK
abbrev R := Bool
noncomputable def m (N : Nat) (a0 : Branch) : Option R :=
  ob (impl_mapPairs.m N (Branch.mk a0.Key a0.Value a0.At a0.Kids)) fun y1 =>
  some y1.2
@[reducible] noncomputable def sp (N : Nat) : Spec E := { ps := [.val (.st 25)], rs := [.bool], own := true, dp := false, R := R, fn := fun x => m N x.1, res := fun r => (r, ()), out := fun r => ((), ()), shut := fun a b => a.1, res_shut := fun _ _ => rfl, out_shut := fun _ _ => rfl }
end impl_MapOK
/-! ### impl_counted: loop.example/g00220/impl.counted -/
namespace impl_counted
abbrev R := ByteArray
noncomputable def m (N : Nat) (a0 : ByteArray) : Option R :=
  ob (impl_number.m N (a0.size : Int) (1:Int)) fun y1 =>
  bif (decide (y1.size + a0.size ≤ 9223372036854775807)) then
  some (y1 ++ a0)
  else none
@[reducible] noncomputable def sp (N : Nat) : Spec E := { ps := [.val .str], rs := [.str], own := true, dp := false, R := R, fn := fun x => m N x.1, res := fun r => (r, ()), out := fun r => ((), ()), shut := fun a b => a.1, res_shut := fun _ _ => rfl, out_shut := fun _ _ => rfl }
end impl_counted
/-! ### impl_leafRoot: loop.example/g00220/impl.leafRoot -/
namespace impl_leafRoot
abbrev R := ByteArray
noncomputable def m (N : Nat) (a0 : ByteArray) (a1 : ByteArray) : Option R :=
  ob (impl_counted.m N a0) fun y1 =>
  bif (decide ((⟨#[0]⟩ : ByteArray).size + y1.size ≤ 9223372036854775807)) then
  bif (decide (((⟨#[0]⟩ : ByteArray) ++ y1).size + a1.size ≤ 9223372036854775807)) then
  ob (impl_hash.m N (((⟨#[0]⟩ : ByteArray) ++ y1) ++ a1)) fun y2 =>
  some y2
  else none
  else none
@[reducible] noncomputable def sp (N : Nat) : Spec E := { ps := [.val .str, .val .str], rs := [.str], own := true, dp := false, R := R, fn := fun x => m N x.1 x.2.1, res := fun r => (r, ()), out := fun r => ((), (), ()), shut := fun a b => a.1, res_shut := fun _ _ => rfl, out_shut := fun _ _ => rfl }
end impl_leafRoot
/-! ### impl_forkRoot: loop.example/g00220/impl.forkRoot -/
namespace impl_forkRoot
abbrev R := ByteArray
noncomputable def m (N : Nat) (a0 : Int) (a1 : ByteArray) (a2 : ByteArray) : Option R :=
  ob (impl_number.m N a0 (1:Int)) fun y1 =>
  bif (decide ((⟨#[1]⟩ : ByteArray).size + y1.size ≤ 9223372036854775807)) then
  bif (decide (((⟨#[1]⟩ : ByteArray) ++ y1).size + a1.size ≤ 9223372036854775807)) then
  bif (decide ((((⟨#[1]⟩ : ByteArray) ++ y1) ++ a1).size + a2.size ≤ 9223372036854775807)) then
  ob (impl_hash.m N ((((⟨#[1]⟩ : ByteArray) ++ y1) ++ a1) ++ a2)) fun y2 =>
  some y2
  else none
  else none
  else none
@[reducible] noncomputable def sp (N : Nat) : Spec E := { ps := [.val (.int .i64), .val .str, .val .str], rs := [.str], own := true, dp := false, R := R, fn := fun x => m N x.1 x.2.1 x.2.2.1, res := fun r => (r, ()), out := fun r => ((), (), (), ()), shut := fun a b => a.1, res_shut := fun _ _ => rfl, out_shut := fun _ _ => rfl }
end impl_forkRoot
/-! ### impl_mapRoot: loop.example/g00220/impl.mapRoot -/
namespace impl_mapRoot
abbrev R := ByteArray
@[reducible] noncomputable def spf (f : Branch → Option R) : Spec E := { ps := [.val (.st 25)], rs := [.str], own := true, dp := false, R := R, fn := fun x => f x.1, res := fun r => (r, ()), out := fun r => ((), ()), shut := fun a b => a.1, res_shut := fun _ _ => rfl, out_shut := fun _ _ => rfl }
end impl_mapRoot
namespace impl_mapRoot
noncomputable def mb (N : Nat) (slf : Branch → Option R) (a0 : Branch) : Option R :=
  ob (impl_Branch_isEmpty.m N (Branch.mk a0.Key a0.Value a0.At a0.Kids)) fun y1 =>
  bif y1 then
    ob (impl_hash.m N (⟨#[2]⟩ : ByteArray)) fun y2 =>
    some y2
  else
  bif (a0.At == (256:Int)) then
    ob (impl_leafRoot.m N a0.Key a0.Value) fun y3 =>
    some y3
  else
  bif (decide (0 ≤ (0:Int))) then
  bif (decide ((0:Int) < (a0.Kids.length : Int))) then
  ob (slf (Branch.mk ((a0.Kids.getD 0 Branch.dz).Key) ((a0.Kids.getD 0 Branch.dz).Value) ((a0.Kids.getD 0 Branch.dz).At) ((a0.Kids.getD 0 Branch.dz).Kids))) fun y4 =>
  bif (decide (0 ≤ (1:Int))) then
  bif (decide ((1:Int) < (a0.Kids.length : Int))) then
  ob (slf (Branch.mk ((a0.Kids.getD 1 Branch.dz).Key) ((a0.Kids.getD 1 Branch.dz).Value) ((a0.Kids.getD 1 Branch.dz).At) ((a0.Kids.getD 1 Branch.dz).Kids))) fun y5 =>
  ob (impl_forkRoot.m N a0.At y4 y5) fun y6 =>
  some y6
  else none
  else none
  else none
  else none
noncomputable def mF (N : Nat) : Nat → Branch → Option R
  | 0 => fun _ => none
  | n + 1 => fun a0 => mb N (mF N n) a0
noncomputable def m (N : Nat) : Branch → Option R := mF N N
@[reducible] noncomputable def sp (N : Nat) : Spec E := spf (m N)
end impl_mapRoot
/-! ### impl_MapRoot: loop.example/g00220/impl.MapRoot -/
namespace impl_MapRoot
abbrev R := ByteArray × Int
noncomputable def m (N : Nat) (a0 : Branch) : Option R :=
  ob (impl_MapOK.m N (Branch.mk a0.Key a0.Value a0.At a0.Kids)) fun y1 =>
  bif (!y1) then
    some (ByteArray.empty, (1:Int))
  else
  ob (impl_mapRoot.m N (Branch.mk a0.Key a0.Value a0.At a0.Kids)) fun y2 =>
  some (y2, (0:Int))
@[reducible] noncomputable def sp (N : Nat) : Spec E := { ps := [.val (.st 25)], rs := [.str, (.int .i64)], own := true, dp := false, R := R, fn := fun x => m N x.1, res := fun r => (r.1, r.2, ()), out := fun r => ((), ()), shut := fun a b => (a.1, a.2.1), res_shut := fun _ _ => rfl, out_shut := fun _ _ => rfl }
end impl_MapRoot
/-! ### impl_isText_1: loop.example/g00220/impl.isText$1 -/
namespace impl_isText_1
abbrev R := Bool
noncomputable def m (N : Nat) (a0 : ByteArray) : Option R :=
  some (decide ((a0.size : Int) > (65536:Int)))
@[reducible] noncomputable def sp (N : Nat) : Spec E := { ps := [.val .str], rs := [.bool], own := true, dp := false, R := R, fn := fun x => m N x.1, res := fun r => (r, ()), out := fun r => ((), ()), shut := fun a b => a.1, res_shut := fun _ _ => rfl, out_shut := fun _ _ => rfl }
end impl_isText_1
/-! ### slices_IndexFunc_string_string__impl_isText_1: slices.IndexFunc[[]string,string] -/
namespace slices_IndexFunc_string_string__impl_isText_1
abbrev R := Int
noncomputable def step2 (N : Nat) (a0 : List ByteArray) (rec : (Int × Int) → Option R) : (Int × Int) → Option R
  | (v1, v2) =>
    bif (decide (v2 < v1)) then
      bif (decide (0 ≤ v2)) then
      bif (decide (v2 < (a0.length : Int))) then
      ob (impl_isText_1.m N (a0.getD (Int.toNat v2) ByteArray.empty)) fun y1 =>
      bif y1 then
        some v2
      else
      rec (v1, (w64 (v2 + (1:Int))))
      else none
      else none
    else
    some (-1:Int)
noncomputable def lp2 (N : Nat) (a0 : List ByteArray) : (Int × Int) → Option R :=
  miter (fun rec => step2 N a0 rec) N
noncomputable def m (N : Nat) (a0 : List ByteArray) : Option R :=
  lp2 N a0 ((a0.length : Int), (0:Int))
@[reducible] noncomputable def sp (N : Nat) : Spec E := { ps := [.val (.slice 9 .str), .clo 65 []], rs := [(.int .i64)], own := true, dp := false, R := R, fn := fun x => m N x.1, res := fun r => (r, ()), out := fun r => ((), (), ()), shut := fun a b => a.1, res_shut := fun _ _ => rfl, out_shut := fun _ _ => rfl }
end slices_IndexFunc_string_string__impl_isText_1
/-! ### slices_ContainsFunc_string_string__impl_isText_1: slices.ContainsFunc[[]string,string] -/
namespace slices_ContainsFunc_string_string__impl_isText_1
abbrev R := Bool
noncomputable def m (N : Nat) (a0 : List ByteArray) : Option R :=
  ob (slices_IndexFunc_string_string__impl_isText_1.m N a0) fun y1 =>
  some (decide (y1 ≥ (0:Int)))
@[reducible] noncomputable def sp (N : Nat) : Spec E := { ps := [.val (.slice 9 .str), .clo 65 []], rs := [.bool], own := true, dp := false, R := R, fn := fun x => m N x.1, res := fun r => (r, ()), out := fun r => ((), (), ()), shut := fun a b => a.1, res_shut := fun _ _ => rfl, out_shut := fun _ _ => rfl }
end slices_ContainsFunc_string_string__impl_isText_1
/-! ### impl_isText: loop.example/g00220/impl.isText -/
namespace impl_isText
abbrev R := Bool
noncomputable def m (N : Nat) (a0 : List ByteArray) : Option R :=
  ob (slices_ContainsFunc_string_string__impl_isText_1.m N a0) fun y1 =>
  some (!y1)
@[reducible] noncomputable def sp (N : Nat) : Spec E := { ps := [.val (.slice 9 .str)], rs := [.bool], own := true, dp := false, R := R, fn := fun x => m N x.1, res := fun r => (r, ()), out := fun r => ((), ()), shut := fun a b => a.1, res_shut := fun _ _ => rfl, out_shut := fun _ _ => rfl }
end impl_isText
/-! ### impl_mapCode: loop.example/g00220/impl.mapCode -/
namespace impl_mapCode
abbrev R := (List pairOf) × Int
noncomputable def m (N : Nat) (a0 : Branch) (a1 : ByteArray) : Option R :=
  ob (impl_isText.m N ([a1])) fun y1 =>
  bif (!y1) then
    some (([] : List pairOf), (2:Int))
  else
  ob (impl_mapPairs.m N (Branch.mk a0.Key a0.Value a0.At a0.Kids)) fun y2 =>
  bif (!y2.2) then
    some (([] : List pairOf), (1:Int))
  else
  ob (impl_isKey.m N a1) fun y3 =>
  bif (bif false then true else (!y3)) then
    some (([] : List pairOf), (1:Int))
  else
  some (y2.1, (0:Int))
@[reducible] noncomputable def sp (N : Nat) : Spec E := { ps := [.val (.st 25), .val .str], rs := [(.slice 58 (.st 58)), (.int .i64)], own := true, dp := false, R := R, fn := fun x => m N x.1 x.2.1, res := fun r => (r.1, r.2, ()), out := fun r => ((), (), ()), shut := fun a b => (a.1, a.2.1), res_shut := fun _ _ => rfl, out_shut := fun _ _ => rfl }
end impl_mapCode
/-! ### impl_ProveKey: loop.example/g00220/impl.ProveKey -/
namespace impl_ProveKey
abbrev R := MapProof × Int
inductive A7 where
  | s0 (v1 : ByteArray) (v6 : ByteArray) (v7 : ByteArray) (v8 : ByteArray) (v9 : ByteArray)
  | s1 (v1 : ByteArray) (v2 : ByteArray) (v3 : ByteArray) (v4 : Int) (v5 : List Branch) (v6 : ByteArray) (v7 : ByteArray) (v8 : ByteArray) (v9 : ByteArray) (v10 : List MapStep)
noncomputable def step7 (N : Nat) (a0 : Branch) (a1 : ByteArray) (rec : A7 → Option R) : A7 → Option R
  | .s0 v1 v6 v7 v8 v9 =>
    bif (a0.At != (256:Int)) then
      ob (impl_bit.m N v1 a0.At) fun y4 =>
      bif (decide (0 ≤ (w64 ((1:Int) - y4)))) then
      bif (decide ((w64 ((1:Int) - y4)) < (a0.Kids.length : Int))) then
      ob (impl_mapRoot.m N (Branch.mk ((a0.Kids.getD (Int.toNat (w64 ((1:Int) - y4))) Branch.dz).Key) ((a0.Kids.getD (Int.toNat (w64 ((1:Int) - y4))) Branch.dz).Value) ((a0.Kids.getD (Int.toNat (w64 ((1:Int) - y4))) Branch.dz).At) ((a0.Kids.getD (Int.toNat (w64 ((1:Int) - y4))) Branch.dz).Kids))) fun y5 =>
      bif (room ([(MapStep.mk a0.At y5)]).length 24) then
      bif (decide (0 ≤ y4)) then
      bif (decide (y4 < (a0.Kids.length : Int))) then
      rec (.s1 v1 ((a0.Kids.getD (Int.toNat y4) Branch.dz).Key) ((a0.Kids.getD (Int.toNat y4) Branch.dz).Value) ((a0.Kids.getD (Int.toNat y4) Branch.dz).At) ((a0.Kids.getD (Int.toNat y4) Branch.dz).Kids) v6 v7 v8 v9 ([(MapStep.mk a0.At y5)]))
      else none
      else none
      else none
      else none
      else none
    else
    some ((MapProof.mk (seq a0.Key a1) a0.Key a0.Value ([] : List MapStep)), (0:Int))
  | .s1 v1 v2 v3 v4 v5 v6 v7 v8 v9 v10 =>
    bif (v4 != (256:Int)) then
      ob (impl_bit.m N v1 v4) fun y6 =>
      bif (decide (0 ≤ (w64 ((1:Int) - y6)))) then
      bif (decide ((w64 ((1:Int) - y6)) < (v5.length : Int))) then
      ob (impl_mapRoot.m N (Branch.mk ((v5.getD (Int.toNat (w64 ((1:Int) - y6))) Branch.dz).Key) ((v5.getD (Int.toNat (w64 ((1:Int) - y6))) Branch.dz).Value) ((v5.getD (Int.toNat (w64 ((1:Int) - y6))) Branch.dz).At) ((v5.getD (Int.toNat (w64 ((1:Int) - y6))) Branch.dz).Kids))) fun y7 =>
      bif (room (v10.length + ([(MapStep.mk v4 y7)]).length) 24) then
      bif (decide (0 ≤ y6)) then
      bif (decide (y6 < (v5.length : Int))) then
      rec (.s1 v1 ((v5.getD (Int.toNat y6) Branch.dz).Key) ((v5.getD (Int.toNat y6) Branch.dz).Value) ((v5.getD (Int.toNat y6) Branch.dz).At) ((v5.getD (Int.toNat y6) Branch.dz).Kids) v6 v7 v8 v9 (v10 ++ [(MapStep.mk v4 y7)]))
      else none
      else none
      else none
      else none
      else none
    else
    some ((MapProof.mk (seq v2 a1) v2 v3 v10), (0:Int))
noncomputable def lp7 (N : Nat) (a0 : Branch) (a1 : ByteArray) : A7 → Option R :=
  miter (fun rec => step7 N a0 a1 rec) N
noncomputable def m (N : Nat) (a0 : Branch) (a1 : ByteArray) : Option R :=
  ob (impl_mapCode.m N (Branch.mk a0.Key a0.Value a0.At a0.Kids) a1) fun y1 =>
  bif (y1.2 != (0:Int)) then
    some ((MapProof.mk false ByteArray.empty ByteArray.empty ([] : List MapStep)), y1.2)
  else
  ob (impl_hash.m N a1) fun y2 =>
  ob (impl_Branch_isEmpty.m N (Branch.mk a0.Key a0.Value a0.At a0.Kids)) fun y3 =>
  bif y3 then
    some ((MapProof.mk false ByteArray.empty ByteArray.empty ([] : List MapStep)), (0:Int))
  else
  lp7 N a0 a1 (.s0 y2 ByteArray.empty ByteArray.empty ByteArray.empty ByteArray.empty)
@[reducible] noncomputable def sp (N : Nat) : Spec E := { ps := [.val (.st 25), .val .str], rs := [(.st 32), (.int .i64)], own := true, dp := false, R := R, fn := fun x => m N x.1 x.2.1, res := fun r => (r.1, r.2, ()), out := fun r => ((), (), ()), shut := fun a b => (a.1, a.2.1), res_shut := fun _ _ => rfl, out_shut := fun _ _ => rfl }
end impl_ProveKey
/-! ### spec_l02Key: loop.example/g00220/spec.l02Key -/
namespace spec_l02Key
abbrev R := Bool
noncomputable def m (N : Nat) (a0 : ByteArray) : Option R :=
  bif (decide ((a0.size : Int) ≥ (1:Int))) then
    some (bif true then (decide ((a0.size : Int) ≤ (24:Int))) else false)
  else
  some false
@[reducible] noncomputable def sp (N : Nat) : Spec E := { ps := [.val .str], rs := [.bool], own := true, dp := false, R := R, fn := fun x => m N x.1, res := fun r => (r, ()), out := fun r => ((), ()), shut := fun a b => a.1, res_shut := fun _ _ => rfl, out_shut := fun _ _ => rfl }
end spec_l02Key
/-! ### spec_l01Bits: loop.example/g00220/spec.l01Bits -/
namespace spec_l01Bits
abbrev R := ByteArray
noncomputable def step3 (N : Nat) (a0 : ByteArray) (lp6 : Int × Int × (List Int) → Option R) (rec : (Int × (List Int)) → Option R) : (Int × (List Int)) → Option R
  | (v1, v2) =>
    bif (decide (v1 < (a0.size : Int))) then
      lp6 (v1, (7:Int), v2)
    else
    some (strOf v2)
noncomputable def step6 (N : Nat) (a0 : ByteArray) (lp3 : Int × (List Int) → Option R) (rec : (Int × Int × (List Int)) → Option R) : (Int × Int × (List Int)) → Option R
  | (v1, v2, v3) =>
    bif (decide (v2 ≥ (0:Int))) then
      bif (decide (0 ≤ v1)) then
      bif (decide (v1 < (a0.size : Int))) then
      bif (!decide ((wu64 v2) < 0)) then
      bif (room (v3.length + ([(wu8 ((48:Int) + (ibit .and .u8 (Int.fdiv (sb a0 v1) (2 ^ (min (Int.toNat (wu64 v2)) 8))) (1:Int))))]).length) 1) then
      rec (v1, (w64 (v2 - (1:Int))), (v3 ++ [(wu8 ((48:Int) + (ibit .and .u8 (Int.fdiv (sb a0 v1) (2 ^ (min (Int.toNat (wu64 v2)) 8))) (1:Int))))]))
      else none
      else none
      else none
      else none
    else
    lp3 ((w64 (v1 + (1:Int))), v3)
noncomputable def lp6 (N : Nat) (a0 : ByteArray) (r3 : Int × (List Int) → Option R) : (Int × Int × (List Int)) → Option R :=
  miter (fun rec => step6 N a0 r3 rec) N
noncomputable def lp3 (N : Nat) (a0 : ByteArray) : (Int × (List Int)) → Option R :=
  miter (fun rec => step3 N a0 (lp6 N a0 rec) rec) N
noncomputable def m (N : Nat) (a0 : ByteArray) : Option R :=
  lp3 N a0 ((0:Int), ([] : List Int))
@[reducible] noncomputable def sp (N : Nat) : Spec E := { ps := [.val .str], rs := [.str], own := true, dp := false, R := R, fn := fun x => m N x.1, res := fun r => (r, ()), out := fun r => ((), ()), shut := fun a b => a.1, res_shut := fun _ _ => rfl, out_shut := fun _ _ => rfl }
end spec_l01Bits
/-! ### spec_l01In: loop.example/g00220/spec.l01In -/
namespace spec_l01In
abbrev R := Bool
noncomputable def m (N : Nat) (a0 : Int) (a1 : Int) (a2 : Int) : Option R :=
  bif (decide (a0 ≥ a1)) then
    some (bif true then (decide (a0 ≤ a2)) else false)
  else
  some false
@[reducible] noncomputable def sp (N : Nat) : Spec E := { ps := [.val (.int .i64), .val (.int .i64), .val (.int .i64)], rs := [.bool], own := true, dp := false, R := R, fn := fun x => m N x.1 x.2.1 x.2.2.1, res := fun r => (r, ()), out := fun r => ((), (), (), ()), shut := fun a b => a.1, res_shut := fun _ _ => rfl, out_shut := fun _ _ => rfl }
end spec_l01In
/-! ### spec_l07Count: loop.example/g00220/spec.l07Count -/
namespace spec_l07Count
abbrev R := Int
@[reducible] noncomputable def spf (f : Branch → Int → ByteArray → Int → Option R) : Spec E := { ps := [.val (.st 25), .val (.int .i64), .val .str, .val (.int .i64)], rs := [(.int .i64)], own := true, dp := false, R := R, fn := fun x => f x.1 x.2.1 x.2.2.1 x.2.2.2.1, res := fun r => (r, ()), out := fun r => ((), (), (), (), ()), shut := fun a b => a.1, res_shut := fun _ _ => rfl, out_shut := fun _ _ => rfl }
end spec_l07Count
namespace spec_l07Count
noncomputable def step11 (N : Nat) (slf : Branch → Int → ByteArray → Int → Option R) (a0 : Branch) (a1 : Int) (a2 : ByteArray) (a3 : Int) (lp21 : ByteArray × Int × Int → Option R) (rec : (Int × ByteArray × ByteArray × Int × (List Branch)) → Option R) : (Int × ByteArray × ByteArray × Int × (List Branch)) → Option R
  | (v2, v7, v8, v9, v10) =>
    bif (decide (v2 < (256:Int))) then
      ob (spec_l07Leaf.m N (Branch.mk v7 v8 v9 v10)) fun y6 =>
      bif (bif true then (!y6) else false) then
        bif (decide (0 ≤ (0:Int))) then
        bif (decide ((0:Int) < (v10.length : Int))) then
        rec ((w64 (v2 + (1:Int))), (v10.getD 0 Branch.dz).Key, (v10.getD 0 Branch.dz).Value, (v10.getD 0 Branch.dz).At, (v10.getD 0 Branch.dz).Kids)
        else none
        else none
      else
      ob (spec_l07Leaf.m N (Branch.mk v7 v8 v9 v10)) fun y7 =>
      bif (!y7) then
        some (-1:Int)
      else
      ob (spec_l02Key.m N v7) fun y8 =>
      bif (bif false then true else (!y8)) then
        some (-1:Int)
      else
      ob (spec_l07Hash.m N v7) fun y9 =>
      ob (spec_l01Bits.m N y9) fun y10 =>
      bif (decide (0 ≤ a0.At)) then
      bif (decide (a0.At ≤ ((y10.size : Nat) : Int))) then
      bif (decide ((a2.size : Int) > ((y10.extract 0 (Int.toNat a0.At)).size : Int))) then
        some (-1:Int)
      else
      bif (decide (0 ≤ (a2.size : Int))) then
      bif (decide ((a2.size : Int) ≤ (((y10.extract 0 (Int.toNat a0.At)).size : Nat) : Int))) then
      bif (bif false then true else (!seq ((y10.extract 0 (Int.toNat a0.At)).extract 0 (Int.toNat (a2.size : Int))) a2)) then
        some (-1:Int)
      else
      lp21 ((y10.extract 0 (Int.toNat a0.At)), (0:Int), (0:Int))
      else none
      else none
      else none
      else none
    else
    ob (spec_l07Leaf.m N (Branch.mk v7 v8 v9 v10)) fun y11 =>
    bif (!y11) then
      some (-1:Int)
    else
    ob (spec_l02Key.m N v7) fun y12 =>
    bif (bif false then true else (!y12)) then
      some (-1:Int)
    else
    ob (spec_l07Hash.m N v7) fun y13 =>
    ob (spec_l01Bits.m N y13) fun y14 =>
    bif (decide (0 ≤ a0.At)) then
    bif (decide (a0.At ≤ ((y14.size : Nat) : Int))) then
    bif (decide ((a2.size : Int) > ((y14.extract 0 (Int.toNat a0.At)).size : Int))) then
      some (-1:Int)
    else
    bif (decide (0 ≤ (a2.size : Int))) then
    bif (decide ((a2.size : Int) ≤ (((y14.extract 0 (Int.toNat a0.At)).size : Nat) : Int))) then
    bif (bif false then true else (!seq ((y14.extract 0 (Int.toNat a0.At)).extract 0 (Int.toNat (a2.size : Int))) a2)) then
      some (-1:Int)
    else
    lp21 ((y14.extract 0 (Int.toNat a0.At)), (0:Int), (0:Int))
    else none
    else none
    else none
    else none
noncomputable def step21 (N : Nat) (slf : Branch → Int → ByteArray → Int → Option R) (a0 : Branch) (a1 : Int) (a2 : ByteArray) (a3 : Int) (rec : (ByteArray × Int × Int) → Option R) : (ByteArray × Int × Int) → Option R
  | (v1, v2, v3) =>
    bif (decide (v3 < (2:Int))) then
      bif (decide (0 ≤ v3)) then
      bif (decide (v3 < (a0.Kids.length : Int))) then
      bif (decide (v1.size + (strOf ([(wu8 ((48:Int) + (wu8 v3)))])).size ≤ 9223372036854775807)) then
      ob (slf (Branch.mk ((a0.Kids.getD (Int.toNat v3) Branch.dz).Key) ((a0.Kids.getD (Int.toNat v3) Branch.dz).Value) ((a0.Kids.getD (Int.toNat v3) Branch.dz).At) ((a0.Kids.getD (Int.toNat v3) Branch.dz).Kids)) (w64 (a0.At + (1:Int))) (v1 ++ (strOf ([(wu8 ((48:Int) + (wu8 v3)))]))) (w64 (a3 - v2))) fun y15 =>
      bif (decide (y15 < (0:Int))) then
        some (-1:Int)
      else
      rec (v1, (w64 (v2 + y15)), (w64 (v3 + (1:Int))))
      else none
      else none
      else none
    else
    some v2
noncomputable def lp21 (N : Nat) (slf : Branch → Int → ByteArray → Int → Option R) (a0 : Branch) (a1 : Int) (a2 : ByteArray) (a3 : Int) : (ByteArray × Int × Int) → Option R :=
  miter (fun rec => step21 N slf a0 a1 a2 a3 rec) N
noncomputable def lp11 (N : Nat) (slf : Branch → Int → ByteArray → Int → Option R) (a0 : Branch) (a1 : Int) (a2 : ByteArray) (a3 : Int) : (Int × ByteArray × ByteArray × Int × (List Branch)) → Option R :=
  miter (fun rec => step11 N slf a0 a1 a2 a3 (lp21 N slf a0 a1 a2 a3) rec) N
noncomputable def mb (N : Nat) (slf : Branch → Int → ByteArray → Int → Option R) (a0 : Branch) (a1 : Int) (a2 : ByteArray) (a3 : Int) : Option R :=
  bif (decide (a3 < (1:Int))) then
    some (-1:Int)
  else
  ob (spec_l07Leaf.m N (Branch.mk a0.Key a0.Value a0.At a0.Kids)) fun y1 =>
  bif y1 then
    ob (spec_l02Key.m N a0.Key) fun y2 =>
    bif (!y2) then
      some (-1:Int)
    else
    bif (bif false then true else (decide ((a0.Value.size : Int) > (60:Int)))) then
      some (-1:Int)
    else
    bif (bif false then true else (a0.At != (256:Int))) then
      some (-1:Int)
    else
    ob (spec_l07Hash.m N a0.Key) fun y3 =>
    ob (spec_l01Bits.m N y3) fun y4 =>
    bif (decide (0 ≤ (a2.size : Int))) then
    bif (decide ((a2.size : Int) ≤ ((y4.size : Nat) : Int))) then
    bif (bif false then true else (!seq (y4.extract 0 (Int.toNat (a2.size : Int))) a2)) then
      some (-1:Int)
    else
    some (1:Int)
    else none
    else none
  else
  bif ((a0.Kids.length : Int) != (2:Int)) then
    some (-1:Int)
  else
  bif (bif false then true else (!seq a0.Key ByteArray.empty)) then
    some (-1:Int)
  else
  bif (bif false then true else (!seq a0.Value ByteArray.empty)) then
    some (-1:Int)
  else
  ob (spec_l01In.m N a0.At a1 (255:Int)) fun y5 =>
  bif (bif false then true else (!y5)) then
    some (-1:Int)
  else
  bif (decide (0 ≤ (0:Int))) then
  bif (decide ((0:Int) < (a0.Kids.length : Int))) then
  lp11 N slf a0 a1 a2 a3 ((0:Int), (a0.Kids.getD 0 Branch.dz).Key, (a0.Kids.getD 0 Branch.dz).Value, (a0.Kids.getD 0 Branch.dz).At, (a0.Kids.getD 0 Branch.dz).Kids)
  else none
  else none
noncomputable def mF (N : Nat) : Nat → Branch → Int → ByteArray → Int → Option R
  | 0 => fun _ _ _ _ => none
  | n + 1 => fun a0 a1 a2 a3 => mb N (mF N n) a0 a1 a2 a3
noncomputable def m (N : Nat) : Branch → Int → ByteArray → Int → Option R := mF N N
@[reducible] noncomputable def sp (N : Nat) : Spec E := spf (m N)
end spec_l07Count
/-! ### spec_MapOK: loop.example/g00220/spec.MapOK -/
namespace spec_MapOK
abbrev R := Bool
noncomputable def m (N : Nat) (a0 : Branch) : Option R :=
  ob (spec_l07Empty.m N (Branch.mk a0.Key a0.Value a0.At a0.Kids)) fun y1 =>
  bif y1 then
    some true
  else
  ob (spec_l07Count.m N (Branch.mk a0.Key a0.Value a0.At a0.Kids) (0:Int) ByteArray.empty (40:Int)) fun y2 =>
  some (bif false then true else (decide (y2 > (0:Int))))
@[reducible] noncomputable def sp (N : Nat) : Spec E := { ps := [.val (.st 25)], rs := [.bool], own := true, dp := false, R := R, fn := fun x => m N x.1, res := fun r => (r, ()), out := fun r => ((), ()), shut := fun a b => a.1, res_shut := fun _ _ => rfl, out_shut := fun _ _ => rfl }
end spec_MapOK
/-! ### spec_l07LeafHash: loop.example/g00220/spec.l07LeafHash -/
namespace spec_l07LeafHash
abbrev R := ByteArray
noncomputable def m (N : Nat) (a0 : ByteArray) (a1 : ByteArray) : Option R :=
  bif (room (([(0:Int), (wu8 (a0.size : Int))]).length + (bytesOf a0).length) 1) then
  bif (room (([(0:Int), (wu8 (a0.size : Int))] ++ (bytesOf a0)).length + (bytesOf a1).length) 1) then
  ob (spec_l01Hash.m N (([(0:Int), (wu8 (a0.size : Int))] ++ (bytesOf a0)) ++ (bytesOf a1))) fun y1 =>
  some y1
  else none
  else none
@[reducible] noncomputable def sp (N : Nat) : Spec E := { ps := [.val .str, .val .str], rs := [.str], own := true, dp := false, R := R, fn := fun x => m N x.1 x.2.1, res := fun r => (r, ()), out := fun r => ((), (), ()), shut := fun a b => a.1, res_shut := fun _ _ => rfl, out_shut := fun _ _ => rfl }
end spec_l07LeafHash
/-! ### spec_l07ForkHash: loop.example/g00220/spec.l07ForkHash -/
namespace spec_l07ForkHash
abbrev R := ByteArray
noncomputable def m (N : Nat) (a0 : Int) (a1 : ByteArray) (a2 : ByteArray) : Option R :=
  bif (room (([(1:Int), (wu8 a0)]).length + (bytesOf a1).length) 1) then
  bif (room (([(1:Int), (wu8 a0)] ++ (bytesOf a1)).length + (bytesOf a2).length) 1) then
  ob (spec_l01Hash.m N (([(1:Int), (wu8 a0)] ++ (bytesOf a1)) ++ (bytesOf a2))) fun y1 =>
  some y1
  else none
  else none
@[reducible] noncomputable def sp (N : Nat) : Spec E := { ps := [.val (.int .i64), .val .str, .val .str], rs := [.str], own := true, dp := false, R := R, fn := fun x => m N x.1 x.2.1 x.2.2.1, res := fun r => (r, ()), out := fun r => ((), (), (), ()), shut := fun a b => a.1, res_shut := fun _ _ => rfl, out_shut := fun _ _ => rfl }
end spec_l07ForkHash
/-! ### spec_l07Root: loop.example/g00220/spec.l07Root -/
namespace spec_l07Root
abbrev R := ByteArray
@[reducible] noncomputable def spf (f : Branch → Option R) : Spec E := { ps := [.val (.st 25)], rs := [.str], own := true, dp := false, R := R, fn := fun x => f x.1, res := fun r => (r, ()), out := fun r => ((), ()), shut := fun a b => a.1, res_shut := fun _ _ => rfl, out_shut := fun _ _ => rfl }
end spec_l07Root
namespace spec_l07Root
noncomputable def mb (N : Nat) (slf : Branch → Option R) (a0 : Branch) : Option R :=
  ob (spec_l07Empty.m N (Branch.mk a0.Key a0.Value a0.At a0.Kids)) fun y1 =>
  bif y1 then
    ob (spec_l01Hash.m N ([(2:Int)])) fun y2 =>
    some y2
  else
  ob (spec_l07Leaf.m N (Branch.mk a0.Key a0.Value a0.At a0.Kids)) fun y3 =>
  bif y3 then
    ob (spec_l07LeafHash.m N a0.Key a0.Value) fun y4 =>
    some y4
  else
  bif (decide (0 ≤ (0:Int))) then
  bif (decide ((0:Int) < (a0.Kids.length : Int))) then
  ob (slf (Branch.mk ((a0.Kids.getD 0 Branch.dz).Key) ((a0.Kids.getD 0 Branch.dz).Value) ((a0.Kids.getD 0 Branch.dz).At) ((a0.Kids.getD 0 Branch.dz).Kids))) fun y5 =>
  bif (decide (0 ≤ (1:Int))) then
  bif (decide ((1:Int) < (a0.Kids.length : Int))) then
  ob (slf (Branch.mk ((a0.Kids.getD 1 Branch.dz).Key) ((a0.Kids.getD 1 Branch.dz).Value) ((a0.Kids.getD 1 Branch.dz).At) ((a0.Kids.getD 1 Branch.dz).Kids))) fun y6 =>
  ob (spec_l07ForkHash.m N a0.At y5 y6) fun y7 =>
  some y7
  else none
  else none
  else none
  else none
noncomputable def mF (N : Nat) : Nat → Branch → Option R
  | 0 => fun _ => none
  | n + 1 => fun a0 => mb N (mF N n) a0
noncomputable def m (N : Nat) : Branch → Option R := mF N N
@[reducible] noncomputable def sp (N : Nat) : Spec E := spf (m N)
end spec_l07Root
/-! ### spec_l07Prove: loop.example/g00220/spec.l07Prove -/
namespace spec_l07Prove
abbrev R := MapProof
noncomputable def step5 (N : Nat) (a0 : Branch) (a1 : ByteArray) (rec : (ByteArray × ByteArray × ByteArray × Int × (List Branch) × ByteArray × ByteArray × ByteArray × ByteArray × (List MapStep)) → Option R) : (ByteArray × ByteArray × ByteArray × Int × (List Branch) × ByteArray × ByteArray × ByteArray × ByteArray × (List MapStep)) → Option R
  | (v1, v2, v3, v4, v5, v6, v7, v8, v9, v10) =>
    ob (spec_l07Leaf.m N (Branch.mk v2 v3 v4 v5)) fun y3 =>
    bif (!y3) then
      ob (spec_l07Bit.m N v1 v4) fun y4 =>
      bif (decide (0 ≤ (w64 ((1:Int) - y4)))) then
      bif (decide ((w64 ((1:Int) - y4)) < (v5.length : Int))) then
      ob (spec_l07Root.m N (Branch.mk ((v5.getD (Int.toNat (w64 ((1:Int) - y4))) Branch.dz).Key) ((v5.getD (Int.toNat (w64 ((1:Int) - y4))) Branch.dz).Value) ((v5.getD (Int.toNat (w64 ((1:Int) - y4))) Branch.dz).At) ((v5.getD (Int.toNat (w64 ((1:Int) - y4))) Branch.dz).Kids))) fun y5 =>
      bif (room (v10.length + ([(MapStep.mk v4 y5)]).length) 24) then
      bif (decide (0 ≤ y4)) then
      bif (decide (y4 < (v5.length : Int))) then
      rec (v1, (v5.getD (Int.toNat y4) Branch.dz).Key, (v5.getD (Int.toNat y4) Branch.dz).Value, (v5.getD (Int.toNat y4) Branch.dz).At, (v5.getD (Int.toNat y4) Branch.dz).Kids, v6, v7, v8, v9, (v10 ++ [(MapStep.mk v4 y5)]))
      else none
      else none
      else none
      else none
      else none
    else
    some (MapProof.mk (seq v2 a1) v2 v3 v10)
noncomputable def lp5 (N : Nat) (a0 : Branch) (a1 : ByteArray) : (ByteArray × ByteArray × ByteArray × Int × (List Branch) × ByteArray × ByteArray × ByteArray × ByteArray × (List MapStep)) → Option R :=
  miter (fun rec => step5 N a0 a1 rec) N
noncomputable def m (N : Nat) (a0 : Branch) (a1 : ByteArray) : Option R :=
  ob (spec_l07Empty.m N (Branch.mk a0.Key a0.Value a0.At a0.Kids)) fun y1 =>
  bif y1 then
    some (MapProof.mk false ByteArray.empty ByteArray.empty ([] : List MapStep))
  else
  ob (spec_l07Hash.m N a1) fun y2 =>
  lp5 N a0 a1 (y2, a0.Key, a0.Value, a0.At, a0.Kids, ByteArray.empty, ByteArray.empty, ByteArray.empty, ByteArray.empty, ([] : List MapStep))
@[reducible] noncomputable def sp (N : Nat) : Spec E := { ps := [.val (.st 25), .val .str], rs := [(.st 32)], own := true, dp := false, R := R, fn := fun x => m N x.1 x.2.1, res := fun r => (r, ()), out := fun r => ((), (), ()), shut := fun a b => a.1, res_shut := fun _ _ => rfl, out_shut := fun _ _ => rfl }
end spec_l07Prove
/-! ### spec_ProveKey: loop.example/g00220/spec.ProveKey -/
namespace spec_ProveKey
abbrev R := MapProof × Int
noncomputable def m (N : Nat) (a0 : Branch) (a1 : ByteArray) : Option R :=
  bif (decide ((a1.size : Int) > (65536:Int))) then
    some ((MapProof.mk false ByteArray.empty ByteArray.empty ([] : List MapStep)), (2:Int))
  else
  ob (spec_MapOK.m N (Branch.mk a0.Key a0.Value a0.At a0.Kids)) fun y1 =>
  bif (!y1) then
    some ((MapProof.mk false ByteArray.empty ByteArray.empty ([] : List MapStep)), (1:Int))
  else
  ob (spec_l02Key.m N a1) fun y2 =>
  bif (bif false then true else (!y2)) then
    some ((MapProof.mk false ByteArray.empty ByteArray.empty ([] : List MapStep)), (1:Int))
  else
  ob (spec_l07Prove.m N (Branch.mk a0.Key a0.Value a0.At a0.Kids) a1) fun y3 =>
  some (y3, (0:Int))
@[reducible] noncomputable def sp (N : Nat) : Spec E := { ps := [.val (.st 25), .val .str], rs := [(.st 32), (.int .i64)], own := true, dp := false, R := R, fn := fun x => m N x.1 x.2.1, res := fun r => (r.1, r.2, ()), out := fun r => ((), (), ()), shut := fun a b => (a.1, a.2.1), res_shut := fun _ _ => rfl, out_shut := fun _ _ => rfl }
end spec_ProveKey
/-! ### strings_Compare: strings.Compare, by the shelf's contract -/
namespace strings_Compare
abbrev R := Int
def m (N : Nat) (a0 a1 : ByteArray) : Option R := some (Go.Lib.compareBytes a0.data.toList a1.data.toList)
@[reducible] noncomputable def sp (N : Nat) : Spec E := { ps := [.val .str, .val .str], rs := [.int .i64], own := true, dp := false, R := R, fn := fun x => m N x.1 x.2.1, res := fun r => (r, ()), out := fun r => ((), (), ()), shut := fun a b => a.1, res_shut := fun _ _ => rfl, out_shut := fun _ _ => rfl }
end strings_Compare
/-! ### impl_pairAt_1: loop.example/g00220/impl.pairAt$1 -/
namespace impl_pairAt_1
abbrev R := Int
noncomputable def m (N : Nat) (a0 : pairOf) (a1 : ByteArray) : Option R :=
  ob (strings_Compare.m N a0.hash a1) fun y1 =>
  some y1
@[reducible] noncomputable def sp (N : Nat) : Spec E := { ps := [.val (.st 58), .val .str], rs := [(.int .i64)], own := true, dp := false, R := R, fn := fun x => m N x.1 x.2.1, res := fun r => (r, ()), out := fun r => ((), (), ()), shut := fun a b => a.1, res_shut := fun _ _ => rfl, out_shut := fun _ _ => rfl }
end impl_pairAt_1
/-! ### slices_BinarySearchFunc_impl_pairOf_impl_pairOf_string__impl_pairAt_1: slices.BinarySearchFunc[[]loop.example/g00220/impl.pairOf,loop.example/g00220/impl.pairOf,string] -/
namespace slices_BinarySearchFunc_impl_pairOf_impl_pairOf_string__impl_pairAt_1
abbrev R := Int × Bool
noncomputable def step3 (N : Nat) (a0 : List pairOf) (a1 : ByteArray) (rec : (Int × Int × Int) → Option R) : (Int × Int × Int) → Option R
  | (v2, v3, v4) =>
    bif (decide (v3 < v4)) then
      bif (!decide ((1:Int) < 0)) then
      bif (decide (0 ≤ (w64 (Int.fdiv (wu64 (w64 (v3 + v4))) (2 ^ (min (Int.toNat (1:Int)) 64)))))) then
      bif (decide ((w64 (Int.fdiv (wu64 (w64 (v3 + v4))) (2 ^ (min (Int.toNat (1:Int)) 64)))) < (a0.length : Int))) then
      ob (impl_pairAt_1.m N (a0.getD (Int.toNat (w64 (Int.fdiv (wu64 (w64 (v3 + v4))) (2 ^ (min (Int.toNat (1:Int)) 64))))) pairOf.dz) a1) fun y1 =>
      bif (decide (y1 < (0:Int))) then
        rec (v2, (w64 ((w64 (Int.fdiv (wu64 (w64 (v3 + v4))) (2 ^ (min (Int.toNat (1:Int)) 64)))) + (1:Int))), v4)
      else
      rec (v2, v3, (w64 (Int.fdiv (wu64 (w64 (v3 + v4))) (2 ^ (min (Int.toNat (1:Int)) 64)))))
      else none
      else none
      else none
    else
    bif (decide (v3 < v2)) then
      bif (decide (0 ≤ v3)) then
      bif (decide (v3 < (a0.length : Int))) then
      ob (impl_pairAt_1.m N (a0.getD (Int.toNat v3) pairOf.dz) a1) fun y2 =>
      some (v3, (bif true then (y2 == (0:Int)) else false))
      else none
      else none
    else
    some (v3, false)
noncomputable def lp3 (N : Nat) (a0 : List pairOf) (a1 : ByteArray) : (Int × Int × Int) → Option R :=
  miter (fun rec => step3 N a0 a1 rec) N
noncomputable def m (N : Nat) (a0 : List pairOf) (a1 : ByteArray) : Option R :=
  lp3 N a0 a1 ((a0.length : Int), (0:Int), (a0.length : Int))
@[reducible] noncomputable def sp (N : Nat) : Spec E := { ps := [.val (.slice 58 (.st 58)), .val .str, .clo 62 []], rs := [(.int .i64), .bool], own := true, dp := false, R := R, fn := fun x => m N x.1 x.2.1, res := fun r => (r.1, r.2, ()), out := fun r => ((), (), (), ()), shut := fun a b => (a.1, a.2.1), res_shut := fun _ _ => rfl, out_shut := fun _ _ => rfl }
end slices_BinarySearchFunc_impl_pairOf_impl_pairOf_string__impl_pairAt_1
/-! ### impl_pairAt: loop.example/g00220/impl.pairAt -/
namespace impl_pairAt
abbrev R := Int × Bool
noncomputable def m (N : Nat) (a0 : List pairOf) (a1 : ByteArray) : Option R :=
  ob (impl_hash.m N a1) fun y1 =>
  ob (slices_BinarySearchFunc_impl_pairOf_impl_pairOf_string__impl_pairAt_1.m N a0 y1) fun y2 =>
  some (y2.1, y2.2)
@[reducible] noncomputable def sp (N : Nat) : Spec E := { ps := [.val (.slice 58 (.st 58)), .val .str], rs := [(.int .i64), .bool], own := true, dp := false, R := R, fn := fun x => m N x.1 x.2.1, res := fun r => (r.1, r.2, ()), out := fun r => ((), (), ()), shut := fun a b => (a.1, a.2.1), res_shut := fun _ _ => rfl, out_shut := fun _ _ => rfl }
end impl_pairAt
end Mir.Y
