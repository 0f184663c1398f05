/- Models of functions. -/
import Derived.Lib.Bytealg
import Derived.Test.YtojpcjbdehoibaaEngD
import Derived.Test.YtojpcjbdehoibaaHM1
namespace Mir.Y
set_option linter.unusedVariables false
set_option maxRecDepth 10000
open Go Go.Proofs Mir
/-! ### impl_hashWords: loop.example/g00220/impl.hashWords -/
namespace impl_hashWords
abbrev R := (List Int)
noncomputable def m (N : Nat) : Option R :=
  (let w1 : List Int := [(1779033703:Int), (3144134277:Int), (1013904242:Int), (2773480762:Int), (1359893119:Int), (2600822924:Int), (528734635:Int), (1541459225:Int)]
  some w1)
@[reducible] noncomputable def sp (N : Nat) : Spec E := { ps := [], rs := [(.arr .u32 8)], own := true, dp := false, R := R, fn := fun x => m N, res := fun r => (r, ()), out := fun r => (), shut := fun a b => a.1, res_shut := fun _ _ => rfl, out_shut := fun _ _ => rfl }
end impl_hashWords
/-! ### impl_roundWords: loop.example/g00220/impl.roundWords -/
namespace impl_roundWords
abbrev R := (List Int)
noncomputable def m (N : Nat) : Option R :=
  (let w1 : List Int := [(1116352408:Int), (1899447441:Int), (3049323471:Int), (3921009573:Int), (961987163:Int), (1508970993:Int), (2453635748:Int), (2870763221:Int), (3624381080:Int), (310598401:Int), (607225278:Int), (1426881987:Int), (1925078388:Int), (2162078206:Int), (2614888103:Int), (3248222580:Int), (3835390401:Int), (4022224774:Int), (264347078:Int), (604807628:Int), (770255983:Int), (1249150122:Int), (1555081692:Int), (1996064986:Int), (2554220882:Int), (2821834349:Int), (2952996808:Int), (3210313671:Int), (3336571891:Int), (3584528711:Int), (113926993:Int), (338241895:Int), (666307205:Int), (773529912:Int), (1294757372:Int), (1396182291:Int), (1695183700:Int), (1986661051:Int), (2177026350:Int), (2456956037:Int), (2730485921:Int), (2820302411:Int), (3259730800:Int), (3345764771:Int), (3516065817:Int), (3600352804:Int), (4094571909:Int), (275423344:Int), (430227734:Int), (506948616:Int), (659060556:Int), (883997877:Int), (958139571:Int), (1322822218:Int), (1537002063:Int), (1747873779:Int), (1955562222:Int), (2024104815:Int), (2227730452:Int), (2361852424:Int), (2428436474:Int), (2756734187:Int), (3204031479:Int), (3329325298:Int)]
  some w1)
@[reducible] noncomputable def sp (N : Nat) : Spec E := { ps := [], rs := [(.arr .u32 64)], own := true, dp := false, R := R, fn := fun x => m N, res := fun r => (r, ()), out := fun r => (), shut := fun a b => a.1, res_shut := fun _ _ => rfl, out_shut := fun _ _ => rfl }
end impl_roundWords
/-! ### math_bits_RotateLeft32: math/bits.RotateLeft32 -/
namespace math_bits_RotateLeft32
abbrev R := Int
noncomputable def m (N : Nat) (a0 : Int) (a1 : Int) : Option R :=
  bif (!decide ((ibit .and .u64 (wu64 a1) (31:Int)) < 0)) then
  bif (!decide ((wu64 ((32:Int) - (ibit .and .u64 (wu64 a1) (31:Int)))) < 0)) then
  (let w1 : Int := (ibit .or .u32 (wu32 (a0 * 2 ^ (min (Int.toNat (ibit .and .u64 (wu64 a1) (31:Int))) 32))) (Int.fdiv a0 (2 ^ (min (Int.toNat (wu64 ((32:Int) - (ibit .and .u64 (wu64 a1) (31:Int))))) 32))))
  some w1)
  else none
  else none
@[reducible] noncomputable def sp (N : Nat) : Spec E := { ps := [.val (.int .u32), .val (.int .i64)], rs := [(.int .u32)], own := true, dp := false, R := R, fn := fun x => m N x.1 x.2.1, res := fun r => (r, ()), out := fun r => ((), (), ()), shut := fun a b => a.1, res_shut := fun _ _ => rfl, out_shut := fun _ _ => rfl }
end math_bits_RotateLeft32
/-! ### impl_turned: loop.example/g00220/impl.turned -/
namespace impl_turned
abbrev R := Int
noncomputable def m (N : Nat) (a0 : Int) (a1 : Int) : Option R :=
  ob (math_bits_RotateLeft32.m N a0 (w64 (0 - a1))) fun y1 =>
  some y1
@[reducible] noncomputable def sp (N : Nat) : Spec E := { ps := [.val (.int .u32), .val (.int .i64)], rs := [(.int .u32)], own := true, dp := false, R := R, fn := fun x => m N x.1 x.2.1, res := fun r => (r, ()), out := fun r => ((), (), ()), shut := fun a b => a.1, res_shut := fun _ _ => rfl, out_shut := fun _ _ => rfl }
end impl_turned
/-! ### impl_wordsOf: loop.example/g00220/impl.wordsOf -/
namespace impl_wordsOf
abbrev R := (List Int)
noncomputable def step3 (N : Nat) (a0 : ByteArray) (rec : (Int × (List Int) × (List Int)) → Option R) : (Int × (List Int) × (List Int)) → Option R
  | (v1, v2, v3) =>
    bif (decide (v1 < (64:Int))) then
      bif (decide (v1 < (16:Int))) then
        bif (decide (0 ≤ (w64 ((4:Int) * v1)))) then
        bif (decide ((w64 ((4:Int) * v1)) < (a0.size : Int))) then
        bif (!decide ((24:Int) < 0)) then
        bif (decide (0 ≤ (w64 ((w64 ((4:Int) * v1)) + (1:Int))))) then
        bif (decide ((w64 ((w64 ((4:Int) * v1)) + (1:Int))) < (a0.size : Int))) then
        bif (!decide ((16:Int) < 0)) then
        (let w1 : Int := (ibit .or .u32 (wu32 ((wu32 (sb a0 (w64 ((4:Int) * v1)))) * 2 ^ (min (Int.toNat (24:Int)) 32))) (wu32 ((wu32 (sb a0 (w64 ((w64 ((4:Int) * v1)) + (1:Int))))) * 2 ^ (min (Int.toNat (16:Int)) 32))))
        bif (decide (0 ≤ (w64 ((w64 ((4:Int) * v1)) + (2:Int))))) then
        bif (decide ((w64 ((w64 ((4:Int) * v1)) + (2:Int))) < (a0.size : Int))) then
        bif (!decide ((8:Int) < 0)) then
        bif (decide (0 ≤ (w64 ((w64 ((4:Int) * v1)) + (3:Int))))) then
        bif (decide ((w64 ((w64 ((4:Int) * v1)) + (3:Int))) < (a0.size : Int))) then
        (let w2 : Int := (ibit .or .u32 (ibit .or .u32 w1 (wu32 ((wu32 (sb a0 (w64 ((w64 ((4:Int) * v1)) + (2:Int))))) * 2 ^ (min (Int.toNat (8:Int)) 32)))) (wu32 (sb a0 (w64 ((w64 ((4:Int) * v1)) + (3:Int))))))
        bif (decide (0 ≤ v1)) then
        bif (decide (v1 < (64 : Int))) then
        rec ((w64 (v1 + (1:Int))), v2, (v3.set (Int.toNat v1) w2))
        else none
        else none)
        else none
        else none
        else none
        else none
        else none)
        else none
        else none
        else none
        else none
        else none
        else none
      else
      bif (decide (0 ≤ (w64 (v1 - (15:Int))))) then
      bif (decide ((w64 (v1 - (15:Int))) < (64 : Int))) then
      bif (decide (0 ≤ (w64 (v1 - (2:Int))))) then
      bif (decide ((w64 (v1 - (2:Int))) < (64 : Int))) then
      ob (impl_turned.m N (v3.getD (Int.toNat (w64 (v1 - (15:Int)))) 0) (7:Int)) fun y3 =>
      ob (impl_turned.m N (v3.getD (Int.toNat (w64 (v1 - (15:Int)))) 0) (18:Int)) fun y4 =>
      bif (!decide ((3:Int) < 0)) then
      ob (impl_turned.m N (v3.getD (Int.toNat (w64 (v1 - (2:Int)))) 0) (17:Int)) fun y5 =>
      ob (impl_turned.m N (v3.getD (Int.toNat (w64 (v1 - (2:Int)))) 0) (19:Int)) fun y6 =>
      bif (!decide ((10:Int) < 0)) then
      bif (decide (0 ≤ (w64 (v1 - (16:Int))))) then
      bif (decide ((w64 (v1 - (16:Int))) < (64 : Int))) then
      (let w7 : Int := (wu32 ((v3.getD (Int.toNat (w64 (v1 - (16:Int)))) 0) + (ibit .xor .u32 (ibit .xor .u32 y3 y4) (Int.fdiv (v3.getD (Int.toNat (w64 (v1 - (15:Int)))) 0) (2 ^ (min (Int.toNat (3:Int)) 32))))))
      bif (decide (0 ≤ (w64 (v1 - (7:Int))))) then
      bif (decide ((w64 (v1 - (7:Int))) < (64 : Int))) then
      (let w8 : Int := (wu32 ((wu32 (w7 + (v3.getD (Int.toNat (w64 (v1 - (7:Int)))) 0))) + (ibit .xor .u32 (ibit .xor .u32 y5 y6) (Int.fdiv (v3.getD (Int.toNat (w64 (v1 - (2:Int)))) 0) (2 ^ (min (Int.toNat (10:Int)) 32))))))
      bif (decide (0 ≤ v1)) then
      bif (decide (v1 < (64 : Int))) then
      rec ((w64 (v1 + (1:Int))), v2, (v3.set (Int.toNat v1) w8))
      else none
      else none)
      else none
      else none)
      else none
      else none
      else none
      else none
      else none
      else none
      else none
      else none
    else
    some v3
noncomputable def lp3 (N : Nat) (a0 : ByteArray) : (Int × (List Int) × (List Int)) → Option R :=
  miter (fun rec => step3 N a0 rec) N
noncomputable def m (N : Nat) (a0 : ByteArray) : Option R :=
  lp3 N a0 ((0:Int), (List.replicate 64 (0:Int)), (List.replicate 64 (0:Int)))
@[reducible] noncomputable def sp (N : Nat) : Spec E := { ps := [.val .str], rs := [(.arr .u32 64)], own := true, dp := false, R := R, fn := fun x => m N x.1, res := fun r => (r, ()), out := fun r => ((), ()), shut := fun a b => a.1, res_shut := fun _ _ => rfl, out_shut := fun _ _ => rfl }
end impl_wordsOf
/-! ### impl_blockHash: loop.example/g00220/impl.blockHash -/
namespace impl_blockHash
abbrev R := (List Int)
noncomputable def step3 (N : Nat) (a0 : List Int) (a1 : List Int) (a2 : ByteArray) (lp11 : Int × (List Int) × (List Int) → Option R) (rec : (Int × (List Int) × (List Int) × (List Int)) → Option R) : (Int × (List Int) × (List Int) × (List Int)) → Option R
  | (v0, v3, v4, v5) =>
    bif (decide (v0 < (64:Int))) then
      bif (decide (0 ≤ (0:Int))) then
      bif (decide ((0:Int) < (8 : Int))) then
      bif (decide (0 ≤ (1:Int))) then
      bif (decide ((1:Int) < (8 : Int))) then
      bif (decide (0 ≤ (2:Int))) then
      bif (decide ((2:Int) < (8 : Int))) then
      bif (decide (0 ≤ (4:Int))) then
      bif (decide ((4:Int) < (8 : Int))) then
      bif (decide (0 ≤ (5:Int))) then
      bif (decide ((5:Int) < (8 : Int))) then
      bif (decide (0 ≤ (6:Int))) then
      bif (decide ((6:Int) < (8 : Int))) then
      bif (decide (0 ≤ (7:Int))) then
      bif (decide ((7:Int) < (8 : Int))) then
      ob (impl_turned.m N (v4.getD 4 0) (6:Int)) fun y2 =>
      ob (impl_turned.m N (v4.getD 4 0) (11:Int)) fun y3 =>
      ob (impl_turned.m N (v4.getD 4 0) (25:Int)) fun y4 =>
      (let w5 : Int := (ibit .or .u32 (ibit .and .u32 (v4.getD 4 0) (v4.getD 5 0)) (ibit .and .u32 (ibit .xor .u32 (if IntKind.signed .u32 then -1 else IntKind.max .u32) (v4.getD 4 0)) (v4.getD 6 0)))
      bif (decide (0 ≤ v0)) then
      bif (decide (v0 < (64 : Int))) then
      bif (decide (0 ≤ v0)) then
      bif (decide (v0 < (64 : Int))) then
      (let w6 : Int := (wu32 ((wu32 ((wu32 ((wu32 ((v4.getD 7 0) + (ibit .xor .u32 (ibit .xor .u32 y2 y3) y4))) + w5)) + (a1.getD (Int.toNat v0) 0))) + (v5.getD (Int.toNat v0) 0)))
      ob (impl_turned.m N (v4.getD 0 0) (2:Int)) fun y7 =>
      ob (impl_turned.m N (v4.getD 0 0) (13:Int)) fun y8 =>
      ob (impl_turned.m N (v4.getD 0 0) (22:Int)) fun y9 =>
      (let w10 : Int := (ibit .or .u32 (ibit .or .u32 (ibit .and .u32 (v4.getD 0 0) (v4.getD 1 0)) (ibit .and .u32 (v4.getD 0 0) (v4.getD 2 0))) (ibit .and .u32 (v4.getD 1 0) (v4.getD 2 0)))
      bif (decide (0 ≤ (3:Int))) then
      bif (decide ((3:Int) < (8 : Int))) then
      (let w11 : List Int := [(wu32 (w6 + (wu32 ((ibit .xor .u32 (ibit .xor .u32 y7 y8) y9) + w10)))), (v4.getD 0 0), (v4.getD 1 0), (v4.getD 2 0), (wu32 ((v4.getD 3 0) + w6)), (v4.getD 4 0), (v4.getD 5 0), (v4.getD 6 0)]
      rec ((w64 (v0 + (1:Int))), v3, w11, v5))
      else none
      else none))
      else none
      else none
      else none
      else none)
      else none
      else none
      else none
      else none
      else none
      else none
      else none
      else none
      else none
      else none
      else none
      else none
      else none
      else none
    else
    lp11 ((0:Int), v3, v4)
noncomputable def step11 (N : Nat) (a0 : List Int) (a1 : List Int) (a2 : ByteArray) (rec : (Int × (List Int) × (List Int)) → Option R) : (Int × (List Int) × (List Int)) → Option R
  | (v0, v2, v3) =>
    bif (decide (v0 < (8:Int))) then
      bif (decide (0 ≤ v0)) then
      bif (decide (v0 < (8 : Int))) then
      bif (decide (0 ≤ v0)) then
      bif (decide (v0 < (8 : Int))) then
      bif (decide (0 ≤ v0)) then
      bif (decide (v0 < (8 : Int))) then
      rec ((w64 (v0 + (1:Int))), v2, (v3.set (Int.toNat v0) (wu32 ((v3.getD (Int.toNat v0) 0) + (a0.getD (Int.toNat v0) 0)))))
      else none
      else none
      else none
      else none
      else none
      else none
    else
    some v3
noncomputable def lp11 (N : Nat) (a0 : List Int) (a1 : List Int) (a2 : ByteArray) : (Int × (List Int) × (List Int)) → Option R :=
  miter (fun rec => step11 N a0 a1 a2 rec) N
noncomputable def lp3 (N : Nat) (a0 : List Int) (a1 : List Int) (a2 : ByteArray) : (Int × (List Int) × (List Int) × (List Int)) → Option R :=
  miter (fun rec => step3 N a0 a1 a2 (lp11 N a0 a1 a2) rec) N
noncomputable def m (N : Nat) (a0 : List Int) (a1 : List Int) (a2 : ByteArray) : Option R :=
  ob (impl_wordsOf.m N a2) fun y1 =>
  lp3 N a0 a1 a2 ((0:Int), (List.replicate 8 (0:Int)), a0, y1)
@[reducible] noncomputable def sp (N : Nat) : Spec E := { ps := [.val (.arr .u32 8), .val (.arr .u32 64), .val .str], rs := [(.arr .u32 8)], own := true, dp := false, R := R, fn := fun x => m N x.1 x.2.1 x.2.2.1, res := fun r => (r, ()), out := fun r => ((), (), (), ()), shut := fun a b => a.1, res_shut := fun _ _ => rfl, out_shut := fun _ _ => rfl }
end impl_blockHash
/-! ### impl_hash: loop.example/g00220/impl.hash -/
namespace impl_hash
abbrev R := ByteArray
noncomputable def step4 (N : Nat) (a0 : ByteArray) (lp9 : ByteArray × (List Int) × Int → Option R) (rec : (ByteArray × Int × (List Int) × (List Int)) → Option R) : (ByteArray × Int × (List Int) × (List Int)) → Option R
  | (v0, v1, v2, v3) =>
    bif (decide (v1 < (v0.size : Int))) then
      bif (decide (0 ≤ (w64 (v1 + (64:Int))))) then
      bif (decide ((w64 (v1 + (64:Int))) ≤ ((v0.size : Nat) : Int))) then
      bif (decide (0 ≤ v1)) then
      bif (decide (v1 ≤ (((Int.toNat (w64 (v1 + (64:Int)))) : Nat) : Int))) then
      ob (impl_blockHash.m N v2 v3 (v0.extract (Int.toNat v1) (Int.toNat (w64 (v1 + (64:Int)))))) fun y5 =>
      rec (v0, (w64 (v1 + (64:Int))), y5, v3)
      else none
      else none
      else none
      else none
    else
    lp9 (ByteArray.empty, v2, (0:Int))
noncomputable def step9 (N : Nat) (a0 : ByteArray) (rec : (ByteArray × (List Int) × Int) → Option R) : (ByteArray × (List Int) × Int) → Option R
  | (v0, v1, v2) =>
    bif (decide (v2 < (8:Int))) then
      bif (decide (0 ≤ v2)) then
      bif (decide (v2 < (8 : Int))) then
      ob (impl_number.m N (w64 (v1.getD (Int.toNat v2) 0)) (4:Int)) fun y6 =>
      bif (decide (v0.size + y6.size ≤ 9223372036854775807)) then
      rec ((v0 ++ y6), v1, (w64 (v2 + (1:Int))))
      else none
      else none
      else none
    else
    some v0
noncomputable def lp9 (N : Nat) (a0 : ByteArray) : (ByteArray × (List Int) × Int) → Option R :=
  miter (fun rec => step9 N a0 rec) N
noncomputable def lp4 (N : Nat) (a0 : ByteArray) : (ByteArray × Int × (List Int) × (List Int)) → Option R :=
  miter (fun rec => step4 N a0 (lp9 N a0) rec) N
noncomputable def m (N : Nat) (a0 : ByteArray) : Option R :=
  bif (decide (a0.size + (⟨#[128]⟩ : ByteArray).size ≤ 9223372036854775807)) then
  bif (!decide ((64:Int) = 0)) then
  bif (!decide ((64:Int) = 0)) then
  ob (strings_Repeat.m N (⟨#[0]⟩ : ByteArray) (Int.tmod (w64 ((119:Int) - (Int.tmod (a0.size : Int) (64:Int)))) (64:Int))) fun y1 =>
  bif (decide ((a0 ++ (⟨#[128]⟩ : ByteArray)).size + y1.size ≤ 9223372036854775807)) then
  ob (impl_number.m N (w64 ((8:Int) * (a0.size : Int))) (8:Int)) fun y2 =>
  bif (decide (((a0 ++ (⟨#[128]⟩ : ByteArray)) ++ y1).size + y2.size ≤ 9223372036854775807)) then
  ob (impl_hashWords.m N) fun y3 =>
  ob (impl_roundWords.m N) fun y4 =>
  lp4 N a0 ((((a0 ++ (⟨#[128]⟩ : ByteArray)) ++ y1) ++ y2), (0:Int), y3, y4)
  else none
  else none
  else none
  else none
  else none
@[reducible] noncomputable def sp (N : Nat) : Spec E := { ps := [.val .str], rs := [.str], own := true, dp := false, R := R, fn := fun x => m N x.1, res := fun r => (r, ()), out := fun r => ((), ()), shut := fun a b => a.1, res_shut := fun _ _ => rfl, out_shut := fun _ _ => rfl }
end impl_hash
/-! ### impl_Branch_isFork: (loop.example/g00220/impl.Branch).isFork -/
namespace impl_Branch_isFork
abbrev R := Bool
noncomputable def m (N : Nat) (a0 : Branch) : Option R :=
  bif (seq a0.Key ByteArray.empty) then
    bif (bif true then (seq a0.Value ByteArray.empty) else false) then
      ob (impl_within.m N a0.At (0:Int) (255:Int)) fun y1 =>
      bif (bif true then y1 else false) then
        some (bif true then ((a0.Kids.length : Int) == (2:Int)) else false)
      else
      some false
    else
    some false
  else
  some false
@[reducible] noncomputable def sp (N : Nat) : Spec E := { ps := [.val (.st 71)], rs := [.bool], own := true, dp := false, R := R, fn := fun x => m N x.1, res := fun r => (r, ()), out := fun r => ((), ()), shut := fun a b => a.1, res_shut := fun _ _ => rfl, out_shut := fun _ _ => rfl }
end impl_Branch_isFork
/-! ### impl_bit: loop.example/g00220/impl.bit -/
namespace impl_bit
abbrev R := Int
noncomputable def m (N : Nat) (a0 : ByteArray) (a1 : Int) : Option R :=
  bif (!decide ((8:Int) = 0)) then
  bif (decide (0 ≤ (w64 (Int.tdiv a1 (8:Int))))) then
  bif (decide ((w64 (Int.tdiv a1 (8:Int))) < (a0.size : Int))) then
  bif (!decide ((8:Int) = 0)) then
  bif (!decide ((w64 ((7:Int) - (Int.tmod a1 (8:Int)))) < 0)) then
  (let w1 : Int := (ibit .and .i64 (w64 (Int.fdiv (sb a0 (w64 (Int.tdiv a1 (8:Int)))) (2 ^ (min (Int.toNat (w64 ((7:Int) - (Int.tmod a1 (8:Int))))) 8)))) (1:Int))
  some w1)
  else none
  else none
  else none
  else none
  else none
@[reducible] noncomputable def sp (N : Nat) : Spec E := { ps := [.val .str, .val (.int .i64)], rs := [(.int .i64)], own := true, dp := false, R := R, fn := fun x => m N x.1 x.2.1, res := fun r => (r, ()), out := fun r => ((), (), ()), shut := fun a b => a.1, res_shut := fun _ _ => rfl, out_shut := fun _ _ => rfl }
end impl_bit
/-! ### impl_Branch_pairs_1: (loop.example/g00220/impl.Branch).pairs$1 -/
namespace impl_Branch_pairs_1
abbrev R := Bool
noncomputable def m (N : Nat) (a0 : pairOf) (a1 : Branch) (a2 : Int) : Option R :=
  ob (impl_bit.m N a0.hash a1.At) fun y1 =>
  some (y1 != a2)
@[reducible] noncomputable def sp (N : Nat) : Spec E := { ps := [.val (.st 146), .cap (.rb (.st 71)), .cap (.rb (.int .i64))], rs := [.bool], own := true, dp := false, R := R, fn := fun x => m N x.1 x.2.1 x.2.2.1, res := fun r => (r, ()), out := fun r => ((), (), (), ()), shut := fun a b => a.1, res_shut := fun _ _ => rfl, out_shut := fun _ _ => rfl }
end impl_Branch_pairs_1
/-! ### slices_IndexFunc_impl_pairOf_impl_pairOf__impl_Branch_pairs_1: slices.IndexFunc[[]loop.example/g00220/impl.pairOf,loop.example/g00220/impl.pairOf] -/
namespace slices_IndexFunc_impl_pairOf_impl_pairOf__impl_Branch_pairs_1
abbrev R := Int
noncomputable def step2 (N : Nat) (a0 : List pairOf) (a1_0 : Branch) (a1_1 : Int) (rec : (Int × Int) → Option R) : (Int × Int) → Option R
  | (v1, v2) =>
    bif (decide (v2 < v1)) then
      bif (decide (0 ≤ v2)) then
      bif (decide (v2 < (a0.length : Int))) then
      ob (impl_Branch_pairs_1.m N (a0.getD (Int.toNat v2) pairOf.dz) (Branch.mk a1_0.Key a1_0.Value a1_0.At a1_0.Kids) a1_1) fun y1 =>
      bif y1 then
        some v2
      else
      rec (v1, (w64 (v2 + (1:Int))))
      else none
      else none
    else
    some (-1:Int)
noncomputable def lp2 (N : Nat) (a0 : List pairOf) (a1_0 : Branch) (a1_1 : Int) : (Int × Int) → Option R :=
  miter (fun rec => step2 N a0 a1_0 a1_1 rec) N
noncomputable def m (N : Nat) (a0 : List pairOf) (a1_0 : Branch) (a1_1 : Int) : Option R :=
  lp2 N a0 a1_0 a1_1 ((a0.length : Int), (0:Int))
@[reducible] noncomputable def sp (N : Nat) : Spec E := { ps := [.val (.slice 146 (.st 146)), .clo 226 [.rb (.st 71), .rb (.int .i64)]], rs := [(.int .i64)], own := true, dp := false, R := R, fn := fun x => m N x.1 x.2.1.1 x.2.1.2.1, res := fun r => (r, ()), out := fun r => ((), (), ()), shut := fun a b => a.1, res_shut := fun _ _ => rfl, out_shut := fun _ _ => rfl }
end slices_IndexFunc_impl_pairOf_impl_pairOf__impl_Branch_pairs_1
/-! ### slices_ContainsFunc_impl_pairOf_impl_pairOf__impl_Branch_pairs_1: slices.ContainsFunc[[]loop.example/g00220/impl.pairOf,loop.example/g00220/impl.pairOf] -/
namespace slices_ContainsFunc_impl_pairOf_impl_pairOf__impl_Branch_pairs_1
abbrev R := Bool
noncomputable def m (N : Nat) (a0 : List pairOf) (a1_0 : Branch) (a1_1 : Int) : Option R :=
  ob (slices_IndexFunc_impl_pairOf_impl_pairOf__impl_Branch_pairs_1.m N a0 (Branch.mk a1_0.Key a1_0.Value a1_0.At a1_0.Kids) a1_1) fun y1 =>
  some (decide (y1 ≥ (0:Int)))
@[reducible] noncomputable def sp (N : Nat) : Spec E := { ps := [.val (.slice 146 (.st 146)), .clo 226 [.rb (.st 71), .rb (.int .i64)]], rs := [.bool], own := true, dp := false, R := R, fn := fun x => m N x.1 x.2.1.1 x.2.1.2.1, res := fun r => (r, ()), out := fun r => ((), (), ()), shut := fun a b => a.1, res_shut := fun _ _ => rfl, out_shut := fun _ _ => rfl }
end slices_ContainsFunc_impl_pairOf_impl_pairOf__impl_Branch_pairs_1
/-! ### impl_sameAhead: loop.example/g00220/impl.sameAhead -/
namespace impl_sameAhead
abbrev R := Bool
noncomputable def step2 (N : Nat) (a0 : ByteArray) (a1 : ByteArray) (a2 : Int) (rec : Int → Option R) : Int → Option R
  | v3 =>
    bif (decide (v3 < a2)) then
      ob (impl_bit.m N a0 v3) fun y1 =>
      ob (impl_bit.m N a1 v3) fun y2 =>
      bif (y1 != y2) then
        some false
      else
      rec (w64 (v3 + (1:Int)))
    else
    some true
noncomputable def lp2 (N : Nat) (a0 : ByteArray) (a1 : ByteArray) (a2 : Int) : Int → Option R :=
  miter (fun rec => step2 N a0 a1 a2 rec) N
noncomputable def m (N : Nat) (a0 : ByteArray) (a1 : ByteArray) (a2 : Int) : Option R :=
  lp2 N a0 a1 a2 (0:Int)
@[reducible] noncomputable def sp (N : Nat) : Spec E := { ps := [.val .str, .val .str, .val (.int .i64)], rs := [.bool], own := true, dp := false, R := R, fn := fun x => m N x.1 x.2.1 x.2.2.1, res := fun r => (r, ()), out := fun r => ((), (), (), ()), shut := fun a b => a.1, res_shut := fun _ _ => rfl, out_shut := fun _ _ => rfl }
end impl_sameAhead
/-! ### impl_Branch_pairs_2: (loop.example/g00220/impl.Branch).pairs$2 -/
namespace impl_Branch_pairs_2
abbrev R := Bool
noncomputable def m (N : Nat) (a0 : pairOf) (a1 : List pairOf) (a2 : Branch) : Option R :=
  bif (decide (0 ≤ (0:Int))) then
  bif (decide ((0:Int) < (a1.length : Int))) then
  ob (impl_sameAhead.m N a0.hash ((a1.getD 0 pairOf.dz).hash) a2.At) fun y1 =>
  some (!y1)
  else none
  else none
@[reducible] noncomputable def sp (N : Nat) : Spec E := { ps := [.val (.st 146), .cap (.rb (.slice 146 (.st 146))), .cap (.rb (.st 71))], rs := [.bool], own := true, dp := false, R := R, fn := fun x => m N x.1 x.2.1 x.2.2.1, res := fun r => (r, ()), out := fun r => ((), (), (), ()), shut := fun a b => a.1, res_shut := fun _ _ => rfl, out_shut := fun _ _ => rfl }
end impl_Branch_pairs_2
/-! ### slices_IndexFunc_impl_pairOf_impl_pairOf__impl_Branch_pairs_2: slices.IndexFunc[[]loop.example/g00220/impl.pairOf,loop.example/g00220/impl.pairOf] -/
namespace slices_IndexFunc_impl_pairOf_impl_pairOf__impl_Branch_pairs_2
abbrev R := Int
noncomputable def step2 (N : Nat) (a0 : List pairOf) (a1_0 : List pairOf) (a1_1 : Branch) (rec : (Int × Int) → Option R) : (Int × Int) → Option R
  | (v1, v2) =>
    bif (decide (v2 < v1)) then
      bif (decide (0 ≤ v2)) then
      bif (decide (v2 < (a0.length : Int))) then
      ob (impl_Branch_pairs_2.m N (a0.getD (Int.toNat v2) pairOf.dz) a1_0 (Branch.mk a1_1.Key a1_1.Value a1_1.At a1_1.Kids)) fun y1 =>
      bif y1 then
        some v2
      else
      rec (v1, (w64 (v2 + (1:Int))))
      else none
      else none
    else
    some (-1:Int)
noncomputable def lp2 (N : Nat) (a0 : List pairOf) (a1_0 : List pairOf) (a1_1 : Branch) : (Int × Int) → Option R :=
  miter (fun rec => step2 N a0 a1_0 a1_1 rec) N
noncomputable def m (N : Nat) (a0 : List pairOf) (a1_0 : List pairOf) (a1_1 : Branch) : Option R :=
  lp2 N a0 a1_0 a1_1 ((a0.length : Int), (0:Int))
@[reducible] noncomputable def sp (N : Nat) : Spec E := { ps := [.val (.slice 146 (.st 146)), .clo 227 [.rb (.slice 146 (.st 146)), .rb (.st 71)]], rs := [(.int .i64)], own := true, dp := false, R := R, fn := fun x => m N x.1 x.2.1.1 x.2.1.2.1, res := fun r => (r, ()), out := fun r => ((), (), ()), shut := fun a b => a.1, res_shut := fun _ _ => rfl, out_shut := fun _ _ => rfl }
end slices_IndexFunc_impl_pairOf_impl_pairOf__impl_Branch_pairs_2
/-! ### slices_ContainsFunc_impl_pairOf_impl_pairOf__impl_Branch_pairs_2: slices.ContainsFunc[[]loop.example/g00220/impl.pairOf,loop.example/g00220/impl.pairOf] -/
namespace slices_ContainsFunc_impl_pairOf_impl_pairOf__impl_Branch_pairs_2
abbrev R := Bool
noncomputable def m (N : Nat) (a0 : List pairOf) (a1_0 : List pairOf) (a1_1 : Branch) : Option R :=
  ob (slices_IndexFunc_impl_pairOf_impl_pairOf__impl_Branch_pairs_2.m N a0 a1_0 (Branch.mk a1_1.Key a1_1.Value a1_1.At a1_1.Kids)) fun y1 =>
  some (decide (y1 ≥ (0:Int)))
@[reducible] noncomputable def sp (N : Nat) : Spec E := { ps := [.val (.slice 146 (.st 146)), .clo 227 [.rb (.slice 146 (.st 146)), .rb (.st 71)]], rs := [.bool], own := true, dp := false, R := R, fn := fun x => m N x.1 x.2.1.1 x.2.1.2.1, res := fun r => (r, ()), out := fun r => ((), (), ()), shut := fun a b => a.1, res_shut := fun _ _ => rfl, out_shut := fun _ _ => rfl }
end slices_ContainsFunc_impl_pairOf_impl_pairOf__impl_Branch_pairs_2
/-! ### impl_Branch_pairs: (loop.example/g00220/impl.Branch).pairs -/
namespace impl_Branch_pairs
abbrev R := (List pairOf) × Bool × Int
@[reducible] noncomputable def spf (f : Branch → Int → Int → Option R) : Spec E := { ps := [.val (.st 71), .val (.int .i64), .box false 3 3], rs := [(.slice 146 (.st 146)), .bool], own := true, dp := false, R := R, fn := fun x => f x.1 x.2.1 x.2.2.1, res := fun r => (r.1, r.2.1, ()), out := fun r => ((), (), r.2.2, ()), shut := fun a b => (a.1, a.2.1, b.2.2.1), res_shut := fun _ _ => rfl, out_shut := fun _ _ => rfl }
end impl_Branch_pairs
namespace impl_Branch_pairs
noncomputable def step8 (N : Nat) (slf : Branch → Int → Int → Option R) (a0 : Branch) (a1 : Int) (a2 : Int) (rec : (Int × Int × Int × (List pairOf)) → Option R) : (Int × Int × Int × (List pairOf)) → Option R
  | (v1, v2, v3, v8) =>
    bif (decide (v2 < v1)) then
      bif (decide (0 ≤ v2)) then
      bif (decide (v2 < (a0.Kids.length : Int))) then
      ob (slf (Branch.mk ((a0.Kids.getD (Int.toNat v2) Branch.dz).Key) ((a0.Kids.getD (Int.toNat v2) Branch.dz).Value) ((a0.Kids.getD (Int.toNat v2) Branch.dz).At) ((a0.Kids.getD (Int.toNat v2) Branch.dz).Kids)) a0.At v3) fun y4 =>
      bif (!y4.2.1) then
        some (([] : List pairOf), false, y4.2.2)
      else
      ob (slices_ContainsFunc_impl_pairOf_impl_pairOf__impl_Branch_pairs_1.m N y4.1 (Branch.mk a0.Key a0.Value a0.At a0.Kids) v2) fun y5 =>
      bif (bif false then true else y5) then
        some (([] : List pairOf), false, y4.2.2)
      else
      bif (room (v8.length + y4.1.length) 48) then
      rec (v1, (w64 (v2 + (1:Int))), y4.2.2, (v8 ++ y4.1))
      else none
      else none
      else none
    else
    ob (slices_ContainsFunc_impl_pairOf_impl_pairOf__impl_Branch_pairs_2.m N v8 v8 (Branch.mk a0.Key a0.Value a0.At a0.Kids)) fun y6 =>
    some (v8, (!y6), v3)
noncomputable def lp8 (N : Nat) (slf : Branch → Int → Int → Option R) (a0 : Branch) (a1 : Int) (a2 : Int) : (Int × Int × Int × (List pairOf)) → Option R :=
  miter (fun rec => step8 N slf a0 a1 a2 rec) N
noncomputable def mb (N : Nat) (slf : Branch → Int → Int → Option R) (a0 : Branch) (a1 : Int) (a2 : Int) : Option R :=
  ob (impl_Branch_isLeaf.m N (Branch.mk a0.Key a0.Value a0.At a0.Kids)) fun y1 =>
  bif y1 then
    ob (impl_hash.m N a0.Key) fun y2 =>
    some ([(pairOf.mk a0.Key a0.Value y2)], (decide ((w64 (a2 - (1:Int))) ≥ (0:Int))), (w64 (a2 - (1:Int))))
  else
  ob (impl_Branch_isFork.m N (Branch.mk a0.Key a0.Value a0.At a0.Kids)) fun y3 =>
  bif (!y3) then
    some (([] : List pairOf), false, a2)
  else
  bif (bif false then true else (decide (a0.At ≤ a1))) then
    some (([] : List pairOf), false, a2)
  else
  lp8 N slf a0 a1 a2 ((a0.Kids.length : Int), (0:Int), a2, ([] : List pairOf))
noncomputable def mF (N : Nat) : Nat → Branch → Int → Int → Option R
  | 0 => fun _ _ _ => none
  | n + 1 => fun a0 a1 a2 => mb N (mF N n) a0 a1 a2
noncomputable def m (N : Nat) : Branch → Int → Int → Option R := mF N N
@[reducible] noncomputable def sp (N : Nat) : Spec E := spf (m N)
end impl_Branch_pairs
/-! ### impl_mapPairs: loop.example/g00220/impl.mapPairs -/
namespace impl_mapPairs
abbrev R := (List pairOf) × Bool
noncomputable def m (N : Nat) (a0 : Branch) : Option R :=
  ob (impl_Branch_isEmpty.m N (Branch.mk a0.Key a0.Value a0.At a0.Kids)) fun y1 =>
  bif y1 then
    some (([] : List pairOf), true)
  else
  ob (impl_Branch_pairs.m N (Branch.mk a0.Key a0.Value a0.At a0.Kids) (-1:Int) (40:Int)) fun y2 =>
  some (y2.1, y2.2.1)
@[reducible] noncomputable def sp (N : Nat) : Spec E := { ps := [.val (.st 71)], rs := [(.slice 146 (.st 146)), .bool], own := true, dp := false, R := R, fn := fun x => m N x.1, res := fun r => (r.1, r.2, ()), out := fun r => ((), ()), shut := fun a b => (a.1, a.2.1), res_shut := fun _ _ => rfl, out_shut := fun _ _ => rfl }
end impl_mapPairs
/-! ### impl_mapCode: loop.example/g00220/impl.mapCode -/
namespace impl_mapCode
abbrev R := (List pairOf) × Int
noncomputable def m (N : Nat) (a0 : Branch) (a1 : ByteArray) : Option R :=
  ob (impl_isText.m N ([a1])) fun y1 =>
  bif (!y1) then
    some (([] : List pairOf), (2:Int))
  else
  ob (impl_mapPairs.m N (Branch.mk a0.Key a0.Value a0.At a0.Kids)) fun y2 =>
  bif (!y2.2) then
    some (([] : List pairOf), (1:Int))
  else
  ob (impl_isKey.m N a1) fun y3 =>
  bif (bif false then true else (!y3)) then
    some (([] : List pairOf), (1:Int))
  else
  some (y2.1, (0:Int))
@[reducible] noncomputable def sp (N : Nat) : Spec E := { ps := [.val (.st 71), .val .str], rs := [(.slice 146 (.st 146)), (.int .i64)], own := true, dp := false, R := R, fn := fun x => m N x.1 x.2.1, res := fun r => (r.1, r.2, ()), out := fun r => ((), (), ()), shut := fun a b => (a.1, a.2.1), res_shut := fun _ _ => rfl, out_shut := fun _ _ => rfl }
end impl_mapCode
/-! ### slices_Clone_impl_pairOf_impl_pairOf: slices.Clone[[]loop.example/g00220/impl.pairOf,loop.example/g00220/impl.pairOf] -/
namespace slices_Clone_impl_pairOf_impl_pairOf
abbrev R := (List pairOf)
noncomputable def m (N : Nat) (a0 : List pairOf) : Option R :=
  amb (a0.isEmpty) true
    (some ([] : List pairOf))
    (bif (room (([] : List pairOf).length + a0.length) 48) then
    some (([] : List pairOf) ++ a0)
    else none)
@[reducible] noncomputable def sp (N : Nat) : Spec E := { ps := [.val (.slice 146 (.st 146))], rs := [(.slice 146 (.st 146))], own := true, dp := false, R := R, fn := fun x => m N x.1, res := fun r => (r, ()), out := fun r => ((), ()), shut := fun a b => a.1, res_shut := fun _ _ => rfl, out_shut := fun _ _ => rfl }
end slices_Clone_impl_pairOf_impl_pairOf
/-! ### strings_Compare: strings.Compare, by the shelf's contract -/
namespace strings_Compare
abbrev R := Int
def m (N : Nat) (a0 a1 : ByteArray) : Option R := some (Go.Lib.compareBytes a0.data.toList a1.data.toList)
@[reducible] noncomputable def sp (N : Nat) : Spec E := { ps := [.val .str, .val .str], rs := [.int .i64], own := true, dp := false, R := R, fn := fun x => m N x.1 x.2.1, res := fun r => (r, ()), out := fun r => ((), (), ()), shut := fun a b => a.1, res_shut := fun _ _ => rfl, out_shut := fun _ _ => rfl }
end strings_Compare
/-! ### impl_pairAt_1: loop.example/g00220/impl.pairAt$1 -/
namespace impl_pairAt_1
abbrev R := Int
noncomputable def m (N : Nat) (a0 : pairOf) (a1 : ByteArray) : Option R :=
  ob (strings_Compare.m N a0.hash a1) fun y1 =>
  some y1
@[reducible] noncomputable def sp (N : Nat) : Spec E := { ps := [.val (.st 146), .val .str], rs := [(.int .i64)], own := true, dp := false, R := R, fn := fun x => m N x.1 x.2.1, res := fun r => (r, ()), out := fun r => ((), (), ()), shut := fun a b => a.1, res_shut := fun _ _ => rfl, out_shut := fun _ _ => rfl }
end impl_pairAt_1
/-! ### slices_BinarySearchFunc_impl_pairOf_impl_pairOf_string__impl_pairAt_1: slices.BinarySearchFunc[[]loop.example/g00220/impl.pairOf,loop.example/g00220/impl.pairOf,string] -/
namespace slices_BinarySearchFunc_impl_pairOf_impl_pairOf_string__impl_pairAt_1
abbrev R := Int × Bool
noncomputable def step3 (N : Nat) (a0 : List pairOf) (a1 : ByteArray) (rec : (Int × Int × Int) → Option R) : (Int × Int × Int) → Option R
  | (v2, v3, v4) =>
    bif (decide (v3 < v4)) then
      bif (!decide ((1:Int) < 0)) then
      bif (decide (0 ≤ (w64 (Int.fdiv (wu64 (w64 (v3 + v4))) (2 ^ (min (Int.toNat (1:Int)) 64)))))) then
      bif (decide ((w64 (Int.fdiv (wu64 (w64 (v3 + v4))) (2 ^ (min (Int.toNat (1:Int)) 64)))) < (a0.length : Int))) then
      ob (impl_pairAt_1.m N (a0.getD (Int.toNat (w64 (Int.fdiv (wu64 (w64 (v3 + v4))) (2 ^ (min (Int.toNat (1:Int)) 64))))) pairOf.dz) a1) fun y1 =>
      bif (decide (y1 < (0:Int))) then
        rec (v2, (w64 ((w64 (Int.fdiv (wu64 (w64 (v3 + v4))) (2 ^ (min (Int.toNat (1:Int)) 64)))) + (1:Int))), v4)
      else
      rec (v2, v3, (w64 (Int.fdiv (wu64 (w64 (v3 + v4))) (2 ^ (min (Int.toNat (1:Int)) 64)))))
      else none
      else none
      else none
    else
    bif (decide (v3 < v2)) then
      bif (decide (0 ≤ v3)) then
      bif (decide (v3 < (a0.length : Int))) then
      ob (impl_pairAt_1.m N (a0.getD (Int.toNat v3) pairOf.dz) a1) fun y2 =>
      some (v3, (bif true then (y2 == (0:Int)) else false))
      else none
      else none
    else
    some (v3, false)
noncomputable def lp3 (N : Nat) (a0 : List pairOf) (a1 : ByteArray) : (Int × Int × Int) → Option R :=
  miter (fun rec => step3 N a0 a1 rec) N
noncomputable def m (N : Nat) (a0 : List pairOf) (a1 : ByteArray) : Option R :=
  lp3 N a0 a1 ((a0.length : Int), (0:Int), (a0.length : Int))
@[reducible] noncomputable def sp (N : Nat) : Spec E := { ps := [.val (.slice 146 (.st 146)), .val .str, .clo 168 []], rs := [(.int .i64), .bool], own := true, dp := false, R := R, fn := fun x => m N x.1 x.2.1, res := fun r => (r.1, r.2, ()), out := fun r => ((), (), (), ()), shut := fun a b => (a.1, a.2.1), res_shut := fun _ _ => rfl, out_shut := fun _ _ => rfl }
end slices_BinarySearchFunc_impl_pairOf_impl_pairOf_string__impl_pairAt_1
/-! ### impl_pairAt: loop.example/g00220/impl.pairAt -/
namespace impl_pairAt
abbrev R := Int × Bool
noncomputable def m (N : Nat) (a0 : List pairOf) (a1 : ByteArray) : Option R :=
  ob (impl_hash.m N a1) fun y1 =>
  ob (slices_BinarySearchFunc_impl_pairOf_impl_pairOf_string__impl_pairAt_1.m N a0 y1) fun y2 =>
  some (y2.1, y2.2)
@[reducible] noncomputable def sp (N : Nat) : Spec E := { ps := [.val (.slice 146 (.st 146)), .val .str], rs := [(.int .i64), .bool], own := true, dp := false, R := R, fn := fun x => m N x.1 x.2.1, res := fun r => (r.1, r.2, ()), out := fun r => ((), (), ()), shut := fun a b => (a.1, a.2.1), res_shut := fun _ _ => rfl, out_shut := fun _ _ => rfl }
end impl_pairAt
/-! ### slices_Insert_impl_pairOf: slices.Insert[[]impl.pairOf,impl.pairOf], by hand -/
namespace slices_Insert_impl_pairOf
abbrev R := List pairOf
def m (N : Nat) (a0 : List pairOf) (a1 : Int) (a2 : List pairOf) : Option R := insM 48 a0 a1 a2
@[reducible] noncomputable def sp (N : Nat) : Spec E := { ps := [.mov false (.slice 146 (.st 146)), .val (.int .i64), .mov false (.slice 146 (.st 146))], rs := [(.slice 146 (.st 146))], own := true, dp := false, R := R, fn := fun x => m N x.1 x.2.1 x.2.2.1, res := fun r => (r, ()), out := fun r => ((), (), (), ()), shut := fun a b => a.1, res_shut := fun _ _ => rfl, out_shut := fun _ _ => rfl }
end slices_Insert_impl_pairOf
/-! ### impl_mapPut: loop.example/g00220/impl.mapPut -/
namespace impl_mapPut
abbrev R := (List pairOf) × Int
noncomputable def m (N : Nat) (a0 : List pairOf) (a1 : ByteArray) (a2 : ByteArray) : Option R :=
  ob (slices_Clone_impl_pairOf_impl_pairOf.m N a0) fun y1 =>
  ob (impl_hash.m N a1) fun y2 =>
  ob (impl_pairAt.m N y1 a1) fun y3 =>
  bif y3.2 then
    bif (decide (0 ≤ y3.1)) then
    bif (decide (y3.1 < (y1.length : Int))) then
    some ((y1.set (Int.toNat y3.1) (pairOf.mk a1 a2 y2)), (0:Int))
    else none
    else none
  else
  bif ((y1.length : Int) == (40:Int)) then
    some (([] : List pairOf), (7:Int))
  else
  ob (slices_Insert_impl_pairOf.m N y1 y3.1 ([(pairOf.mk a1 a2 y2)])) fun y4 =>
  some (y4, (0:Int))
@[reducible] noncomputable def sp (N : Nat) : Spec E := { ps := [.val (.slice 146 (.st 146)), .val .str, .val .str], rs := [(.slice 146 (.st 146)), (.int .i64)], own := true, dp := false, R := R, fn := fun x => m N x.1 x.2.1 x.2.2.1, res := fun r => (r.1, r.2, ()), out := fun r => ((), (), (), ()), shut := fun a b => (a.1, a.2.1), res_shut := fun _ _ => rfl, out_shut := fun _ _ => rfl }
end impl_mapPut
/-! ### impl_mapOf_1: loop.example/g00220/impl.mapOf$1 -/
namespace impl_mapOf_1
abbrev R := Bool
noncomputable def m (N : Nat) (a0 : pairOf) (a1 : Int) : Option R :=
  ob (impl_bit.m N a0.hash a1) fun y1 =>
  some (y1 == (1:Int))
@[reducible] noncomputable def sp (N : Nat) : Spec E := { ps := [.val (.st 146), .cap (.rb (.int .i64))], rs := [.bool], own := true, dp := false, R := R, fn := fun x => m N x.1 x.2.1, res := fun r => (r, ()), out := fun r => ((), (), ()), shut := fun a b => a.1, res_shut := fun _ _ => rfl, out_shut := fun _ _ => rfl }
end impl_mapOf_1
/-! ### slices_IndexFunc_impl_pairOf_impl_pairOf__impl_mapOf_1: slices.IndexFunc[[]loop.example/g00220/impl.pairOf,loop.example/g00220/impl.pairOf] -/
namespace slices_IndexFunc_impl_pairOf_impl_pairOf__impl_mapOf_1
abbrev R := Int
noncomputable def step2 (N : Nat) (a0 : List pairOf) (a1_0 : Int) (rec : (Int × Int) → Option R) : (Int × Int) → Option R
  | (v1, v2) =>
    bif (decide (v2 < v1)) then
      bif (decide (0 ≤ v2)) then
      bif (decide (v2 < (a0.length : Int))) then
      ob (impl_mapOf_1.m N (a0.getD (Int.toNat v2) pairOf.dz) a1_0) fun y1 =>
      bif y1 then
        some v2
      else
      rec (v1, (w64 (v2 + (1:Int))))
      else none
      else none
    else
    some (-1:Int)
noncomputable def lp2 (N : Nat) (a0 : List pairOf) (a1_0 : Int) : (Int × Int) → Option R :=
  miter (fun rec => step2 N a0 a1_0 rec) N
noncomputable def m (N : Nat) (a0 : List pairOf) (a1_0 : Int) : Option R :=
  lp2 N a0 a1_0 ((a0.length : Int), (0:Int))
@[reducible] noncomputable def sp (N : Nat) : Spec E := { ps := [.val (.slice 146 (.st 146)), .clo 170 [.rb (.int .i64)]], rs := [(.int .i64)], own := true, dp := false, R := R, fn := fun x => m N x.1 x.2.1.1, res := fun r => (r, ()), out := fun r => ((), (), ()), shut := fun a b => a.1, res_shut := fun _ _ => rfl, out_shut := fun _ _ => rfl }
end slices_IndexFunc_impl_pairOf_impl_pairOf__impl_mapOf_1
/-! ### impl_mapOf: loop.example/g00220/impl.mapOf -/
namespace impl_mapOf
abbrev R := Branch
@[reducible] noncomputable def spf (f : (List pairOf) → Int → Option R) : Spec E := { ps := [.val (.slice 146 (.st 146)), .val (.int .i64)], rs := [(.st 71)], own := true, dp := true, R := R, fn := fun x => f x.1 x.2.1, res := fun r => (r, ()), out := fun r => ((), (), ()), shut := fun a b => a.1, res_shut := fun _ _ => rfl, out_shut := fun _ _ => rfl }
end impl_mapOf
namespace impl_mapOf
noncomputable def step6 (N : Nat) (slf : (List pairOf) → Int → Option R) (a0 : List pairOf) (a1 : Int) (rec : (Int × ByteArray × ByteArray × Int) → Option R) : (Int × ByteArray × ByteArray × Int) → Option R
  | (v1, v2, v3, v4) =>
    bif (decide (0 ≤ (0:Int))) then
    bif (decide ((0:Int) < (a0.length : Int))) then
    ob (impl_bit.m N ((a0.getD 0 pairOf.dz).hash) v1) fun y1 =>
    bif (decide (0 ≤ (w64 ((a0.length : Int) - (1:Int))))) then
    bif (decide ((w64 ((a0.length : Int) - (1:Int))) < (a0.length : Int))) then
    ob (impl_bit.m N ((a0.getD (Int.toNat (w64 ((a0.length : Int) - (1:Int)))) pairOf.dz).hash) v1) fun y2 =>
    bif (y1 == y2) then
      rec ((w64 (v1 + (1:Int))), v2, v3, v4)
    else
    ob (slices_IndexFunc_impl_pairOf_impl_pairOf__impl_mapOf_1.m N a0 v1) fun y3 =>
    bif (decide (0 ≤ y3)) then
    bif (decide (y3 ≤ ((a0.length : Nat) : Int))) then
    ob (slf (a0.take (Int.toNat y3)) (w64 (v1 + (1:Int)))) fun y4 =>
    bif (decide (0 ≤ y3)) then
    bif (decide (y3 ≤ ((a0.length : Nat) : Int))) then
    ob (slf (a0.drop (Int.toNat y3)) (w64 (v1 + (1:Int)))) fun y5 =>
    some (Branch.mk ByteArray.empty ByteArray.empty v1 ([(Branch.mk y4.Key y4.Value y4.At y4.Kids), (Branch.mk y5.Key y5.Value y5.At y5.Kids)]))
    else none
    else none
    else none
    else none
    else none
    else none
    else none
    else none
noncomputable def lp6 (N : Nat) (slf : (List pairOf) → Int → Option R) (a0 : List pairOf) (a1 : Int) : (Int × ByteArray × ByteArray × Int) → Option R :=
  miter (fun rec => step6 N slf a0 a1 rec) N
noncomputable def mb (N : Nat) (slf : (List pairOf) → Int → Option R) (a0 : List pairOf) (a1 : Int) : Option R :=
  bif ((a0.length : Int) == (0:Int)) then
    some (Branch.mk ByteArray.empty ByteArray.empty (0:Int) ([] : List Branch))
  else
  bif ((a0.length : Int) == (1:Int)) then
    bif (decide (0 ≤ (0:Int))) then
    bif (decide ((0:Int) < (a0.length : Int))) then
    bif (decide (0 ≤ (0:Int))) then
    bif (decide ((0:Int) < (a0.length : Int))) then
    some (Branch.mk ((a0.getD 0 pairOf.dz).key) ((a0.getD 0 pairOf.dz).value) (256:Int) ([] : List Branch))
    else none
    else none
    else none
    else none
  else
  lp6 N slf a0 a1 (a1, ByteArray.empty, ByteArray.empty, (0:Int))
noncomputable def mF (N : Nat) : Nat → (List pairOf) → Int → Option R
  | 0 => fun _ _ => none
  | n + 1 => fun a0 a1 => mb N (mF N n) a0 a1
noncomputable def m (N : Nat) : (List pairOf) → Int → Option R := mF N N
@[reducible] noncomputable def sp (N : Nat) : Spec E := spf (m N)
end impl_mapOf
/-! ### impl_MapPut: loop.example/g00220/impl.MapPut -/
namespace impl_MapPut
abbrev R := Branch × Int
noncomputable def m (N : Nat) (a0 : Branch) (a1 : ByteArray) (a2 : ByteArray) : Option R :=
  ob (impl_isText.m N ([a2])) fun y1 =>
  bif (!y1) then
    some ((Branch.mk ByteArray.empty ByteArray.empty (0:Int) ([] : List Branch)), (2:Int))
  else
  ob (impl_mapCode.m N (Branch.mk a0.Key a0.Value a0.At a0.Kids) a1) fun y2 =>
  bif (y2.2 != (0:Int)) then
    some ((Branch.mk ByteArray.empty ByteArray.empty (0:Int) ([] : List Branch)), y2.2)
  else
  ob (impl_isValue.m N a2) fun y3 =>
  bif (!y3) then
    some ((Branch.mk ByteArray.empty ByteArray.empty (0:Int) ([] : List Branch)), (1:Int))
  else
  ob (impl_mapPut.m N y2.1 a1 a2) fun y4 =>
  ob (impl_mapOf.m N y4.1 (0:Int)) fun y5 =>
  some ((Branch.mk y5.Key y5.Value y5.At y5.Kids), y4.2)
@[reducible] noncomputable def sp (N : Nat) : Spec E := { ps := [.val (.st 71), .val .str, .val .str], rs := [(.st 71), (.int .i64)], own := true, dp := true, R := R, fn := fun x => m N x.1 x.2.1 x.2.2.1, res := fun r => (r.1, r.2, ()), out := fun r => ((), (), (), ()), shut := fun a b => (a.1, a.2.1), res_shut := fun _ _ => rfl, out_shut := fun _ _ => rfl }
end impl_MapPut
namespace laws_eqBranch
abbrev R := Bool
@[reducible] noncomputable def spf (f : Branch → Branch → Option R) : Spec E := { ps := [.val (.st 71), .val (.st 71)], rs := [.bool], own := true, dp := false, R := R, fn := fun x => f x.1 x.2.1, res := fun r => (r, ()), out := fun r => ((), (), ()), shut := fun a b => a.1, res_shut := fun _ _ => rfl, out_shut := fun _ _ => rfl }
end laws_eqBranch
/-! ### laws_eqBranchS: loop.example/g00220/laws.eqBranchS -/
namespace laws_eqBranchS
abbrev R := Bool
noncomputable def step4 (N : Nat) (x_laws_eqBranch : Branch → Branch → Option laws_eqBranch.R) (a0 : List Branch) (a1 : List Branch) (rec : Int → Option R) : Int → Option R
  | v2 =>
    bif (decide (v2 < (a0.length : Int))) then
      bif (decide (0 ≤ v2)) then
      bif (decide (v2 < (a0.length : Int))) then
      bif (decide (0 ≤ v2)) then
      bif (decide (v2 < (a1.length : Int))) then
      ob (x_laws_eqBranch (Branch.mk ((a0.getD (Int.toNat v2) Branch.dz).Key) ((a0.getD (Int.toNat v2) Branch.dz).Value) ((a0.getD (Int.toNat v2) Branch.dz).At) ((a0.getD (Int.toNat v2) Branch.dz).Kids)) (Branch.mk ((a1.getD (Int.toNat v2) Branch.dz).Key) ((a1.getD (Int.toNat v2) Branch.dz).Value) ((a1.getD (Int.toNat v2) Branch.dz).At) ((a1.getD (Int.toNat v2) Branch.dz).Kids))) fun y1 =>
      bif (!y1) then
        some false
      else
      rec (w64 (v2 + (1:Int)))
      else none
      else none
      else none
      else none
    else
    some true
noncomputable def lp4 (N : Nat) (x_laws_eqBranch : Branch → Branch → Option laws_eqBranch.R) (a0 : List Branch) (a1 : List Branch) : Int → Option R :=
  miter (fun rec => step4 N x_laws_eqBranch a0 a1 rec) N
noncomputable def m (N : Nat) (x_laws_eqBranch : Branch → Branch → Option laws_eqBranch.R) (a0 : List Branch) (a1 : List Branch) : Option R :=
  bif ((a0.length : Int) != (a1.length : Int)) then
    some false
  else
  lp4 N x_laws_eqBranch a0 a1 (0:Int)
@[reducible] noncomputable def sp (N : Nat) (x_laws_eqBranch : Branch → Branch → Option laws_eqBranch.R) : Spec E := { ps := [.val (.slice 71 (.st 71)), .val (.slice 71 (.st 71))], rs := [.bool], own := true, dp := false, R := R, fn := fun x => m N x_laws_eqBranch x.1 x.2.1, res := fun r => (r, ()), out := fun r => ((), (), ()), shut := fun a b => a.1, res_shut := fun _ _ => rfl, out_shut := fun _ _ => rfl }
end laws_eqBranchS
/-! ### laws_eqBranch: loop.example/g00220/laws.eqBranch -/
namespace laws_eqBranch
noncomputable def mb (N : Nat) (slf : Branch → Branch → Option R) (a0 : Branch) (a1 : Branch) : Option R :=
  bif (!seq a0.Key a1.Key) then
    some false
  else
  bif (!seq a0.Value a1.Value) then
    some false
  else
  bif (a0.At != a1.At) then
    some false
  else
  ob (laws_eqBranchS.m N slf a0.Kids a1.Kids) fun y1 =>
  bif (!y1) then
    some false
  else
  some true
noncomputable def mF (N : Nat) : Nat → Branch → Branch → Option R
  | 0 => fun _ _ => none
  | n + 1 => fun a0 a1 => mb N (mF N n) a0 a1
noncomputable def m (N : Nat) : Branch → Branch → Option R := mF N N
@[reducible] noncomputable def sp (N : Nat) : Spec E := spf (m N)
end laws_eqBranch
/-! ### laws_markText: loop.example/g00220/laws.markText -/
namespace laws_markText
abbrev R := ByteArray
noncomputable def step4 (N : Nat) (a0 : Int) (rec : (Int × ByteArray) → Option R) : (Int × ByteArray) → Option R
  | (v0, v1) =>
    bif (decide (v0 > (0:Int))) then
      bif (!decide ((10:Int) = 0)) then
      bif (decide ((strOf ([(wu8 (w64 ((48:Int) + (Int.tmod v0 (10:Int)))))])).size + v1.size ≤ 9223372036854775807)) then
      bif (!decide ((10:Int) = 0)) then
      rec ((w64 (Int.tdiv v0 (10:Int))), ((strOf ([(wu8 (w64 ((48:Int) + (Int.tmod v0 (10:Int)))))])) ++ v1))
      else none
      else none
      else none
    else
    bif (decide ((⟨#[109]⟩ : ByteArray).size + v1.size ≤ 9223372036854775807)) then
    some ((⟨#[109]⟩ : ByteArray) ++ v1)
    else none
noncomputable def lp4 (N : Nat) (a0 : Int) : (Int × ByteArray) → Option R :=
  miter (fun rec => step4 N a0 rec) N
noncomputable def m (N : Nat) (a0 : Int) : Option R :=
  bif (decide (a0 ≤ (0:Int))) then
    some (⟨#[109, 48]⟩ : ByteArray)
  else
  lp4 N a0 (a0, ByteArray.empty)
@[reducible] noncomputable def sp (N : Nat) : Spec E := { ps := [.val (.int .i64)], rs := [.str], own := true, dp := false, R := R, fn := fun x => m N x.1, res := fun r => (r, ()), out := fun r => ((), ()), shut := fun a b => a.1, res_shut := fun _ _ => rfl, out_shut := fun _ _ => rfl }
end laws_markText
/-! ### laws_markBranchS: loop.example/g00220/laws.markBranchS -/
namespace laws_markBranchS
abbrev R := Int × (List Branch)
@[reducible] noncomputable def spf (f : (List Branch) → Int → Option R) : Spec E := { ps := [.mut true (.slice 71 (.st 71)), .val (.int .i64)], rs := [(.int .i64)], own := true, dp := true, R := R, fn := fun x => f x.1 x.2.1, res := fun r => (r.1, ()), out := fun r => (r.2, (), ()), shut := fun a b => (a.1, b.1), res_shut := fun _ _ => rfl, out_shut := fun _ _ => rfl }
end laws_markBranchS
namespace laws_markBranchS
noncomputable def step2 (N : Nat) (slf : (List Branch) → Int → Option R) (a0 : List Branch) (a1 : Int) (rec : (Int × Int × (List Branch)) → Option R) : (Int × Int × (List Branch)) → Option R
  | (v0, v1, v2) =>
    bif (decide (v1 < (v2.length : Int))) then
      ob (laws_markText.m N v0) fun y1 =>
      bif (decide (0 ≤ v1)) then
      bif (decide (v1 < (v2.length : Int))) then
      (let w2 : List Branch := (v2.set (Int.toNat v1) (Branch.mk y1 ((v2.getD (Int.toNat v1) Branch.dz).Value) ((v2.getD (Int.toNat v1) Branch.dz).At) ((v2.getD (Int.toNat v1) Branch.dz).Kids)))
      ob (laws_markText.m N (w64 (v0 + (1:Int)))) fun y3 =>
      bif (decide (0 ≤ v1)) then
      bif (decide (v1 < (w2.length : Int))) then
      (let w4 : List Branch := (w2.set (Int.toNat v1) (Branch.mk ((w2.getD (Int.toNat v1) Branch.dz).Key) y3 ((w2.getD (Int.toNat v1) Branch.dz).At) ((w2.getD (Int.toNat v1) Branch.dz).Kids)))
      bif (decide (0 ≤ v1)) then
      bif (decide (v1 < (w4.length : Int))) then
      (let w5 : List Branch := (w4.set (Int.toNat v1) (Branch.mk ((w4.getD (Int.toNat v1) Branch.dz).Key) ((w4.getD (Int.toNat v1) Branch.dz).Value) (w64 ((w64 (v0 + (1:Int))) + (1:Int))) ((w4.getD (Int.toNat v1) Branch.dz).Kids)))
      bif (decide (0 ≤ v1)) then
      bif (decide (v1 < (w5.length : Int))) then
      bif (decide ((Int.toNat v1) < w5.length)) then
      ob (slf ((w5.getD (Int.toNat v1) Branch.dz).Kids) (w64 ((w64 ((w64 (v0 + (1:Int))) + (1:Int))) + (1:Int)))) fun y6 =>
      (let w7 : List Branch := (w5.set (Int.toNat v1) (Branch.mk ((w5.getD (Int.toNat v1) Branch.dz).Key) ((w5.getD (Int.toNat v1) Branch.dz).Value) ((w5.getD (Int.toNat v1) Branch.dz).At) y6.2))
      rec (y6.1, (w64 (v1 + (1:Int))), w7))
      else none
      else none
      else none)
      else none
      else none)
      else none
      else none)
      else none
      else none
    else
    some (v0, v2)
noncomputable def lp2 (N : Nat) (slf : (List Branch) → Int → Option R) (a0 : List Branch) (a1 : Int) : (Int × Int × (List Branch)) → Option R :=
  miter (fun rec => step2 N slf a0 a1 rec) N
noncomputable def mb (N : Nat) (slf : (List Branch) → Int → Option R) (a0 : List Branch) (a1 : Int) : Option R :=
  lp2 N slf a0 a1 (a1, (0:Int), a0)
noncomputable def mF (N : Nat) : Nat → (List Branch) → Int → Option R
  | 0 => fun _ _ => none
  | n + 1 => fun a0 a1 => mb N (mF N n) a0 a1
noncomputable def m (N : Nat) : (List Branch) → Int → Option R := mF N N
@[reducible] noncomputable def sp (N : Nat) : Spec E := spf (m N)
end laws_markBranchS
/-! ### laws_markBranch: loop.example/g00220/laws.markBranch -/
namespace laws_markBranch
abbrev R := Int × Branch
noncomputable def m (N : Nat) (a0 : Branch) (a1 : Int) : Option R :=
  ob (laws_markBranchS.m N a0.Kids a1) fun y1 =>
  some (y1.1, (Branch.mk a0.Key a0.Value a0.At y1.2))
@[reducible] noncomputable def sp (N : Nat) : Spec E := { ps := [.mut true (.st 71), .val (.int .i64)], rs := [(.int .i64)], own := true, dp := true, R := R, fn := fun x => m N x.1 x.2.1, res := fun r => (r.1, ()), out := fun r => (r.2, (), ()), shut := fun a b => (a.1, b.1), res_shut := fun _ _ => rfl, out_shut := fun _ _ => rfl }
end laws_markBranch
/-! ### laws_heldBranchS: loop.example/g00220/laws.heldBranchS -/
namespace laws_heldBranchS
abbrev R := Int
@[reducible] noncomputable def spf (f : (List Branch) → Int → Option R) : Spec E := { ps := [.val (.slice 71 (.st 71)), .val (.int .i64)], rs := [(.int .i64)], own := true, dp := false, R := R, fn := fun x => f x.1 x.2.1, res := fun r => (r, ()), out := fun r => ((), (), ()), shut := fun a b => a.1, res_shut := fun _ _ => rfl, out_shut := fun _ _ => rfl }
end laws_heldBranchS
namespace laws_heldBranchS
noncomputable def step2 (N : Nat) (slf : (List Branch) → Int → Option R) (a0 : List Branch) (a1 : Int) (rec : (Int × Int) → Option R) : (Int × Int) → Option R
  | (v1, v2) =>
    bif (decide (v2 < (a0.length : Int))) then
      bif (decide (0 ≤ v2)) then
      bif (decide (v2 < (a0.length : Int))) then
      ob (laws_markText.m N v1) fun y1 =>
      bif (!seq ((a0.getD (Int.toNat v2) Branch.dz).Key) y1) then
        some (-1:Int)
      else
      bif (decide (0 ≤ v2)) then
      bif (decide (v2 < (a0.length : Int))) then
      ob (laws_markText.m N (w64 (v1 + (1:Int)))) fun y2 =>
      bif (!seq ((a0.getD (Int.toNat v2) Branch.dz).Value) y2) then
        some (-1:Int)
      else
      bif (decide (0 ≤ v2)) then
      bif (decide (v2 < (a0.length : Int))) then
      bif ((a0.getD (Int.toNat v2) Branch.dz).At != (w64 ((w64 (v1 + (1:Int))) + (1:Int)))) then
        some (-1:Int)
      else
      bif (decide (0 ≤ v2)) then
      bif (decide (v2 < (a0.length : Int))) then
      ob (slf ((a0.getD (Int.toNat v2) Branch.dz).Kids) (w64 ((w64 ((w64 (v1 + (1:Int))) + (1:Int))) + (1:Int)))) fun y3 =>
      bif (decide (y3 < (0:Int))) then
        some (-1:Int)
      else
      rec (y3, (w64 (v2 + (1:Int))))
      else none
      else none
      else none
      else none
      else none
      else none
      else none
      else none
    else
    some v1
noncomputable def lp2 (N : Nat) (slf : (List Branch) → Int → Option R) (a0 : List Branch) (a1 : Int) : (Int × Int) → Option R :=
  miter (fun rec => step2 N slf a0 a1 rec) N
noncomputable def mb (N : Nat) (slf : (List Branch) → Int → Option R) (a0 : List Branch) (a1 : Int) : Option R :=
  lp2 N slf a0 a1 (a1, (0:Int))
noncomputable def mF (N : Nat) : Nat → (List Branch) → Int → Option R
  | 0 => fun _ _ => none
  | n + 1 => fun a0 a1 => mb N (mF N n) a0 a1
noncomputable def m (N : Nat) : (List Branch) → Int → Option R := mF N N
@[reducible] noncomputable def sp (N : Nat) : Spec E := spf (m N)
end laws_heldBranchS
/-! ### laws_heldBranch: loop.example/g00220/laws.heldBranch -/
namespace laws_heldBranch
abbrev R := Int
noncomputable def m (N : Nat) (a0 : Branch) (a1 : Int) : Option R :=
  ob (laws_heldBranchS.m N a0.Kids a1) fun y1 =>
  bif (decide (y1 < (0:Int))) then
    some (-1:Int)
  else
  some y1
@[reducible] noncomputable def sp (N : Nat) : Spec E := { ps := [.val (.st 71), .val (.int .i64)], rs := [(.int .i64)], own := true, dp := false, R := R, fn := fun x => m N x.1 x.2.1, res := fun r => (r, ()), out := fun r => ((), (), ()), shut := fun a b => a.1, res_shut := fun _ _ => rfl, out_shut := fun _ _ => rfl }
end laws_heldBranch
/-! ### laws_FnExactMapPut: loop.example/g00220/laws.FnExactMapPut -/
namespace laws_FnExactMapPut
abbrev R := Bool
noncomputable def m (N : Nat) (a0 : Branch) (a1 : ByteArray) (a2 : ByteArray) : Option R :=
  bif (decide ((a1.size : Int) > (1048576:Int))) then
    some true
  else
  bif (decide ((a2.size : Int) > (1048576:Int))) then
    some true
  else
  ob (laws_szBranch.m N (Branch.mk a0.Key a0.Value a0.At a0.Kids) (1048576:Int)) fun y1 =>
  bif (decide (y1 < (0:Int))) then
    some true
  else
  ob (laws_toBranch.m N (Branch.mk a0.Key a0.Value a0.At a0.Kids)) fun y2 =>
  ob (spec_MapPut.m N (Branch.mk y2.Key y2.Value y2.At y2.Kids) a1 a2) fun y3 =>
  ob (laws_toBranch.m N (Branch.mk a0.Key a0.Value a0.At a0.Kids)) fun y4 =>
  ob (impl_MapPut.m N (Branch.mk y4.Key y4.Value y4.At y4.Kids) a1 a2) fun y5 =>
  ob (laws_eqBranch.m N (Branch.mk y5.1.Key y5.1.Value y5.1.At y5.1.Kids) (Branch.mk y3.1.Key y3.1.Value y3.1.At y3.1.Kids)) fun y6 =>
  bif (!y6) then
    some false
  else
  bif (bif false then true else (y5.2 != y3.2)) then
    some false
  else
  ob (laws_toBranch.m N (Branch.mk a0.Key a0.Value a0.At a0.Kids)) fun y7 =>
  ob (laws_eqBranch.m N (Branch.mk y4.Key y4.Value y4.At y4.Kids) (Branch.mk y7.Key y7.Value y7.At y7.Kids)) fun y8 =>
  bif (!y8) then
    some false
  else
  ob (laws_markBranch.m N (Branch.mk y4.Key y4.Value y4.At y4.Kids) (1:Int)) fun y9 =>
  bif (decide (y9.1 < (0:Int))) then
    some false
  else
  ob (laws_eqBranch.m N (Branch.mk y5.1.Key y5.1.Value y5.1.At y5.1.Kids) (Branch.mk y3.1.Key y3.1.Value y3.1.At y3.1.Kids)) fun y10 =>
  bif (bif false then true else (!y10)) then
    some false
  else
  bif (bif false then true else (y5.2 != y3.2)) then
    some false
  else
  ob (laws_markBranch.m N (Branch.mk y5.1.Key y5.1.Value y5.1.At y5.1.Kids) (1:Int)) fun y11 =>
  ob (laws_heldBranch.m N (Branch.mk y5.1.Key y5.1.Value y5.1.At y11.2.Kids) (1:Int)) fun y12 =>
  bif (decide (y12 < (0:Int))) then
    some false
  else
  bif (y12 != y11.1) then
    some false
  else
  ob (laws_toBranch.m N (Branch.mk a0.Key a0.Value a0.At a0.Kids)) fun y13 =>
  ob (impl_MapPut.m N (Branch.mk y13.Key y13.Value y13.At y13.Kids) a1 a2) fun y14 =>
  ob (laws_eqBranch.m N (Branch.mk y14.1.Key y14.1.Value y14.1.At y14.1.Kids) (Branch.mk y3.1.Key y3.1.Value y3.1.At y3.1.Kids)) fun y15 =>
  bif (!y15) then
    some false
  else
  bif (bif false then true else (y14.2 != y3.2)) then
    some false
  else
  ob (laws_heldBranch.m N (Branch.mk y5.1.Key y5.1.Value y5.1.At y11.2.Kids) (1:Int)) fun y16 =>
  bif (decide (y16 < (0:Int))) then
    some false
  else
  bif (y16 != y11.1) then
    some false
  else
  some true
@[reducible] noncomputable def sp (N : Nat) : Spec E := { ps := [.val (.st 67), .val .str, .val .str], rs := [.bool], own := true, dp := false, R := R, fn := fun x => m N x.1 x.2.1 x.2.2.1, res := fun r => (r, ()), out := fun r => ((), (), (), ()), shut := fun a b => a.1, res_shut := fun _ _ => rfl, out_shut := fun _ _ => rfl }
end laws_FnExactMapPut
end Mir.Y
