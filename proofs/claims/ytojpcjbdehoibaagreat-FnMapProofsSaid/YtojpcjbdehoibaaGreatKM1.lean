/- Models of functions. -/
import Derived.Test.YtojpcjbdehoibaaGreatKE
namespace Mir.Y
set_option linter.unusedVariables false
set_option maxRecDepth 10000
open Go Go.Proofs Mir
/-! ### spec_l00Source: loop.example/g00220/spec.l00Source -/
namespace spec_l00Source
abbrev R := l00Src
noncomputable def m (N : Nat) (a0 : List Int) : Option R :=
  bif (!decide ((1000:Int) = 0)) then
  some (l00Src.mk a0 (0:Int) (Int.tmod (a0.length : Int) (1000:Int)))
  else none
@[reducible] noncomputable def sp (N : Nat) : Spec E := { ps := [.val (.slice 5 (.int .u8))], rs := [(.pbx 65 65)], own := true, dp := true, R := R, fn := fun x => m N x.1, res := fun r => (r, ()), out := fun r => ((), ()), shut := fun a b => a.1, res_shut := fun _ _ => rfl, out_shut := fun _ _ => rfl }
end spec_l00Source
/-! ### spec_l00Src_size_: (*loop.example/g00220/spec.l00Src).size -/
namespace spec_l00Src_size_
abbrev R := Int
noncomputable def m (N : Nat) (a0 : l00Src) (a1 : Int) : Option R :=
  bif (!decide ((12:Int) = 0)) then
  (let w1 : Int := (if a1 < (w64 ((1:Int) + (w64 (Int.tdiv (a0.code.length : Int) (12:Int))))) then a1 else (w64 ((1:Int) + (w64 (Int.tdiv (a0.code.length : Int) (12:Int))))))
  some w1)
  else none
@[reducible] noncomputable def sp (N : Nat) : Spec E := { ps := [.cap (.rb (.st 65)), .val (.int .i64)], rs := [(.int .i64)], own := true, dp := false, R := R, fn := fun x => m N x.1 x.2.1, res := fun r => (r, ()), out := fun r => ((), (), ()), shut := fun a b => a.1, res_shut := fun _ _ => rfl, out_shut := fun _ _ => rfl }
end spec_l00Src_size_
/-! ### spec_l00Src_byte_: (*loop.example/g00220/spec.l00Src).byte -/
namespace spec_l00Src_byte_
abbrev R := Int × l00Src
noncomputable def m (N : Nat) (a0 : l00Src) : Option R :=
  bif (decide ((w64 (a0.«at» + (1:Int))) ≤ (a0.code.length : Int))) then
    bif (decide (0 ≤ (w64 ((w64 (a0.«at» + (1:Int))) - (1:Int))))) then
    bif (decide ((w64 ((w64 (a0.«at» + (1:Int))) - (1:Int))) < (a0.code.length : Int))) then
    bif (!decide ((2147483648:Int) = 0)) then
    (let w1 : Int := (Int.tmod (w64 ((w64 ((w64 (a0.seed * (31:Int))) + (w64 (a0.code.getD (Int.toNat (w64 ((w64 (a0.«at» + (1:Int))) - (1:Int)))) (0:Int))))) + (7:Int))) (2147483648:Int))
    bif (decide (0 ≤ (w64 ((w64 (a0.«at» + (1:Int))) - (1:Int))))) then
    bif (decide ((w64 ((w64 (a0.«at» + (1:Int))) - (1:Int))) < (a0.code.length : Int))) then
    some ((w64 (a0.code.getD (Int.toNat (w64 ((w64 (a0.«at» + (1:Int))) - (1:Int)))) (0:Int))), (l00Src.mk a0.code (w64 (a0.«at» + (1:Int))) w1))
    else none
    else none)
    else none
    else none
    else none
  else
  bif (decide ((w64 (a0.«at» + (1:Int))) > (3000:Int))) then
    some ((0:Int), (l00Src.mk a0.code (w64 (a0.«at» + (1:Int))) a0.seed))
  else
  bif (!decide ((2147483648:Int) = 0)) then
  bif (!decide ((65536:Int) = 0)) then
  bif (!decide ((256:Int) = 0)) then
  some ((Int.tmod (w64 (Int.tdiv (Int.tmod (w64 ((w64 (a0.seed * (1103515245:Int))) + (12345:Int))) (2147483648:Int)) (65536:Int))) (256:Int)), (l00Src.mk a0.code (w64 (a0.«at» + (1:Int))) (Int.tmod (w64 ((w64 (a0.seed * (1103515245:Int))) + (12345:Int))) (2147483648:Int))))
  else none
  else none
  else none
@[reducible] noncomputable def sp (N : Nat) : Spec E := { ps := [.box true 65 65], rs := [(.int .i64)], own := true, dp := true, R := R, fn := fun x => m N x.1, res := fun r => (r.1, ()), out := fun r => (r.2, ()), shut := fun a b => (a.1, b.1), res_shut := fun _ _ => rfl, out_shut := fun _ _ => rfl }
end spec_l00Src_byte_
/-! ### spec_l00Src_next_: (*loop.example/g00220/spec.l00Src).next -/
namespace spec_l00Src_next_
abbrev R := Int × l00Src
noncomputable def m (N : Nat) (a0 : l00Src) (a1 : Int) : Option R :=
  bif (decide (a1 ≤ (1:Int))) then
    some ((0:Int), a0)
  else
  bif (decide (a1 ≤ (256:Int))) then
    ob (spec_l00Src_byte_.m N a0) fun y1 =>
    bif (!decide (a1 = 0)) then
    some ((Int.tmod y1.1 a1), y1.2)
    else none
  else
  ob (spec_l00Src_byte_.m N a0) fun y2 =>
  ob (spec_l00Src_byte_.m N y2.2) fun y3 =>
  ob (spec_l00Src_byte_.m N y3.2) fun y4 =>
  bif (!decide (a1 = 0)) then
  some ((Int.tmod (w64 ((w64 ((w64 (y2.1 * (65536:Int))) + (w64 (y3.1 * (256:Int))))) + y4.1)) a1), y4.2)
  else none
@[reducible] noncomputable def sp (N : Nat) : Spec E := { ps := [.box true 65 65, .val (.int .i64)], rs := [(.int .i64)], own := true, dp := true, R := R, fn := fun x => m N x.1 x.2.1, res := fun r => (r.1, ()), out := fun r => (r.2, (), ()), shut := fun a b => (a.1, b.1), res_shut := fun _ _ => rfl, out_shut := fun _ _ => rfl }
end spec_l00Src_next_
/-! ### spec_l07Empty: loop.example/g00220/spec.l07Empty -/
namespace spec_l07Empty
abbrev R := Bool
noncomputable def m (N : Nat) (a0 : Branch) : Option R :=
  bif (seq a0.Key ByteArray.empty) then
    bif (bif true then (seq a0.Value ByteArray.empty) else false) then
      bif (bif true then (a0.At == (0:Int)) else false) then
        some (bif true then ((a0.Kids.length : Int) == (0:Int)) else false)
      else
      some false
    else
    some false
  else
  some false
@[reducible] noncomputable def sp (N : Nat) : Spec E := { ps := [.val (.st 25)], rs := [.bool], own := true, dp := false, R := R, fn := fun x => m N x.1, res := fun r => (r, ()), out := fun r => ((), ()), shut := fun a b => a.1, res_shut := fun _ _ => rfl, out_shut := fun _ _ => rfl }
end spec_l07Empty
/-! ### spec_l07Leaf: loop.example/g00220/spec.l07Leaf -/
namespace spec_l07Leaf
abbrev R := Bool
noncomputable def m (N : Nat) (a0 : Branch) : Option R :=
  some ((a0.Kids.length : Int) == (0:Int))
@[reducible] noncomputable def sp (N : Nat) : Spec E := { ps := [.val (.st 25)], rs := [.bool], own := true, dp := false, R := R, fn := fun x => m N x.1, res := fun r => (r, ()), out := fun r => ((), ()), shut := fun a b => a.1, res_shut := fun _ _ => rfl, out_shut := fun _ _ => rfl }
end spec_l07Leaf
/-! ### spec_l07Size: loop.example/g00220/spec.l07Size -/
namespace spec_l07Size
abbrev R := Int
@[reducible] noncomputable def spf (f : Branch → Option R) : Spec E := { ps := [.val (.st 25)], rs := [(.int .i64)], own := true, dp := false, R := R, fn := fun x => f x.1, res := fun r => (r, ()), out := fun r => ((), ()), shut := fun a b => a.1, res_shut := fun _ _ => rfl, out_shut := fun _ _ => rfl }
end spec_l07Size
namespace spec_l07Size
noncomputable def mb (N : Nat) (slf : Branch → Option R) (a0 : Branch) : Option R :=
  ob (spec_l07Empty.m N (Branch.mk a0.Key a0.Value a0.At a0.Kids)) fun y1 =>
  bif y1 then
    some (0:Int)
  else
  ob (spec_l07Leaf.m N (Branch.mk a0.Key a0.Value a0.At a0.Kids)) fun y2 =>
  bif y2 then
    some (1:Int)
  else
  bif (decide (0 ≤ (0:Int))) then
  bif (decide ((0:Int) < (a0.Kids.length : Int))) then
  ob (slf (Branch.mk ((a0.Kids.getD 0 Branch.dz).Key) ((a0.Kids.getD 0 Branch.dz).Value) ((a0.Kids.getD 0 Branch.dz).At) ((a0.Kids.getD 0 Branch.dz).Kids))) fun y3 =>
  bif (decide (0 ≤ (1:Int))) then
  bif (decide ((1:Int) < (a0.Kids.length : Int))) then
  ob (slf (Branch.mk ((a0.Kids.getD 1 Branch.dz).Key) ((a0.Kids.getD 1 Branch.dz).Value) ((a0.Kids.getD 1 Branch.dz).At) ((a0.Kids.getD 1 Branch.dz).Kids))) fun y4 =>
  some (w64 (y3 + y4))
  else none
  else none
  else none
  else none
noncomputable def mF (N : Nat) : Nat → Branch → Option R
  | 0 => fun _ => none
  | n + 1 => fun a0 => mb N (mF N n) a0
noncomputable def m (N : Nat) : Branch → Option R := mF N N
@[reducible] noncomputable def sp (N : Nat) : Spec E := spf (m N)
end spec_l07Size
/-! ### spec_l00Src_pick_: (*loop.example/g00220/spec.l00Src).pick -/
namespace spec_l00Src_pick_
abbrev R := ByteArray × l00Src
noncomputable def m (N : Nat) (a0 : l00Src) (a1 : List ByteArray) : Option R :=
  bif ((a1.length : Int) == (0:Int)) then
    some (ByteArray.empty, a0)
  else
  ob (spec_l00Src_next_.m N a0 (a1.length : Int)) fun y1 =>
  bif (decide (0 ≤ y1.1)) then
  bif (decide (y1.1 < (a1.length : Int))) then
  some ((a1.getD (Int.toNat y1.1) ByteArray.empty), y1.2)
  else none
  else none
@[reducible] noncomputable def sp (N : Nat) : Spec E := { ps := [.box true 65 65, .val (.slice 9 .str)], rs := [.str], own := true, dp := true, R := R, fn := fun x => m N x.1 x.2.1, res := fun r => (r.1, ()), out := fun r => (r.2, (), ()), shut := fun a b => (a.1, b.1), res_shut := fun _ _ => rfl, out_shut := fun _ _ => rfl }
end spec_l00Src_pick_
/-! ### spec_l00Src_mapKey: (*loop.example/g00220/spec.l00Src).mapKey -/
namespace spec_l00Src_mapKey
abbrev R := ByteArray × l00Src
noncomputable def m (N : Nat) (a0 : l00Src) : Option R :=
  (let w1 : List ByteArray := [(⟨#[97]⟩ : ByteArray), (⟨#[98]⟩ : ByteArray), (⟨#[99]⟩ : ByteArray), (⟨#[100]⟩ : ByteArray), (⟨#[101]⟩ : ByteArray), (⟨#[102]⟩ : ByteArray), (⟨#[97, 108, 112, 104, 97]⟩ : ByteArray), (⟨#[98, 101, 116, 97]⟩ : ByteArray)]
  ob (spec_l00Src_pick_.m N a0 w1) fun y2 =>
  ob (spec_l00Src_pick_.m N y2.2 ([ByteArray.empty, ByteArray.empty, (⟨#[49]⟩ : ByteArray), (⟨#[50]⟩ : ByteArray)])) fun y3 =>
  bif (decide (y2.1.size + y3.1.size ≤ 9223372036854775807)) then
  some ((y2.1 ++ y3.1), y3.2)
  else none)
@[reducible] noncomputable def sp (N : Nat) : Spec E := { ps := [.box true 65 65], rs := [.str], own := true, dp := true, R := R, fn := fun x => m N x.1, res := fun r => (r.1, ()), out := fun r => (r.2, ()), shut := fun a b => (a.1, b.1), res_shut := fun _ _ => rfl, out_shut := fun _ _ => rfl }
end spec_l00Src_mapKey
/-! ### spec_l00Src_datum: (*loop.example/g00220/spec.l00Src).datum -/
namespace spec_l00Src_datum
abbrev R := ByteArray × l00Src
noncomputable def m (N : Nat) (a0 : l00Src) : Option R :=
  (let w1 : List ByteArray := [ByteArray.empty, (⟨#[49]⟩ : ByteArray), (⟨#[50]⟩ : ByteArray), (⟨#[120]⟩ : ByteArray), (⟨#[108, 111, 110, 103, 101, 114, 32, 118, 97, 108, 117, 101]⟩ : ByteArray)]
  ob (spec_l00Src_pick_.m N a0 w1) fun y2 =>
  some (y2.1, y2.2))
@[reducible] noncomputable def sp (N : Nat) : Spec E := { ps := [.box true 65 65], rs := [.str], own := true, dp := true, R := R, fn := fun x => m N x.1, res := fun r => (r.1, ()), out := fun r => (r.2, ()), shut := fun a b => (a.1, b.1), res_shut := fun _ _ => rfl, out_shut := fun _ _ => rfl }
end spec_l00Src_datum
/-! ### spec_l07New: loop.example/g00220/spec.l07New -/
namespace spec_l07New
abbrev R := Branch
noncomputable def m (N : Nat) (a0 : ByteArray) (a1 : ByteArray) : Option R :=
  some (Branch.mk a0 a1 (256:Int) ([] : List Branch))
@[reducible] noncomputable def sp (N : Nat) : Spec E := { ps := [.val .str, .val .str], rs := [(.st 25)], own := true, dp := true, R := R, fn := fun x => m N x.1 x.2.1, res := fun r => (r, ()), out := fun r => ((), (), ()), shut := fun a b => a.1, res_shut := fun _ _ => rfl, out_shut := fun _ _ => rfl }
end spec_l07New
/-! ### spec_l01Consts: loop.example/g00220/spec.l01Consts -/
namespace spec_l01Consts
abbrev R := (List Int)
noncomputable def m (N : Nat) : Option R :=
  (let w1 : List Int := [(1116352408:Int), (1899447441:Int), (3049323471:Int), (3921009573:Int), (961987163:Int), (1508970993:Int), (2453635748:Int), (2870763221:Int), (3624381080:Int), (310598401:Int), (607225278:Int), (1426881987:Int), (1925078388:Int), (2162078206:Int), (2614888103:Int), (3248222580:Int), (3835390401:Int), (4022224774:Int), (264347078:Int), (604807628:Int), (770255983:Int), (1249150122:Int), (1555081692:Int), (1996064986:Int), (2554220882:Int), (2821834349:Int), (2952996808:Int), (3210313671:Int), (3336571891:Int), (3584528711:Int), (113926993:Int), (338241895:Int), (666307205:Int), (773529912:Int), (1294757372:Int), (1396182291:Int), (1695183700:Int), (1986661051:Int), (2177026350:Int), (2456956037:Int), (2730485921:Int), (2820302411:Int), (3259730800:Int), (3345764771:Int), (3516065817:Int), (3600352804:Int), (4094571909:Int), (275423344:Int), (430227734:Int), (506948616:Int), (659060556:Int), (883997877:Int), (958139571:Int), (1322822218:Int), (1537002063:Int), (1747873779:Int), (1955562222:Int), (2024104815:Int), (2227730452:Int), (2361852424:Int), (2428436474:Int), (2756734187:Int), (3204031479:Int), (3329325298:Int)]
  some w1)
@[reducible] noncomputable def sp (N : Nat) : Spec E := { ps := [], rs := [(.slice 79 (.int .u32))], own := true, dp := false, R := R, fn := fun x => m N, res := fun r => (r, ()), out := fun r => (), shut := fun a b => a.1, res_shut := fun _ _ => rfl, out_shut := fun _ _ => rfl }
end spec_l01Consts
/-! ### spec_l01Turn: loop.example/g00220/spec.l01Turn -/
namespace spec_l01Turn
abbrev R := Int
noncomputable def m (N : Nat) (a0 : Int) (a1 : Int) : Option R :=
  bif (!decide (a1 < 0)) then
  bif (!decide ((wu64 ((32:Int) - a1)) < 0)) then
  some (ibit .or .u32 (Int.fdiv a0 (2 ^ (min (Int.toNat a1) 32))) (wu32 (a0 * 2 ^ (min (Int.toNat (wu64 ((32:Int) - a1))) 32))))
  else none
  else none
@[reducible] noncomputable def sp (N : Nat) : Spec E := { ps := [.val (.int .u32), .val (.int .u64)], rs := [(.int .u32)], own := true, dp := false, R := R, fn := fun x => m N x.1 x.2.1, res := fun r => (r, ()), out := fun r => ((), (), ()), shut := fun a b => a.1, res_shut := fun _ _ => rfl, out_shut := fun _ _ => rfl }
end spec_l01Turn
/-! ### spec_l01Block: loop.example/g00220/spec.l01Block -/
namespace spec_l01Block
abbrev R := (List Int)
noncomputable def step2 (N : Nat) (a0 : List Int) (a1 : List Int) (a2 : List Int) (lp6 : Int × (List Int) → Option R) (rec : (Int × (List Int)) → Option R) : (Int × (List Int)) → Option R
  | (v2, v4) =>
    bif (decide (v2 < (16:Int))) then
      bif (decide (0 ≤ (w64 ((4:Int) * v2)))) then
      bif (decide ((w64 ((4:Int) * v2)) < (a1.length : Int))) then
      bif (!decide ((24:Int) < 0)) then
      bif (decide (0 ≤ (w64 ((w64 ((4:Int) * v2)) + (1:Int))))) then
      bif (decide ((w64 ((w64 ((4:Int) * v2)) + (1:Int))) < (a1.length : Int))) then
      bif (!decide ((16:Int) < 0)) then
      (let w1 : Int := (ibit .or .u32 (wu32 ((wu32 (a1.getD (Int.toNat (w64 ((4:Int) * v2))) (0:Int))) * 2 ^ (min (Int.toNat (24:Int)) 32))) (wu32 ((wu32 (a1.getD (Int.toNat (w64 ((w64 ((4:Int) * v2)) + (1:Int)))) (0:Int))) * 2 ^ (min (Int.toNat (16:Int)) 32))))
      bif (decide (0 ≤ (w64 ((w64 ((4:Int) * v2)) + (2:Int))))) then
      bif (decide ((w64 ((w64 ((4:Int) * v2)) + (2:Int))) < (a1.length : Int))) then
      bif (!decide ((8:Int) < 0)) then
      bif (decide (0 ≤ (w64 ((w64 ((4:Int) * v2)) + (3:Int))))) then
      bif (decide ((w64 ((w64 ((4:Int) * v2)) + (3:Int))) < (a1.length : Int))) then
      (let w2 : Int := (ibit .or .u32 (ibit .or .u32 w1 (wu32 ((wu32 (a1.getD (Int.toNat (w64 ((w64 ((4:Int) * v2)) + (2:Int)))) (0:Int))) * 2 ^ (min (Int.toNat (8:Int)) 32)))) (wu32 (a1.getD (Int.toNat (w64 ((w64 ((4:Int) * v2)) + (3:Int)))) (0:Int))))
      bif (decide (0 ≤ v2)) then
      bif (decide (v2 < (v4.length : Int))) then
      rec ((w64 (v2 + (1:Int))), (v4.set (Int.toNat v2) w2))
      else none
      else none)
      else none
      else none
      else none
      else none
      else none)
      else none
      else none
      else none
      else none
      else none
      else none
    else
    lp6 ((16:Int), v4)
noncomputable def step6 (N : Nat) (a0 : List Int) (a1 : List Int) (a2 : List Int) (lp13 : Int × (List Int) × (List Int) → Option R) (rec : (Int × (List Int)) → Option R) : (Int × (List Int)) → Option R
  | (v1, v3) =>
    bif (decide (v1 < (64:Int))) then
      bif (decide (0 ≤ (w64 (v1 - (15:Int))))) then
      bif (decide ((w64 (v1 - (15:Int))) < (v3.length : Int))) then
      bif (decide (0 ≤ (w64 (v1 - (2:Int))))) then
      bif (decide ((w64 (v1 - (2:Int))) < (v3.length : Int))) then
      bif (decide (0 ≤ (w64 (v1 - (16:Int))))) then
      bif (decide ((w64 (v1 - (16:Int))) < (v3.length : Int))) then
      ob (spec_l01Turn.m N (v3.getD (Int.toNat (w64 (v1 - (15:Int)))) (0:Int)) (7:Int)) fun y3 =>
      ob (spec_l01Turn.m N (v3.getD (Int.toNat (w64 (v1 - (15:Int)))) (0:Int)) (18:Int)) fun y4 =>
      bif (!decide ((3:Int) < 0)) then
      (let w5 : Int := (wu32 ((v3.getD (Int.toNat (w64 (v1 - (16:Int)))) (0:Int)) + (ibit .xor .u32 (ibit .xor .u32 y3 y4) (Int.fdiv (v3.getD (Int.toNat (w64 (v1 - (15:Int)))) (0:Int)) (2 ^ (min (Int.toNat (3:Int)) 32))))))
      bif (decide (0 ≤ (w64 (v1 - (7:Int))))) then
      bif (decide ((w64 (v1 - (7:Int))) < (v3.length : Int))) then
      ob (spec_l01Turn.m N (v3.getD (Int.toNat (w64 (v1 - (2:Int)))) (0:Int)) (17:Int)) fun y6 =>
      ob (spec_l01Turn.m N (v3.getD (Int.toNat (w64 (v1 - (2:Int)))) (0:Int)) (19:Int)) fun y7 =>
      bif (!decide ((10:Int) < 0)) then
      (let w8 : Int := (wu32 ((wu32 (w5 + (v3.getD (Int.toNat (w64 (v1 - (7:Int)))) (0:Int)))) + (ibit .xor .u32 (ibit .xor .u32 y6 y7) (Int.fdiv (v3.getD (Int.toNat (w64 (v1 - (2:Int)))) (0:Int)) (2 ^ (min (Int.toNat (10:Int)) 32))))))
      bif (decide (0 ≤ v1)) then
      bif (decide (v1 < (v3.length : Int))) then
      rec ((w64 (v1 + (1:Int))), (v3.set (Int.toNat v1) w8))
      else none
      else none)
      else none
      else none
      else none)
      else none
      else none
      else none
      else none
      else none
      else none
      else none
    else
    bif (room (([] : List Int).length + a0.length) 4) then
    lp13 ((0:Int), v3, (([] : List Int) ++ a0))
    else none
noncomputable def step13 (N : Nat) (a0 : List Int) (a1 : List Int) (a2 : List Int) (lp21 : Int × (List Int) × (List Int) → Option R) (rec : (Int × (List Int) × (List Int)) → Option R) : (Int × (List Int) × (List Int)) → Option R
  | (v1, v3, v4) =>
    bif (decide (v1 < (64:Int))) then
      bif (decide (0 ≤ (4:Int))) then
      bif (decide ((4:Int) < (v4.length : Int))) then
      bif (decide (0 ≤ (0:Int))) then
      bif (decide ((0:Int) < (v4.length : Int))) then
      bif (decide (0 ≤ (7:Int))) then
      bif (decide ((7:Int) < (v4.length : Int))) then
      ob (spec_l01Turn.m N (v4.getD 4 (0:Int)) (6:Int)) fun y9 =>
      ob (spec_l01Turn.m N (v4.getD 4 (0:Int)) (11:Int)) fun y10 =>
      ob (spec_l01Turn.m N (v4.getD 4 (0:Int)) (25:Int)) fun y11 =>
      bif (decide (0 ≤ (5:Int))) then
      bif (decide ((5:Int) < (v4.length : Int))) then
      bif (decide (0 ≤ (6:Int))) then
      bif (decide ((6:Int) < (v4.length : Int))) then
      (let w12 : Int := (ibit .xor .u32 (ibit .and .u32 (v4.getD 4 (0:Int)) (v4.getD 5 (0:Int))) (ibit .and .u32 (ibit .xor .u32 (if IntKind.signed .u32 then -1 else IntKind.max .u32) (v4.getD 4 (0:Int))) (v4.getD 6 (0:Int))))
      bif (decide (0 ≤ v1)) then
      bif (decide (v1 < (a2.length : Int))) then
      bif (decide (0 ≤ v1)) then
      bif (decide (v1 < (v3.length : Int))) then
      (let w13 : Int := (wu32 ((wu32 ((wu32 ((wu32 ((v4.getD 7 (0:Int)) + (ibit .xor .u32 (ibit .xor .u32 y9 y10) y11))) + w12)) + (a2.getD (Int.toNat v1) (0:Int)))) + (v3.getD (Int.toNat v1) (0:Int))))
      ob (spec_l01Turn.m N (v4.getD 0 (0:Int)) (2:Int)) fun y14 =>
      ob (spec_l01Turn.m N (v4.getD 0 (0:Int)) (13:Int)) fun y15 =>
      ob (spec_l01Turn.m N (v4.getD 0 (0:Int)) (22:Int)) fun y16 =>
      bif (decide (0 ≤ (1:Int))) then
      bif (decide ((1:Int) < (v4.length : Int))) then
      bif (decide (0 ≤ (2:Int))) then
      bif (decide ((2:Int) < (v4.length : Int))) then
      bif (decide (0 ≤ (1:Int))) then
      bif (decide ((1:Int) < (v4.length : Int))) then
      bif (decide (0 ≤ (2:Int))) then
      bif (decide ((2:Int) < (v4.length : Int))) then
      (let w17 : Int := (ibit .xor .u32 (ibit .xor .u32 (ibit .and .u32 (v4.getD 0 (0:Int)) (v4.getD 1 (0:Int))) (ibit .and .u32 (v4.getD 0 (0:Int)) (v4.getD 2 (0:Int)))) (ibit .and .u32 (v4.getD 1 (0:Int)) (v4.getD 2 (0:Int))))
      bif (decide (0 ≤ (0:Int))) then
      bif (decide ((0:Int) < (v4.length : Int))) then
      bif (decide (0 ≤ (1:Int))) then
      bif (decide ((1:Int) < (v4.length : Int))) then
      bif (decide (0 ≤ (2:Int))) then
      bif (decide ((2:Int) < (v4.length : Int))) then
      bif (decide (0 ≤ (3:Int))) then
      bif (decide ((3:Int) < (v4.length : Int))) then
      bif (decide (0 ≤ (4:Int))) then
      bif (decide ((4:Int) < (v4.length : Int))) then
      bif (decide (0 ≤ (5:Int))) then
      bif (decide ((5:Int) < (v4.length : Int))) then
      bif (decide (0 ≤ (6:Int))) then
      bif (decide ((6:Int) < (v4.length : Int))) then
      (let w18 : List Int := [(wu32 (w13 + (wu32 ((ibit .xor .u32 (ibit .xor .u32 y14 y15) y16) + w17)))), (v4.getD 0 (0:Int)), (v4.getD 1 (0:Int)), (v4.getD 2 (0:Int)), (wu32 ((v4.getD 3 (0:Int)) + w13)), (v4.getD 4 (0:Int)), (v4.getD 5 (0:Int)), (v4.getD 6 (0:Int))]
      rec ((w64 (v1 + (1:Int))), v3, w18))
      else none
      else none
      else none
      else none
      else none
      else none
      else none
      else none
      else none
      else none
      else none
      else none
      else none
      else none)
      else none
      else none
      else none
      else none
      else none
      else none
      else none
      else none)
      else none
      else none
      else none
      else none)
      else none
      else none
      else none
      else none
      else none
      else none
      else none
      else none
      else none
      else none
    else
    lp21 ((0:Int), a0, v4)
noncomputable def step21 (N : Nat) (a0 : List Int) (a1 : List Int) (a2 : List Int) (rec : (Int × (List Int) × (List Int)) → Option R) : (Int × (List Int) × (List Int)) → Option R
  | (v0, v1, v2) =>
    bif (decide (v0 < (8:Int))) then
      bif (decide (0 ≤ v0)) then
      bif (decide (v0 < (v1.length : Int))) then
      bif (decide (0 ≤ v0)) then
      bif (decide (v0 < (v2.length : Int))) then
      bif (decide (0 ≤ v0)) then
      bif (decide (v0 < (v1.length : Int))) then
      rec ((w64 (v0 + (1:Int))), (v1.set (Int.toNat v0) (wu32 ((v1.getD (Int.toNat v0) (0:Int)) + (v2.getD (Int.toNat v0) (0:Int))))), v2)
      else none
      else none
      else none
      else none
      else none
      else none
    else
    some v1
noncomputable def lp21 (N : Nat) (a0 : List Int) (a1 : List Int) (a2 : List Int) : (Int × (List Int) × (List Int)) → Option R :=
  miter (fun rec => step21 N a0 a1 a2 rec) N
noncomputable def lp13 (N : Nat) (a0 : List Int) (a1 : List Int) (a2 : List Int) : (Int × (List Int) × (List Int)) → Option R :=
  miter (fun rec => step13 N a0 a1 a2 (lp21 N a0 a1 a2) rec) N
noncomputable def lp6 (N : Nat) (a0 : List Int) (a1 : List Int) (a2 : List Int) : (Int × (List Int)) → Option R :=
  miter (fun rec => step6 N a0 a1 a2 (lp13 N a0 a1 a2) rec) N
noncomputable def lp2 (N : Nat) (a0 : List Int) (a1 : List Int) (a2 : List Int) : (Int × (List Int)) → Option R :=
  miter (fun rec => step2 N a0 a1 a2 (lp6 N a0 a1 a2) rec) N
noncomputable def m (N : Nat) (a0 : List Int) (a1 : List Int) (a2 : List Int) : Option R :=
  bif (decide (0 ≤ (64:Int))) then
  bif (room 64 4) then
  lp2 N a0 a1 a2 ((0:Int), (List.replicate 64 (0:Int)))
  else none
  else none
@[reducible] noncomputable def sp (N : Nat) : Spec E := { ps := [.mut false (.slice 79 (.int .u32)), .val (.slice 5 (.int .u8)), .val (.slice 79 (.int .u32))], rs := [], own := true, dp := false, R := R, fn := fun x => m N x.1 x.2.1 x.2.2.1, res := fun r => (), out := fun r => (r, (), (), ()), shut := fun a b => b.1, res_shut := fun _ _ => rfl, out_shut := fun _ _ => rfl }
end spec_l01Block
/-! ### spec_l01Hash: loop.example/g00220/spec.l01Hash -/
namespace spec_l01Hash
abbrev R := ByteArray
noncomputable def step3 (N : Nat) (a0 : List Int) (lp6 : Int × (List Int) × (List Int) → Option R) (rec : ((List Int) × (List Int)) → Option R) : ((List Int) × (List Int)) → Option R
  | (v1, v2) =>
    bif (!decide ((64:Int) = 0)) then
    bif ((Int.tmod (v2.length : Int) (64:Int)) != (56:Int)) then
      bif (room (v2.length + ([(0:Int)]).length) 1) then
      rec (v1, (v2 ++ [(0:Int)]))
      else none
    else
    lp6 ((7:Int), v1, v2)
    else none
noncomputable def step6 (N : Nat) (a0 : List Int) (lp11 : Int × (List Int) × (List Int) × (List Int) → Option R) (rec : (Int × (List Int) × (List Int)) → Option R) : (Int × (List Int) × (List Int)) → Option R
  | (v1, v2, v3) =>
    bif (decide (v1 ≥ (0:Int))) then
      bif (!decide ((wu64 (w64 ((8:Int) * v1))) < 0)) then
      bif (room (v3.length + ([(wu8 (Int.fdiv (w64 ((8:Int) * (a0.length : Int))) (2 ^ (min (Int.toNat (wu64 (w64 ((8:Int) * v1)))) 64))))]).length) 1) then
      rec ((w64 (v1 - (1:Int))), v2, (v3 ++ [(wu8 (Int.fdiv (w64 ((8:Int) * (a0.length : Int))) (2 ^ (min (Int.toNat (wu64 (w64 ((8:Int) * v1)))) 64))))]))
      else none
      else none
    else
    ob (spec_l01Consts.m N) fun y2 =>
    lp11 ((0:Int), v2, v3, y2)
noncomputable def step11 (N : Nat) (a0 : List Int) (lp16 : Int × (List Int) × (List Int) → Option R) (rec : (Int × (List Int) × (List Int) × (List Int)) → Option R) : (Int × (List Int) × (List Int) × (List Int)) → Option R
  | (v0, v1, v2, v3) =>
    bif (decide (v0 < (v2.length : Int))) then
      bif (decide (0 ≤ (w64 (v0 + (64:Int))))) then
      bif (decide ((w64 (v0 + (64:Int))) ≤ ((v2.length : Nat) : Int))) then
      bif (decide (0 ≤ v0)) then
      bif (decide (v0 ≤ (((Int.toNat (w64 (v0 + (64:Int)))) : Nat) : Int))) then
      bif (decide ((Int.toNat v0) + ((Int.toNat (w64 (v0 + (64:Int)))) - (Int.toNat v0)) ≤ v2.length)) then
      ob (spec_l01Block.m N v1 ((v2.drop (Int.toNat v0)).take ((Int.toNat (w64 (v0 + (64:Int)))) - (Int.toNat v0))) v3) fun y3 =>
      rec ((w64 (v0 + (64:Int))), y3, v2, v3)
      else none
      else none
      else none
      else none
      else none
    else
    lp16 ((0:Int), v1, ([] : List Int))
noncomputable def step16 (N : Nat) (a0 : List Int) (rec : (Int × (List Int) × (List Int)) → Option R) : (Int × (List Int) × (List Int)) → Option R
  | (v0, v1, v2) =>
    bif (decide (v0 < (8:Int))) then
      bif (decide (0 ≤ v0)) then
      bif (decide (v0 < (v1.length : Int))) then
      bif (!decide ((24:Int) < 0)) then
      bif (decide (0 ≤ v0)) then
      bif (decide (v0 < (v1.length : Int))) then
      bif (!decide ((16:Int) < 0)) then
      bif (decide (0 ≤ v0)) then
      bif (decide (v0 < (v1.length : Int))) then
      bif (!decide ((8:Int) < 0)) then
      bif (decide (0 ≤ v0)) then
      bif (decide (v0 < (v1.length : Int))) then
      (let w4 : List Int := [(wu8 (Int.fdiv (v1.getD (Int.toNat v0) (0:Int)) (2 ^ (min (Int.toNat (24:Int)) 32)))), (wu8 (Int.fdiv (v1.getD (Int.toNat v0) (0:Int)) (2 ^ (min (Int.toNat (16:Int)) 32)))), (wu8 (Int.fdiv (v1.getD (Int.toNat v0) (0:Int)) (2 ^ (min (Int.toNat (8:Int)) 32)))), (wu8 (v1.getD (Int.toNat v0) (0:Int)))]
      bif (room (v2.length + w4.length) 1) then
      rec ((w64 (v0 + (1:Int))), v1, (v2 ++ w4))
      else none)
      else none
      else none
      else none
      else none
      else none
      else none
      else none
      else none
      else none
      else none
      else none
    else
    some (strOf v2)
noncomputable def lp16 (N : Nat) (a0 : List Int) : (Int × (List Int) × (List Int)) → Option R :=
  miter (fun rec => step16 N a0 rec) N
noncomputable def lp11 (N : Nat) (a0 : List Int) : (Int × (List Int) × (List Int) × (List Int)) → Option R :=
  miter (fun rec => step11 N a0 (lp16 N a0) rec) N
noncomputable def lp6 (N : Nat) (a0 : List Int) : (Int × (List Int) × (List Int)) → Option R :=
  miter (fun rec => step6 N a0 (lp11 N a0) rec) N
noncomputable def lp3 (N : Nat) (a0 : List Int) : ((List Int) × (List Int)) → Option R :=
  miter (fun rec => step3 N a0 (lp6 N a0) rec) N
noncomputable def m (N : Nat) (a0 : List Int) : Option R :=
  (let w1 : List Int := [(1779033703:Int), (3144134277:Int), (1013904242:Int), (2773480762:Int), (1359893119:Int), (2600822924:Int), (528734635:Int), (1541459225:Int)]
  bif (room (([] : List Int).length + a0.length) 1) then
  bif (room ((([] : List Int) ++ a0).length + ([(128:Int)]).length) 1) then
  lp3 N a0 (w1, ((([] : List Int) ++ a0) ++ [(128:Int)]))
  else none
  else none)
@[reducible] noncomputable def sp (N : Nat) : Spec E := { ps := [.val (.slice 5 (.int .u8))], rs := [.str], own := true, dp := false, R := R, fn := fun x => m N x.1, res := fun r => (r, ()), out := fun r => ((), ()), shut := fun a b => a.1, res_shut := fun _ _ => rfl, out_shut := fun _ _ => rfl }
end spec_l01Hash
/-! ### spec_l07Hash: loop.example/g00220/spec.l07Hash -/
namespace spec_l07Hash
abbrev R := ByteArray
noncomputable def m (N : Nat) (a0 : ByteArray) : Option R :=
  bif (room a0.size 1) then
  ob (spec_l01Hash.m N (bytesOf a0)) fun y1 =>
  some y1
  else none
@[reducible] noncomputable def sp (N : Nat) : Spec E := { ps := [.val .str], rs := [.str], own := true, dp := false, R := R, fn := fun x => m N x.1, res := fun r => (r, ()), out := fun r => ((), ()), shut := fun a b => a.1, res_shut := fun _ _ => rfl, out_shut := fun _ _ => rfl }
end spec_l07Hash
/-! ### spec_l07Bit: loop.example/g00220/spec.l07Bit -/
namespace spec_l07Bit
abbrev R := Int
noncomputable def m (N : Nat) (a0 : ByteArray) (a1 : Int) : Option R :=
  bif (!decide ((8:Int) = 0)) then
  bif (decide (0 ≤ (w64 (Int.tdiv a1 (8:Int))))) then
  bif (decide ((w64 (Int.tdiv a1 (8:Int))) < (a0.size : Int))) then
  bif (!decide ((8:Int) = 0)) then
  bif (!decide ((wu64 (w64 ((7:Int) - (Int.tmod a1 (8:Int))))) < 0)) then
  (let w1 : Int := (ibit .and .i64 (w64 (Int.fdiv (sb a0 (w64 (Int.tdiv a1 (8:Int)))) (2 ^ (min (Int.toNat (wu64 (w64 ((7:Int) - (Int.tmod a1 (8:Int)))))) 8)))) (1:Int))
  some w1)
  else none
  else none
  else none
  else none
  else none
@[reducible] noncomputable def sp (N : Nat) : Spec E := { ps := [.val .str, .val (.int .i64)], rs := [(.int .i64)], own := true, dp := false, R := R, fn := fun x => m N x.1 x.2.1, res := fun r => (r, ()), out := fun r => ((), (), ()), shut := fun a b => a.1, res_shut := fun _ _ => rfl, out_shut := fun _ _ => rfl }
end spec_l07Bit
/-! ### spec_l07Near: loop.example/g00220/spec.l07Near -/
namespace spec_l07Near
abbrev R := ByteArray
noncomputable def step1 (N : Nat) (a0 : Branch) (a1 : ByteArray) (rec : (ByteArray × ByteArray × Int × (List Branch)) → Option R) : (ByteArray × ByteArray × Int × (List Branch)) → Option R
  | (v1, v2, v3, v4) =>
    ob (spec_l07Leaf.m N (Branch.mk v1 v2 v3 v4)) fun y1 =>
    bif (!y1) then
      ob (spec_l07Bit.m N a1 v3) fun y2 =>
      bif (decide (0 ≤ y2)) then
      bif (decide (y2 < (v4.length : Int))) then
      rec ((v4.getD (Int.toNat y2) Branch.dz).Key, (v4.getD (Int.toNat y2) Branch.dz).Value, (v4.getD (Int.toNat y2) Branch.dz).At, (v4.getD (Int.toNat y2) Branch.dz).Kids)
      else none
      else none
    else
    ob (spec_l07Hash.m N v1) fun y3 =>
    some y3
noncomputable def lp1 (N : Nat) (a0 : Branch) (a1 : ByteArray) : (ByteArray × ByteArray × Int × (List Branch)) → Option R :=
  miter (fun rec => step1 N a0 a1 rec) N
noncomputable def m (N : Nat) (a0 : Branch) (a1 : ByteArray) : Option R :=
  lp1 N a0 a1 (a0.Key, a0.Value, a0.At, a0.Kids)
@[reducible] noncomputable def sp (N : Nat) : Spec E := { ps := [.val (.st 25), .val .str], rs := [.str], own := true, dp := false, R := R, fn := fun x => m N x.1 x.2.1, res := fun r => (r, ()), out := fun r => ((), (), ()), shut := fun a b => a.1, res_shut := fun _ _ => rfl, out_shut := fun _ _ => rfl }
end spec_l07Near
/-! ### spec_l07Differ: loop.example/g00220/spec.l07Differ -/
namespace spec_l07Differ
abbrev R := Int
noncomputable def step2 (N : Nat) (a0 : ByteArray) (a1 : ByteArray) (rec : Int → Option R) : Int → Option R
  | v2 =>
    bif (decide (v2 < (256:Int))) then
      ob (spec_l07Bit.m N a0 v2) fun y1 =>
      ob (spec_l07Bit.m N a1 v2) fun y2 =>
      bif (y1 != y2) then
        some v2
      else
      rec (w64 (v2 + (1:Int)))
    else
    some (256:Int)
noncomputable def lp2 (N : Nat) (a0 : ByteArray) (a1 : ByteArray) : Int → Option R :=
  miter (fun rec => step2 N a0 a1 rec) N
noncomputable def m (N : Nat) (a0 : ByteArray) (a1 : ByteArray) : Option R :=
  lp2 N a0 a1 (0:Int)
@[reducible] noncomputable def sp (N : Nat) : Spec E := { ps := [.val .str, .val .str], rs := [(.int .i64)], own := true, dp := false, R := R, fn := fun x => m N x.1 x.2.1, res := fun r => (r, ()), out := fun r => ((), (), ()), shut := fun a b => a.1, res_shut := fun _ _ => rfl, out_shut := fun _ _ => rfl }
end spec_l07Differ
/-! ### spec_l07Insert: loop.example/g00220/spec.l07Insert -/
namespace spec_l07Insert
abbrev R := Branch
@[reducible] noncomputable def spf (f : Branch → ByteArray → Int → Branch → Option R) : Spec E := { ps := [.val (.st 25), .val .str, .val (.int .i64), .val (.st 25)], rs := [(.st 25)], own := false, dp := false, R := R, fn := fun x => f x.1 x.2.1 x.2.2.1 x.2.2.2.1, res := fun r => (r, ()), out := fun r => ((), (), (), (), ()), shut := fun a b => a.1, res_shut := fun _ _ => rfl, out_shut := fun _ _ => rfl }
end spec_l07Insert
namespace spec_l07Insert
noncomputable def mb (N : Nat) (slf : Branch → ByteArray → Int → Branch → Option R) (a0 : Branch) (a1 : ByteArray) (a2 : Int) (a3 : Branch) : Option R :=
  bif (a2 == (256:Int)) then
    ob (spec_l07Leaf.m N (Branch.mk a0.Key a0.Value a0.At a0.Kids)) fun y1 =>
    bif (bif true then y1 else false) then
      some (Branch.mk a3.Key a3.Value a3.At a3.Kids)
    else
    ob (spec_l07Leaf.m N (Branch.mk a0.Key a0.Value a0.At a0.Kids)) fun y2 =>
    bif y2 then
      ob (spec_l07Bit.m N a1 a2) fun y3 =>
      bif (y3 == (0:Int)) then
        some (Branch.mk ByteArray.empty ByteArray.empty a2 ([(Branch.mk a3.Key a3.Value a3.At a3.Kids), (Branch.mk a0.Key a0.Value a0.At a0.Kids)]))
      else
      some (Branch.mk ByteArray.empty ByteArray.empty a2 ([(Branch.mk a0.Key a0.Value a0.At a0.Kids), (Branch.mk a3.Key a3.Value a3.At a3.Kids)]))
    else
    bif (bif false then true else (decide (a0.At > a2))) then
      ob (spec_l07Bit.m N a1 a2) fun y4 =>
      bif (y4 == (0:Int)) then
        some (Branch.mk ByteArray.empty ByteArray.empty a2 ([(Branch.mk a3.Key a3.Value a3.At a3.Kids), (Branch.mk a0.Key a0.Value a0.At a0.Kids)]))
      else
      some (Branch.mk ByteArray.empty ByteArray.empty a2 ([(Branch.mk a0.Key a0.Value a0.At a0.Kids), (Branch.mk a3.Key a3.Value a3.At a3.Kids)]))
    else
    ob (spec_l07Bit.m N a1 a0.At) fun y5 =>
    bif (room (([] : List Branch).length + a0.Kids.length) 64) then
    bif (decide (0 ≤ y5)) then
    bif (decide (y5 < (a0.Kids.length : Int))) then
    ob (slf (Branch.mk ((a0.Kids.getD (Int.toNat y5) Branch.dz).Key) ((a0.Kids.getD (Int.toNat y5) Branch.dz).Value) ((a0.Kids.getD (Int.toNat y5) Branch.dz).At) ((a0.Kids.getD (Int.toNat y5) Branch.dz).Kids)) a1 a2 (Branch.mk a3.Key a3.Value a3.At a3.Kids)) fun y6 =>
    bif (decide (0 ≤ y5)) then
    bif (decide (y5 < ((([] : List Branch) ++ a0.Kids).length : Int))) then
    some (Branch.mk ByteArray.empty ByteArray.empty a0.At ((([] : List Branch) ++ a0.Kids).set (Int.toNat y5) (Branch.mk y6.Key y6.Value y6.At y6.Kids)))
    else none
    else none
    else none
    else none
    else none
  else
  ob (spec_l07Leaf.m N (Branch.mk a0.Key a0.Value a0.At a0.Kids)) fun y7 =>
  bif y7 then
    ob (spec_l07Bit.m N a1 a2) fun y8 =>
    bif (y8 == (0:Int)) then
      some (Branch.mk ByteArray.empty ByteArray.empty a2 ([(Branch.mk a3.Key a3.Value a3.At a3.Kids), (Branch.mk a0.Key a0.Value a0.At a0.Kids)]))
    else
    some (Branch.mk ByteArray.empty ByteArray.empty a2 ([(Branch.mk a0.Key a0.Value a0.At a0.Kids), (Branch.mk a3.Key a3.Value a3.At a3.Kids)]))
  else
  bif (bif false then true else (decide (a0.At > a2))) then
    ob (spec_l07Bit.m N a1 a2) fun y9 =>
    bif (y9 == (0:Int)) then
      some (Branch.mk ByteArray.empty ByteArray.empty a2 ([(Branch.mk a3.Key a3.Value a3.At a3.Kids), (Branch.mk a0.Key a0.Value a0.At a0.Kids)]))
    else
    some (Branch.mk ByteArray.empty ByteArray.empty a2 ([(Branch.mk a0.Key a0.Value a0.At a0.Kids), (Branch.mk a3.Key a3.Value a3.At a3.Kids)]))
  else
  ob (spec_l07Bit.m N a1 a0.At) fun y10 =>
  bif (room (([] : List Branch).length + a0.Kids.length) 64) then
  bif (decide (0 ≤ y10)) then
  bif (decide (y10 < (a0.Kids.length : Int))) then
  ob (slf (Branch.mk ((a0.Kids.getD (Int.toNat y10) Branch.dz).Key) ((a0.Kids.getD (Int.toNat y10) Branch.dz).Value) ((a0.Kids.getD (Int.toNat y10) Branch.dz).At) ((a0.Kids.getD (Int.toNat y10) Branch.dz).Kids)) a1 a2 (Branch.mk a3.Key a3.Value a3.At a3.Kids)) fun y11 =>
  bif (decide (0 ≤ y10)) then
  bif (decide (y10 < ((([] : List Branch) ++ a0.Kids).length : Int))) then
  some (Branch.mk ByteArray.empty ByteArray.empty a0.At ((([] : List Branch) ++ a0.Kids).set (Int.toNat y10) (Branch.mk y11.Key y11.Value y11.At y11.Kids)))
  else none
  else none
  else none
  else none
  else none
noncomputable def mF (N : Nat) : Nat → Branch → ByteArray → Int → Branch → Option R
  | 0 => fun _ _ _ _ => none
  | n + 1 => fun a0 a1 a2 a3 => mb N (mF N n) a0 a1 a2 a3
noncomputable def m (N : Nat) : Branch → ByteArray → Int → Branch → Option R := mF N N
@[reducible] noncomputable def sp (N : Nat) : Spec E := spf (m N)
end spec_l07Insert
/-! ### spec_l07Put: loop.example/g00220/spec.l07Put -/
namespace spec_l07Put
abbrev R := Branch
noncomputable def m (N : Nat) (a0 : Branch) (a1 : ByteArray) (a2 : ByteArray) : Option R :=
  ob (spec_l07Empty.m N (Branch.mk a0.Key a0.Value a0.At a0.Kids)) fun y1 =>
  bif y1 then
    ob (spec_l07New.m N a1 a2) fun y2 =>
    some (Branch.mk y2.Key y2.Value y2.At y2.Kids)
  else
  ob (spec_l07Hash.m N a1) fun y3 =>
  ob (spec_l07Near.m N (Branch.mk a0.Key a0.Value a0.At a0.Kids) y3) fun y4 =>
  ob (spec_l07Differ.m N y3 y4) fun y5 =>
  ob (spec_l07New.m N a1 a2) fun y6 =>
  ob (spec_l07Insert.m N (Branch.mk a0.Key a0.Value a0.At a0.Kids) y3 y5 (Branch.mk y6.Key y6.Value y6.At y6.Kids)) fun y7 =>
  some (Branch.mk y7.Key y7.Value y7.At y7.Kids)
@[reducible] noncomputable def sp (N : Nat) : Spec E := { ps := [.val (.st 25), .val .str, .val .str], rs := [(.st 25)], own := false, dp := false, R := R, fn := fun x => m N x.1 x.2.1 x.2.2.1, res := fun r => (r, ()), out := fun r => ((), (), (), ()), shut := fun a b => a.1, res_shut := fun _ _ => rfl, out_shut := fun _ _ => rfl }
end spec_l07Put
/-! ### spec_l00Src_chance: (*loop.example/g00220/spec.l00Src).chance -/
namespace spec_l00Src_chance
abbrev R := Bool × l00Src
noncomputable def m (N : Nat) (a0 : l00Src) (a1 : Int) : Option R :=
  ob (spec_l00Src_next_.m N a0 a1) fun y1 =>
  some ((y1.1 == (w64 (a1 - (1:Int)))), y1.2)
@[reducible] noncomputable def sp (N : Nat) : Spec E := { ps := [.box true 65 65, .val (.int .i64)], rs := [.bool], own := true, dp := true, R := R, fn := fun x => m N x.1 x.2.1, res := fun r => (r.1, ()), out := fun r => (r.2, (), ()), shut := fun a b => (a.1, b.1), res_shut := fun _ _ => rfl, out_shut := fun _ _ => rfl }
end spec_l00Src_chance
/-! ### spec_l07Own: loop.example/g00220/spec.l07Own -/
namespace spec_l07Own
abbrev R := Branch
@[reducible] noncomputable def spf (f : Branch → Option R) : Spec E := { ps := [.val (.st 25)], rs := [(.st 25)], own := true, dp := true, R := R, fn := fun x => f x.1, res := fun r => (r, ()), out := fun r => ((), ()), shut := fun a b => a.1, res_shut := fun _ _ => rfl, out_shut := fun _ _ => rfl }
end spec_l07Own
namespace spec_l07Own
inductive A3 where
  | s0 (v0 : Int) (v5 : ByteArray) (v6 : ByteArray) (v7 : Int)
  | s1 (v0 : Int) (v5 : ByteArray) (v6 : ByteArray) (v7 : Int) (v11 : List Branch)
noncomputable def step3 (N : Nat) (slf : Branch → Option R) (a0 : Branch) (rec : A3 → Option R) : A3 → Option R
  | .s0 v0 v5 v6 v7 =>
    bif (decide (v0 < (a0.Kids.length : Int))) then
      bif (decide (0 ≤ v0)) then
      bif (decide (v0 < (a0.Kids.length : Int))) then
      ob (slf (Branch.mk ((a0.Kids.getD (Int.toNat v0) Branch.dz).Key) ((a0.Kids.getD (Int.toNat v0) Branch.dz).Value) ((a0.Kids.getD (Int.toNat v0) Branch.dz).At) ((a0.Kids.getD (Int.toNat v0) Branch.dz).Kids))) fun y1 =>
      bif (room ([(Branch.mk y1.Key y1.Value y1.At y1.Kids)]).length 64) then
      rec (.s1 (w64 (v0 + (1:Int))) v5 v6 v7 ([(Branch.mk y1.Key y1.Value y1.At y1.Kids)]))
      else none
      else none
      else none
    else
    some (Branch.mk a0.Key a0.Value a0.At ([] : List Branch))
  | .s1 v0 v5 v6 v7 v11 =>
    bif (decide (v0 < (a0.Kids.length : Int))) then
      bif (decide (0 ≤ v0)) then
      bif (decide (v0 < (a0.Kids.length : Int))) then
      ob (slf (Branch.mk ((a0.Kids.getD (Int.toNat v0) Branch.dz).Key) ((a0.Kids.getD (Int.toNat v0) Branch.dz).Value) ((a0.Kids.getD (Int.toNat v0) Branch.dz).At) ((a0.Kids.getD (Int.toNat v0) Branch.dz).Kids))) fun y2 =>
      bif (room (v11.length + ([(Branch.mk y2.Key y2.Value y2.At y2.Kids)]).length) 64) then
      rec (.s1 (w64 (v0 + (1:Int))) v5 v6 v7 (v11 ++ [(Branch.mk y2.Key y2.Value y2.At y2.Kids)]))
      else none
      else none
      else none
    else
    some (Branch.mk a0.Key a0.Value a0.At v11)
noncomputable def lp3 (N : Nat) (slf : Branch → Option R) (a0 : Branch) : A3 → Option R :=
  miter (fun rec => step3 N slf a0 rec) N
noncomputable def mb (N : Nat) (slf : Branch → Option R) (a0 : Branch) : Option R :=
  lp3 N slf a0 (.s0 (0:Int) ByteArray.empty ByteArray.empty (0:Int))
noncomputable def mF (N : Nat) : Nat → Branch → Option R
  | 0 => fun _ => none
  | n + 1 => fun a0 => mb N (mF N n) a0
noncomputable def m (N : Nat) : Branch → Option R := mF N N
@[reducible] noncomputable def sp (N : Nat) : Spec E := spf (m N)
end spec_l07Own
/-! ### spec_l00Digits: loop.example/g00220/spec.l00Digits -/
namespace spec_l00Digits
abbrev R := ByteArray
@[reducible] noncomputable def spf (f : Int → Option R) : Spec E := { ps := [.val (.int .i64)], rs := [.str], own := true, dp := false, R := R, fn := fun x => f x.1, res := fun r => (r, ()), out := fun r => ((), ()), shut := fun a b => a.1, res_shut := fun _ _ => rfl, out_shut := fun _ _ => rfl }
end spec_l00Digits
namespace spec_l00Digits
noncomputable def mb (N : Nat) (slf : Int → Option R) (a0 : Int) : Option R :=
  bif (a0 == (-9223372036854775808:Int)) then
    some (⟨#[45, 57, 50, 50, 51, 51, 55, 50, 48, 51, 54, 56, 53, 52, 55, 55, 53, 56, 48, 56]⟩ : ByteArray)
  else
  bif (decide (a0 < (0:Int))) then
    ob (slf (w64 (0 - a0))) fun y1 =>
    bif (decide ((⟨#[45]⟩ : ByteArray).size + y1.size ≤ 9223372036854775807)) then
    some ((⟨#[45]⟩ : ByteArray) ++ y1)
    else none
  else
  bif (decide (a0 < (10:Int))) then
    some (strOf ([(wu8 (w64 ((48:Int) + a0)))]))
  else
  bif (!decide ((10:Int) = 0)) then
  ob (slf (w64 (Int.tdiv a0 (10:Int)))) fun y2 =>
  bif (!decide ((10:Int) = 0)) then
  bif (decide (y2.size + (strOf ([(wu8 (w64 ((48:Int) + (Int.tmod a0 (10:Int)))))])).size ≤ 9223372036854775807)) then
  some (y2 ++ (strOf ([(wu8 (w64 ((48:Int) + (Int.tmod a0 (10:Int)))))])))
  else none
  else none
  else none
noncomputable def mF (N : Nat) : Nat → Int → Option R
  | 0 => fun _ => none
  | n + 1 => fun a0 => mb N (mF N n) a0
noncomputable def m (N : Nat) : Int → Option R := mF N N
@[reducible] noncomputable def sp (N : Nat) : Spec E := spf (m N)
end spec_l00Digits
/-! ### spec_l00Src_branch: (*loop.example/g00220/spec.l00Src).branch -/
namespace spec_l00Src_branch
abbrev R := Branch × l00Src
inductive A3 where
  | s0 (v0 : Int) (v1 : List Int) (v2 : Int) (v3 : Int) (v4 : ByteArray) (v5 : ByteArray) (v6 : Int) (v7 : ByteArray) (v8 : ByteArray) (v9 : Int)
  | s1 (v0 : Int) (v1 : List Int) (v2 : Int) (v3 : Int) (v4 : ByteArray) (v5 : ByteArray) (v6 : Int) (v7 : ByteArray) (v8 : ByteArray) (v9 : Int) (v10 : List Branch)
inductive A8 where
  | s0 (v0 : Int) (v1 : List Int) (v2 : Int) (v3 : Int) (v4 : ByteArray) (v5 : ByteArray) (v6 : Int) (v7 : ByteArray) (v8 : ByteArray) (v9 : Int)
  | s1 (v0 : Int) (v1 : List Int) (v2 : Int) (v3 : Int) (v4 : ByteArray) (v5 : ByteArray) (v6 : Int) (v7 : ByteArray) (v8 : ByteArray) (v9 : Int) (v10 : List Branch)
noncomputable def step3 (N : Nat) (a0 : l00Src) (lp8 : A8 → Option R) (rec : A3 → Option R) : A3 → Option R
  | .s0 v0 v1 v2 v3 v4 v5 v6 v7 v8 v9 =>
    bif (decide (v0 > (0:Int))) then
      ob (spec_l07Size.m N (Branch.mk v7 v8 v9 ([] : List Branch))) fun y3 =>
      bif (bif true then (decide (y3 < (40:Int))) else false) then
        ob (spec_l00Src_mapKey.m N (l00Src.mk v1 v2 v3)) fun y4 =>
        ob (spec_l00Src_datum.m N y4.2) fun y5 =>
        ob (spec_l07Put.m N (Branch.mk v7 v8 v9 ([] : List Branch)) y4.1 y5.1) fun y6 =>
        rec (.s1 (w64 (v0 - (1:Int))) y5.2.code y5.2.«at» y5.2.seed v4 v5 v6 y6.Key y6.Value y6.At y6.Kids)
      else
      ob (spec_l00Src_chance.m N (l00Src.mk v1 v2 v3) (40:Int)) fun y7 =>
      bif y7.1 then
        lp8 (.s0 (0:Int) y7.2.code y7.2.«at» y7.2.seed v4 v5 v6 v7 v8 v9)
      else
      ob (spec_l07Own.m N (Branch.mk v7 v8 v9 ([] : List Branch))) fun y8 =>
      some ((Branch.mk y8.Key y8.Value y8.At y8.Kids), y7.2)
    else
    ob (spec_l00Src_chance.m N (l00Src.mk v1 v2 v3) (40:Int)) fun y9 =>
    bif y9.1 then
      lp8 (.s0 (0:Int) y9.2.code y9.2.«at» y9.2.seed v4 v5 v6 v7 v8 v9)
    else
    ob (spec_l07Own.m N (Branch.mk v7 v8 v9 ([] : List Branch))) fun y10 =>
    some ((Branch.mk y10.Key y10.Value y10.At y10.Kids), y9.2)
  | .s1 v0 v1 v2 v3 v4 v5 v6 v7 v8 v9 v10 =>
    bif (decide (v0 > (0:Int))) then
      ob (spec_l07Size.m N (Branch.mk v7 v8 v9 v10)) fun y11 =>
      bif (bif true then (decide (y11 < (40:Int))) else false) then
        ob (spec_l00Src_mapKey.m N (l00Src.mk v1 v2 v3)) fun y12 =>
        ob (spec_l00Src_datum.m N y12.2) fun y13 =>
        ob (spec_l07Put.m N (Branch.mk v7 v8 v9 v10) y12.1 y13.1) fun y14 =>
        rec (.s1 (w64 (v0 - (1:Int))) y13.2.code y13.2.«at» y13.2.seed v4 v5 v6 y14.Key y14.Value y14.At y14.Kids)
      else
      ob (spec_l00Src_chance.m N (l00Src.mk v1 v2 v3) (40:Int)) fun y15 =>
      bif y15.1 then
        lp8 (.s1 (0:Int) y15.2.code y15.2.«at» y15.2.seed v4 v5 v6 v7 v8 v9 v10)
      else
      ob (spec_l07Own.m N (Branch.mk v7 v8 v9 v10)) fun y16 =>
      some ((Branch.mk y16.Key y16.Value y16.At y16.Kids), y15.2)
    else
    ob (spec_l00Src_chance.m N (l00Src.mk v1 v2 v3) (40:Int)) fun y17 =>
    bif y17.1 then
      lp8 (.s1 (0:Int) y17.2.code y17.2.«at» y17.2.seed v4 v5 v6 v7 v8 v9 v10)
    else
    ob (spec_l07Own.m N (Branch.mk v7 v8 v9 v10)) fun y18 =>
    some ((Branch.mk y18.Key y18.Value y18.At y18.Kids), y17.2)
noncomputable def step8 (N : Nat) (a0 : l00Src) (rec : A8 → Option R) : A8 → Option R
  | .s0 v0 v1 v2 v3 v4 v5 v6 v7 v8 v9 =>
    ob (spec_l07Size.m N (Branch.mk v7 v8 v9 ([] : List Branch))) fun y19 =>
    bif (decide (y19 < (40:Int))) then
      ob (spec_l00Digits.m N v0) fun y20 =>
      bif (decide ((⟨#[107]⟩ : ByteArray).size + y20.size ≤ 9223372036854775807)) then
      ob (spec_l07Put.m N (Branch.mk v7 v8 v9 ([] : List Branch)) ((⟨#[107]⟩ : ByteArray) ++ y20) (⟨#[118]⟩ : ByteArray)) fun y21 =>
      rec (.s1 (w64 (v0 + (1:Int))) v1 v2 v3 v4 v5 v6 y21.Key y21.Value y21.At y21.Kids)
      else none
    else
    ob (spec_l07Own.m N (Branch.mk v7 v8 v9 ([] : List Branch))) fun y22 =>
    some ((Branch.mk y22.Key y22.Value y22.At y22.Kids), (l00Src.mk v1 v2 v3))
  | .s1 v0 v1 v2 v3 v4 v5 v6 v7 v8 v9 v10 =>
    ob (spec_l07Size.m N (Branch.mk v7 v8 v9 v10)) fun y23 =>
    bif (decide (y23 < (40:Int))) then
      ob (spec_l00Digits.m N v0) fun y24 =>
      bif (decide ((⟨#[107]⟩ : ByteArray).size + y24.size ≤ 9223372036854775807)) then
      ob (spec_l07Put.m N (Branch.mk v7 v8 v9 v10) ((⟨#[107]⟩ : ByteArray) ++ y24) (⟨#[118]⟩ : ByteArray)) fun y25 =>
      rec (.s1 (w64 (v0 + (1:Int))) v1 v2 v3 v4 v5 v6 y25.Key y25.Value y25.At y25.Kids)
      else none
    else
    ob (spec_l07Own.m N (Branch.mk v7 v8 v9 v10)) fun y26 =>
    some ((Branch.mk y26.Key y26.Value y26.At y26.Kids), (l00Src.mk v1 v2 v3))
noncomputable def lp8 (N : Nat) (a0 : l00Src) : A8 → Option R :=
  miter (fun rec => step8 N a0 rec) N
noncomputable def lp3 (N : Nat) (a0 : l00Src) : A3 → Option R :=
  miter (fun rec => step3 N a0 (lp8 N a0) rec) N
noncomputable def m (N : Nat) (a0 : l00Src) : Option R :=
  ob (spec_l00Src_size_.m N a0 (12:Int)) fun y1 =>
  ob (spec_l00Src_next_.m N a0 (w64 (y1 + (3:Int)))) fun y2 =>
  lp3 N a0 (.s0 y2.1 y2.2.code y2.2.«at» y2.2.seed ByteArray.empty ByteArray.empty (0:Int) ByteArray.empty ByteArray.empty (0:Int))
@[reducible] noncomputable def sp (N : Nat) : Spec E := { ps := [.box true 65 65], rs := [(.st 25)], own := true, dp := true, R := R, fn := fun x => m N x.1, res := fun r => (r.1, ()), out := fun r => (r.2, ()), shut := fun a b => (a.1, b.1), res_shut := fun _ _ => rfl, out_shut := fun _ _ => rfl }
end spec_l00Src_branch
/-! ### spec_MapOf: loop.example/g00220/spec.MapOf -/
namespace spec_MapOf
abbrev R := Branch
noncomputable def m (N : Nat) (a0 : List Int) : Option R :=
  ob (spec_l00Source.m N a0) fun y1 =>
  ob (spec_l00Src_branch.m N (l00Src.mk y1.code y1.«at» y1.seed)) fun y2 =>
  some (Branch.mk y2.1.Key y2.1.Value y2.1.At y2.1.Kids)
@[reducible] noncomputable def sp (N : Nat) : Spec E := { ps := [.val (.slice 5 (.int .u8))], rs := [(.st 25)], own := true, dp := true, R := R, fn := fun x => m N x.1, res := fun r => (r, ()), out := fun r => ((), ()), shut := fun a b => a.1, res_shut := fun _ _ => rfl, out_shut := fun _ _ => rfl }
end spec_MapOf
/-! ### spec_MapKeyOf: loop.example/g00220/spec.MapKeyOf -/
namespace spec_MapKeyOf
abbrev R := ByteArray
noncomputable def m (N : Nat) (a0 : List Int) : Option R :=
  ob (spec_l00Source.m N a0) fun y1 =>
  ob (spec_l00Src_mapKey.m N y1) fun y2 =>
  some y2.1
@[reducible] noncomputable def sp (N : Nat) : Spec E := { ps := [.val (.slice 5 (.int .u8))], rs := [.str], own := true, dp := false, R := R, fn := fun x => m N x.1, res := fun r => (r, ()), out := fun r => ((), ()), shut := fun a b => a.1, res_shut := fun _ _ => rfl, out_shut := fun _ _ => rfl }
end spec_MapKeyOf
/-! ### impl_Branch_isEmpty: (loop.example/g00220/impl.Branch).isEmpty -/
namespace impl_Branch_isEmpty
abbrev R := Bool
noncomputable def m (N : Nat) (a0 : Branch) : Option R :=
  bif (seq a0.Key ByteArray.empty) then
    bif (bif true then (seq a0.Value ByteArray.empty) else false) then
      bif (bif true then (a0.At == (0:Int)) else false) then
        some (bif true then ((a0.Kids.length : Int) == (0:Int)) else false)
      else
      some false
    else
    some false
  else
  some false
@[reducible] noncomputable def sp (N : Nat) : Spec E := { ps := [.val (.st 25)], rs := [.bool], own := true, dp := false, R := R, fn := fun x => m N x.1, res := fun r => (r, ()), out := fun r => ((), ()), shut := fun a b => a.1, res_shut := fun _ _ => rfl, out_shut := fun _ _ => rfl }
end impl_Branch_isEmpty
/-! ### impl_within: loop.example/g00220/impl.within -/
namespace impl_within
abbrev R := Bool
noncomputable def m (N : Nat) (a0 : Int) (a1 : Int) (a2 : Int) : Option R :=
  bif (decide (a0 ≥ a1)) then
    some (bif true then (decide (a0 ≤ a2)) else false)
  else
  some false
@[reducible] noncomputable def sp (N : Nat) : Spec E := { ps := [.val (.int .i64), .val (.int .i64), .val (.int .i64)], rs := [.bool], own := true, dp := false, R := R, fn := fun x => m N x.1 x.2.1 x.2.2.1, res := fun r => (r, ()), out := fun r => ((), (), (), ()), shut := fun a b => a.1, res_shut := fun _ _ => rfl, out_shut := fun _ _ => rfl }
end impl_within
/-! ### impl_isKey: loop.example/g00220/impl.isKey -/
namespace impl_isKey
abbrev R := Bool
noncomputable def m (N : Nat) (a0 : ByteArray) : Option R :=
  ob (impl_within.m N (a0.size : Int) (1:Int) (24:Int)) fun y1 =>
  some y1
@[reducible] noncomputable def sp (N : Nat) : Spec E := { ps := [.val .str], rs := [.bool], own := true, dp := false, R := R, fn := fun x => m N x.1, res := fun r => (r, ()), out := fun r => ((), ()), shut := fun a b => a.1, res_shut := fun _ _ => rfl, out_shut := fun _ _ => rfl }
end impl_isKey
/-! ### impl_isValue: loop.example/g00220/impl.isValue -/
namespace impl_isValue
abbrev R := Bool
noncomputable def m (N : Nat) (a0 : ByteArray) : Option R :=
  some (decide ((a0.size : Int) ≤ (60:Int)))
@[reducible] noncomputable def sp (N : Nat) : Spec E := { ps := [.val .str], rs := [.bool], own := true, dp := false, R := R, fn := fun x => m N x.1, res := fun r => (r, ()), out := fun r => ((), ()), shut := fun a b => a.1, res_shut := fun _ _ => rfl, out_shut := fun _ _ => rfl }
end impl_isValue
/-! ### impl_Branch_isLeaf: (loop.example/g00220/impl.Branch).isLeaf -/
namespace impl_Branch_isLeaf
abbrev R := Bool
noncomputable def m (N : Nat) (a0 : Branch) : Option R :=
  bif (a0.At == (256:Int)) then
    ob (impl_isKey.m N a0.Key) fun y1 =>
    bif (bif true then y1 else false) then
      ob (impl_isValue.m N a0.Value) fun y2 =>
      bif (bif true then y2 else false) then
        some (bif true then ((a0.Kids.length : Int) == (0:Int)) else false)
      else
      some false
    else
    some false
  else
  some false
@[reducible] noncomputable def sp (N : Nat) : Spec E := { ps := [.val (.st 25)], rs := [.bool], own := true, dp := false, R := R, fn := fun x => m N x.1, res := fun r => (r, ()), out := fun r => ((), ()), shut := fun a b => a.1, res_shut := fun _ _ => rfl, out_shut := fun _ _ => rfl }
end impl_Branch_isLeaf
/-! ### strings_Repeat: strings.Repeat, by the shelf's contract -/
namespace strings_Repeat
abbrev R := ByteArray
def rep (s : ByteArray) (n : Nat) : ByteArray := ⟨((List.replicate n s.data.toList).flatten).toArray⟩
noncomputable def m (N : Nat) (a0 : ByteArray) (a1 : Int) : Option R :=
  bif decide (0 ≤ a1) && decide (a1 ≤ 9223372036854775807) && decide (a0.size * a1.toNat ≤ 140737488355328) then some (rep a0 a1.toNat) else none
@[reducible] noncomputable def sp (N : Nat) : Spec E := { ps := [.val .str, .val (.int .i64)], rs := [.str], own := true, dp := false, R := R, fn := fun x => m N x.1 x.2.1, res := fun r => (r, ()), out := fun r => ((), (), ()), shut := fun a b => a.1, res_shut := fun _ _ => rfl, out_shut := fun _ _ => rfl }
end strings_Repeat
/-! ### impl_number: loop.example/g00220/impl.number -/
namespace impl_number
abbrev R := ByteArray
noncomputable def step3 (N : Nat) (a0 : Int) (a1 : Int) (rec : (Int × Int × (List Int)) → Option R) : (Int × Int × (List Int)) → Option R
  | (v0, v1, v2) =>
    bif (decide (v1 ≥ (0:Int))) then
      bif (decide (0 ≤ v1)) then
      bif (decide (v1 < (v2.length : Int))) then
      bif (!decide ((8:Int) < 0)) then
      rec ((Int.fdiv v0 (2 ^ (min (Int.toNat (8:Int)) 64))), (w64 (v1 - (1:Int))), (v2.set (Int.toNat v1) (wu8 v0)))
      else none
      else none
      else none
    else
    some (strOf v2)
noncomputable def lp3 (N : Nat) (a0 : Int) (a1 : Int) : (Int × Int × (List Int)) → Option R :=
  miter (fun rec => step3 N a0 a1 rec) N
noncomputable def m (N : Nat) (a0 : Int) (a1 : Int) : Option R :=
  bif (decide (0 ≤ a1)) then
  bif (room (Int.toNat a1) 1) then
  lp3 N a0 a1 (a0, (w64 (a1 - (1:Int))), (List.replicate (Int.toNat a1) (0:Int)))
  else none
  else none
@[reducible] noncomputable def sp (N : Nat) : Spec E := { ps := [.val (.int .i64), .val (.int .i64)], rs := [.str], own := true, dp := false, R := R, fn := fun x => m N x.1 x.2.1, res := fun r => (r, ()), out := fun r => ((), (), ()), shut := fun a b => a.1, res_shut := fun _ _ => rfl, out_shut := fun _ _ => rfl }
end impl_number
/-! ### impl_hashWords: loop.example/g00220/impl.hashWords -/
namespace impl_hashWords
abbrev R := (List Int)
noncomputable def m (N : Nat) : Option R :=
  (let w1 : List Int := [(1779033703:Int), (3144134277:Int), (1013904242:Int), (2773480762:Int), (1359893119:Int), (2600822924:Int), (528734635:Int), (1541459225:Int)]
  some w1)
@[reducible] noncomputable def sp (N : Nat) : Spec E := { ps := [], rs := [(.arr .u32 8)], own := true, dp := false, R := R, fn := fun x => m N, res := fun r => (r, ()), out := fun r => (), shut := fun a b => a.1, res_shut := fun _ _ => rfl, out_shut := fun _ _ => rfl }
end impl_hashWords
/-! ### impl_roundWords: loop.example/g00220/impl.roundWords -/
namespace impl_roundWords
abbrev R := (List Int)
noncomputable def m (N : Nat) : Option R :=
  (let w1 : List Int := [(1116352408:Int), (1899447441:Int), (3049323471:Int), (3921009573:Int), (961987163:Int), (1508970993:Int), (2453635748:Int), (2870763221:Int), (3624381080:Int), (310598401:Int), (607225278:Int), (1426881987:Int), (1925078388:Int), (2162078206:Int), (2614888103:Int), (3248222580:Int), (3835390401:Int), (4022224774:Int), (264347078:Int), (604807628:Int), (770255983:Int), (1249150122:Int), (1555081692:Int), (1996064986:Int), (2554220882:Int), (2821834349:Int), (2952996808:Int), (3210313671:Int), (3336571891:Int), (3584528711:Int), (113926993:Int), (338241895:Int), (666307205:Int), (773529912:Int), (1294757372:Int), (1396182291:Int), (1695183700:Int), (1986661051:Int), (2177026350:Int), (2456956037:Int), (2730485921:Int), (2820302411:Int), (3259730800:Int), (3345764771:Int), (3516065817:Int), (3600352804:Int), (4094571909:Int), (275423344:Int), (430227734:Int), (506948616:Int), (659060556:Int), (883997877:Int), (958139571:Int), (1322822218:Int), (1537002063:Int), (1747873779:Int), (1955562222:Int), (2024104815:Int), (2227730452:Int), (2361852424:Int), (2428436474:Int), (2756734187:Int), (3204031479:Int), (3329325298:Int)]
  some w1)
@[reducible] noncomputable def sp (N : Nat) : Spec E := { ps := [], rs := [(.arr .u32 64)], own := true, dp := false, R := R, fn := fun x => m N, res := fun r => (r, ()), out := fun r => (), shut := fun a b => a.1, res_shut := fun _ _ => rfl, out_shut := fun _ _ => rfl }
end impl_roundWords
/-! ### math_bits_RotateLeft32: math/bits.RotateLeft32 -/
namespace math_bits_RotateLeft32
abbrev R := Int
noncomputable def m (N : Nat) (a0 : Int) (a1 : Int) : Option R :=
  bif (!decide ((ibit .and .u64 (wu64 a1) (31:Int)) < 0)) then
  bif (!decide ((wu64 ((32:Int) - (ibit .and .u64 (wu64 a1) (31:Int)))) < 0)) then
  (let w1 : Int := (ibit .or .u32 (wu32 (a0 * 2 ^ (min (Int.toNat (ibit .and .u64 (wu64 a1) (31:Int))) 32))) (Int.fdiv a0 (2 ^ (min (Int.toNat (wu64 ((32:Int) - (ibit .and .u64 (wu64 a1) (31:Int))))) 32))))
  some w1)
  else none
  else none
@[reducible] noncomputable def sp (N : Nat) : Spec E := { ps := [.val (.int .u32), .val (.int .i64)], rs := [(.int .u32)], own := true, dp := false, R := R, fn := fun x => m N x.1 x.2.1, res := fun r => (r, ()), out := fun r => ((), (), ()), shut := fun a b => a.1, res_shut := fun _ _ => rfl, out_shut := fun _ _ => rfl }
end math_bits_RotateLeft32
/-! ### impl_turned: loop.example/g00220/impl.turned -/
namespace impl_turned
abbrev R := Int
noncomputable def m (N : Nat) (a0 : Int) (a1 : Int) : Option R :=
  ob (math_bits_RotateLeft32.m N a0 (w64 (0 - a1))) fun y1 =>
  some y1
@[reducible] noncomputable def sp (N : Nat) : Spec E := { ps := [.val (.int .u32), .val (.int .i64)], rs := [(.int .u32)], own := true, dp := false, R := R, fn := fun x => m N x.1 x.2.1, res := fun r => (r, ()), out := fun r => ((), (), ()), shut := fun a b => a.1, res_shut := fun _ _ => rfl, out_shut := fun _ _ => rfl }
end impl_turned
end Mir.Y
