/- Models of functions. -/
import Derived.Test.YtojpcjbdehoibaaJM1
namespace Mir.Y
set_option linter.unusedVariables false
set_option maxRecDepth 10000
open Go Go.Proofs Mir
/-! ### impl_mapRoot: loop.example/g00220/impl.mapRoot -/
namespace impl_mapRoot
abbrev R := ByteArray
@[reducible] noncomputable def spf (f : Branch → Option R) : Spec E := { ps := [.val (.st 71)], rs := [.str], own := true, dp := false, R := R, fn := fun x => f x.1, res := fun r => (r, ()), out := fun r => ((), ()), shut := fun a b => a.1, res_shut := fun _ _ => rfl, out_shut := fun _ _ => rfl }
end impl_mapRoot
namespace impl_mapRoot
noncomputable def mb (N : Nat) (slf : Branch → Option R) (a0 : Branch) : Option R :=
  ob (impl_Branch_isEmpty.m N (Branch.mk a0.Key a0.Value a0.At a0.Kids)) fun y1 =>
  bif y1 then
    ob (impl_hash.m N (⟨#[2]⟩ : ByteArray)) fun y2 =>
    some y2
  else
  bif (a0.At == (256:Int)) then
    ob (impl_leafRoot.m N a0.Key a0.Value) fun y3 =>
    some y3
  else
  bif (decide (0 ≤ (0:Int))) then
  bif (decide ((0:Int) < (a0.Kids.length : Int))) then
  ob (slf (Branch.mk ((a0.Kids.getD 0 Branch.dz).Key) ((a0.Kids.getD 0 Branch.dz).Value) ((a0.Kids.getD 0 Branch.dz).At) ((a0.Kids.getD 0 Branch.dz).Kids))) fun y4 =>
  bif (decide (0 ≤ (1:Int))) then
  bif (decide ((1:Int) < (a0.Kids.length : Int))) then
  ob (slf (Branch.mk ((a0.Kids.getD 1 Branch.dz).Key) ((a0.Kids.getD 1 Branch.dz).Value) ((a0.Kids.getD 1 Branch.dz).At) ((a0.Kids.getD 1 Branch.dz).Kids))) fun y5 =>
  ob (impl_forkRoot.m N a0.At y4 y5) fun y6 =>
  some y6
  else none
  else none
  else none
  else none
noncomputable def mF (N : Nat) : Nat → Branch → Option R
  | 0 => fun _ => none
  | n + 1 => fun a0 => mb N (mF N n) a0
noncomputable def m (N : Nat) : Branch → Option R := mF N N
@[reducible] noncomputable def sp (N : Nat) : Spec E := spf (m N)
end impl_mapRoot
/-! ### impl_MapRoot: loop.example/g00220/impl.MapRoot -/
namespace impl_MapRoot
abbrev R := ByteArray × Int
noncomputable def m (N : Nat) (a0 : Branch) : Option R :=
  ob (impl_MapOK.m N (Branch.mk a0.Key a0.Value a0.At a0.Kids)) fun y1 =>
  bif (!y1) then
    some (ByteArray.empty, (1:Int))
  else
  ob (impl_mapRoot.m N (Branch.mk a0.Key a0.Value a0.At a0.Kids)) fun y2 =>
  some (y2, (0:Int))
@[reducible] noncomputable def sp (N : Nat) : Spec E := { ps := [.val (.st 71)], rs := [.str, (.int .i64)], own := true, dp := false, R := R, fn := fun x => m N x.1, res := fun r => (r.1, r.2, ()), out := fun r => ((), ()), shut := fun a b => (a.1, a.2.1), res_shut := fun _ _ => rfl, out_shut := fun _ _ => rfl }
end impl_MapRoot
/-! ### spec_l07Empty: loop.example/g00220/spec.l07Empty -/
namespace spec_l07Empty
abbrev R := Bool
noncomputable def m (N : Nat) (a0 : Branch) : Option R :=
  bif (seq a0.Key ByteArray.empty) then
    bif (bif true then (seq a0.Value ByteArray.empty) else false) then
      bif (bif true then (a0.At == (0:Int)) else false) then
        some (bif true then ((a0.Kids.length : Int) == (0:Int)) else false)
      else
      some false
    else
    some false
  else
  some false
@[reducible] noncomputable def sp (N : Nat) : Spec E := { ps := [.val (.st 71)], rs := [.bool], own := true, dp := false, R := R, fn := fun x => m N x.1, res := fun r => (r, ()), out := fun r => ((), ()), shut := fun a b => a.1, res_shut := fun _ _ => rfl, out_shut := fun _ _ => rfl }
end spec_l07Empty
/-! ### spec_l07Leaf: loop.example/g00220/spec.l07Leaf -/
namespace spec_l07Leaf
abbrev R := Bool
noncomputable def m (N : Nat) (a0 : Branch) : Option R :=
  some ((a0.Kids.length : Int) == (0:Int))
@[reducible] noncomputable def sp (N : Nat) : Spec E := { ps := [.val (.st 71)], rs := [.bool], own := true, dp := false, R := R, fn := fun x => m N x.1, res := fun r => (r, ()), out := fun r => ((), ()), shut := fun a b => a.1, res_shut := fun _ _ => rfl, out_shut := fun _ _ => rfl }
end spec_l07Leaf
/-! ### spec_l02Key: loop.example/g00220/spec.l02Key -/
namespace spec_l02Key
abbrev R := Bool
noncomputable def m (N : Nat) (a0 : ByteArray) : Option R :=
  bif (decide ((a0.size : Int) ≥ (1:Int))) then
    some (bif true then (decide ((a0.size : Int) ≤ (24:Int))) else false)
  else
  some false
@[reducible] noncomputable def sp (N : Nat) : Spec E := { ps := [.val .str], rs := [.bool], own := true, dp := false, R := R, fn := fun x => m N x.1, res := fun r => (r, ()), out := fun r => ((), ()), shut := fun a b => a.1, res_shut := fun _ _ => rfl, out_shut := fun _ _ => rfl }
end spec_l02Key
/-! ### spec_l01Consts: loop.example/g00220/spec.l01Consts -/
namespace spec_l01Consts
abbrev R := (List Int)
noncomputable def m (N : Nat) : Option R :=
  (let w1 : List Int := [(1116352408:Int), (1899447441:Int), (3049323471:Int), (3921009573:Int), (961987163:Int), (1508970993:Int), (2453635748:Int), (2870763221:Int), (3624381080:Int), (310598401:Int), (607225278:Int), (1426881987:Int), (1925078388:Int), (2162078206:Int), (2614888103:Int), (3248222580:Int), (3835390401:Int), (4022224774:Int), (264347078:Int), (604807628:Int), (770255983:Int), (1249150122:Int), (1555081692:Int), (1996064986:Int), (2554220882:Int), (2821834349:Int), (2952996808:Int), (3210313671:Int), (3336571891:Int), (3584528711:Int), (113926993:Int), (338241895:Int), (666307205:Int), (773529912:Int), (1294757372:Int), (1396182291:Int), (1695183700:Int), (1986661051:Int), (2177026350:Int), (2456956037:Int), (2730485921:Int), (2820302411:Int), (3259730800:Int), (3345764771:Int), (3516065817:Int), (3600352804:Int), (4094571909:Int), (275423344:Int), (430227734:Int), (506948616:Int), (659060556:Int), (883997877:Int), (958139571:Int), (1322822218:Int), (1537002063:Int), (1747873779:Int), (1955562222:Int), (2024104815:Int), (2227730452:Int), (2361852424:Int), (2428436474:Int), (2756734187:Int), (3204031479:Int), (3329325298:Int)]
  some w1)
@[reducible] noncomputable def sp (N : Nat) : Spec E := { ps := [], rs := [(.slice 208 (.int .u32))], own := true, dp := false, R := R, fn := fun x => m N, res := fun r => (r, ()), out := fun r => (), shut := fun a b => a.1, res_shut := fun _ _ => rfl, out_shut := fun _ _ => rfl }
end spec_l01Consts
/-! ### spec_l01Turn: loop.example/g00220/spec.l01Turn -/
namespace spec_l01Turn
abbrev R := Int
noncomputable def m (N : Nat) (a0 : Int) (a1 : Int) : Option R :=
  bif (!decide (a1 < 0)) then
  bif (!decide ((wu64 ((32:Int) - a1)) < 0)) then
  some (ibit .or .u32 (Int.fdiv a0 (2 ^ (min (Int.toNat a1) 32))) (wu32 (a0 * 2 ^ (min (Int.toNat (wu64 ((32:Int) - a1))) 32))))
  else none
  else none
@[reducible] noncomputable def sp (N : Nat) : Spec E := { ps := [.val (.int .u32), .val (.int .u64)], rs := [(.int .u32)], own := true, dp := false, R := R, fn := fun x => m N x.1 x.2.1, res := fun r => (r, ()), out := fun r => ((), (), ()), shut := fun a b => a.1, res_shut := fun _ _ => rfl, out_shut := fun _ _ => rfl }
end spec_l01Turn
/-! ### spec_l01Block: loop.example/g00220/spec.l01Block -/
namespace spec_l01Block
abbrev R := (List Int)
noncomputable def step2 (N : Nat) (a0 : List Int) (a1 : List Int) (a2 : List Int) (lp6 : Int × (List Int) → Option R) (rec : (Int × (List Int)) → Option R) : (Int × (List Int)) → Option R
  | (v2, v4) =>
    bif (decide (v2 < (16:Int))) then
      bif (decide (0 ≤ (w64 ((4:Int) * v2)))) then
      bif (decide ((w64 ((4:Int) * v2)) < (a1.length : Int))) then
      bif (!decide ((24:Int) < 0)) then
      bif (decide (0 ≤ (w64 ((w64 ((4:Int) * v2)) + (1:Int))))) then
      bif (decide ((w64 ((w64 ((4:Int) * v2)) + (1:Int))) < (a1.length : Int))) then
      bif (!decide ((16:Int) < 0)) then
      (let w1 : Int := (ibit .or .u32 (wu32 ((wu32 (a1.getD (Int.toNat (w64 ((4:Int) * v2))) (0:Int))) * 2 ^ (min (Int.toNat (24:Int)) 32))) (wu32 ((wu32 (a1.getD (Int.toNat (w64 ((w64 ((4:Int) * v2)) + (1:Int)))) (0:Int))) * 2 ^ (min (Int.toNat (16:Int)) 32))))
      bif (decide (0 ≤ (w64 ((w64 ((4:Int) * v2)) + (2:Int))))) then
      bif (decide ((w64 ((w64 ((4:Int) * v2)) + (2:Int))) < (a1.length : Int))) then
      bif (!decide ((8:Int) < 0)) then
      bif (decide (0 ≤ (w64 ((w64 ((4:Int) * v2)) + (3:Int))))) then
      bif (decide ((w64 ((w64 ((4:Int) * v2)) + (3:Int))) < (a1.length : Int))) then
      (let w2 : Int := (ibit .or .u32 (ibit .or .u32 w1 (wu32 ((wu32 (a1.getD (Int.toNat (w64 ((w64 ((4:Int) * v2)) + (2:Int)))) (0:Int))) * 2 ^ (min (Int.toNat (8:Int)) 32)))) (wu32 (a1.getD (Int.toNat (w64 ((w64 ((4:Int) * v2)) + (3:Int)))) (0:Int))))
      bif (decide (0 ≤ v2)) then
      bif (decide (v2 < (v4.length : Int))) then
      rec ((w64 (v2 + (1:Int))), (v4.set (Int.toNat v2) w2))
      else none
      else none)
      else none
      else none
      else none
      else none
      else none)
      else none
      else none
      else none
      else none
      else none
      else none
    else
    lp6 ((16:Int), v4)
noncomputable def step6 (N : Nat) (a0 : List Int) (a1 : List Int) (a2 : List Int) (lp13 : Int × (List Int) × (List Int) → Option R) (rec : (Int × (List Int)) → Option R) : (Int × (List Int)) → Option R
  | (v1, v3) =>
    bif (decide (v1 < (64:Int))) then
      bif (decide (0 ≤ (w64 (v1 - (15:Int))))) then
      bif (decide ((w64 (v1 - (15:Int))) < (v3.length : Int))) then
      bif (decide (0 ≤ (w64 (v1 - (2:Int))))) then
      bif (decide ((w64 (v1 - (2:Int))) < (v3.length : Int))) then
      bif (decide (0 ≤ (w64 (v1 - (16:Int))))) then
      bif (decide ((w64 (v1 - (16:Int))) < (v3.length : Int))) then
      ob (spec_l01Turn.m N (v3.getD (Int.toNat (w64 (v1 - (15:Int)))) (0:Int)) (7:Int)) fun y3 =>
      ob (spec_l01Turn.m N (v3.getD (Int.toNat (w64 (v1 - (15:Int)))) (0:Int)) (18:Int)) fun y4 =>
      bif (!decide ((3:Int) < 0)) then
      (let w5 : Int := (wu32 ((v3.getD (Int.toNat (w64 (v1 - (16:Int)))) (0:Int)) + (ibit .xor .u32 (ibit .xor .u32 y3 y4) (Int.fdiv (v3.getD (Int.toNat (w64 (v1 - (15:Int)))) (0:Int)) (2 ^ (min (Int.toNat (3:Int)) 32))))))
      bif (decide (0 ≤ (w64 (v1 - (7:Int))))) then
      bif (decide ((w64 (v1 - (7:Int))) < (v3.length : Int))) then
      ob (spec_l01Turn.m N (v3.getD (Int.toNat (w64 (v1 - (2:Int)))) (0:Int)) (17:Int)) fun y6 =>
      ob (spec_l01Turn.m N (v3.getD (Int.toNat (w64 (v1 - (2:Int)))) (0:Int)) (19:Int)) fun y7 =>
      bif (!decide ((10:Int) < 0)) then
      (let w8 : Int := (wu32 ((wu32 (w5 + (v3.getD (Int.toNat (w64 (v1 - (7:Int)))) (0:Int)))) + (ibit .xor .u32 (ibit .xor .u32 y6 y7) (Int.fdiv (v3.getD (Int.toNat (w64 (v1 - (2:Int)))) (0:Int)) (2 ^ (min (Int.toNat (10:Int)) 32))))))
      bif (decide (0 ≤ v1)) then
      bif (decide (v1 < (v3.length : Int))) then
      rec ((w64 (v1 + (1:Int))), (v3.set (Int.toNat v1) w8))
      else none
      else none)
      else none
      else none
      else none)
      else none
      else none
      else none
      else none
      else none
      else none
      else none
    else
    bif (room (([] : List Int).length + a0.length) 4) then
    lp13 ((0:Int), v3, (([] : List Int) ++ a0))
    else none
noncomputable def step13 (N : Nat) (a0 : List Int) (a1 : List Int) (a2 : List Int) (lp21 : Int × (List Int) × (List Int) → Option R) (rec : (Int × (List Int) × (List Int)) → Option R) : (Int × (List Int) × (List Int)) → Option R
  | (v1, v3, v4) =>
    bif (decide (v1 < (64:Int))) then
      bif (decide (0 ≤ (4:Int))) then
      bif (decide ((4:Int) < (v4.length : Int))) then
      bif (decide (0 ≤ (0:Int))) then
      bif (decide ((0:Int) < (v4.length : Int))) then
      bif (decide (0 ≤ (7:Int))) then
      bif (decide ((7:Int) < (v4.length : Int))) then
      ob (spec_l01Turn.m N (v4.getD 4 (0:Int)) (6:Int)) fun y9 =>
      ob (spec_l01Turn.m N (v4.getD 4 (0:Int)) (11:Int)) fun y10 =>
      ob (spec_l01Turn.m N (v4.getD 4 (0:Int)) (25:Int)) fun y11 =>
      bif (decide (0 ≤ (5:Int))) then
      bif (decide ((5:Int) < (v4.length : Int))) then
      bif (decide (0 ≤ (6:Int))) then
      bif (decide ((6:Int) < (v4.length : Int))) then
      (let w12 : Int := (ibit .xor .u32 (ibit .and .u32 (v4.getD 4 (0:Int)) (v4.getD 5 (0:Int))) (ibit .and .u32 (ibit .xor .u32 (if IntKind.signed .u32 then -1 else IntKind.max .u32) (v4.getD 4 (0:Int))) (v4.getD 6 (0:Int))))
      bif (decide (0 ≤ v1)) then
      bif (decide (v1 < (a2.length : Int))) then
      bif (decide (0 ≤ v1)) then
      bif (decide (v1 < (v3.length : Int))) then
      (let w13 : Int := (wu32 ((wu32 ((wu32 ((wu32 ((v4.getD 7 (0:Int)) + (ibit .xor .u32 (ibit .xor .u32 y9 y10) y11))) + w12)) + (a2.getD (Int.toNat v1) (0:Int)))) + (v3.getD (Int.toNat v1) (0:Int))))
      ob (spec_l01Turn.m N (v4.getD 0 (0:Int)) (2:Int)) fun y14 =>
      ob (spec_l01Turn.m N (v4.getD 0 (0:Int)) (13:Int)) fun y15 =>
      ob (spec_l01Turn.m N (v4.getD 0 (0:Int)) (22:Int)) fun y16 =>
      bif (decide (0 ≤ (1:Int))) then
      bif (decide ((1:Int) < (v4.length : Int))) then
      bif (decide (0 ≤ (2:Int))) then
      bif (decide ((2:Int) < (v4.length : Int))) then
      bif (decide (0 ≤ (1:Int))) then
      bif (decide ((1:Int) < (v4.length : Int))) then
      bif (decide (0 ≤ (2:Int))) then
      bif (decide ((2:Int) < (v4.length : Int))) then
      (let w17 : Int := (ibit .xor .u32 (ibit .xor .u32 (ibit .and .u32 (v4.getD 0 (0:Int)) (v4.getD 1 (0:Int))) (ibit .and .u32 (v4.getD 0 (0:Int)) (v4.getD 2 (0:Int)))) (ibit .and .u32 (v4.getD 1 (0:Int)) (v4.getD 2 (0:Int))))
      bif (decide (0 ≤ (0:Int))) then
      bif (decide ((0:Int) < (v4.length : Int))) then
      bif (decide (0 ≤ (1:Int))) then
      bif (decide ((1:Int) < (v4.length : Int))) then
      bif (decide (0 ≤ (2:Int))) then
      bif (decide ((2:Int) < (v4.length : Int))) then
      bif (decide (0 ≤ (3:Int))) then
      bif (decide ((3:Int) < (v4.length : Int))) then
      bif (decide (0 ≤ (4:Int))) then
      bif (decide ((4:Int) < (v4.length : Int))) then
      bif (decide (0 ≤ (5:Int))) then
      bif (decide ((5:Int) < (v4.length : Int))) then
      bif (decide (0 ≤ (6:Int))) then
      bif (decide ((6:Int) < (v4.length : Int))) then
      (let w18 : List Int := [(wu32 (w13 + (wu32 ((ibit .xor .u32 (ibit .xor .u32 y14 y15) y16) + w17)))), (v4.getD 0 (0:Int)), (v4.getD 1 (0:Int)), (v4.getD 2 (0:Int)), (wu32 ((v4.getD 3 (0:Int)) + w13)), (v4.getD 4 (0:Int)), (v4.getD 5 (0:Int)), (v4.getD 6 (0:Int))]
      rec ((w64 (v1 + (1:Int))), v3, w18))
      else none
      else none
      else none
      else none
      else none
      else none
      else none
      else none
      else none
      else none
      else none
      else none
      else none
      else none)
      else none
      else none
      else none
      else none
      else none
      else none
      else none
      else none)
      else none
      else none
      else none
      else none)
      else none
      else none
      else none
      else none
      else none
      else none
      else none
      else none
      else none
      else none
    else
    lp21 ((0:Int), a0, v4)
noncomputable def step21 (N : Nat) (a0 : List Int) (a1 : List Int) (a2 : List Int) (rec : (Int × (List Int) × (List Int)) → Option R) : (Int × (List Int) × (List Int)) → Option R
  | (v0, v1, v2) =>
    bif (decide (v0 < (8:Int))) then
      bif (decide (0 ≤ v0)) then
      bif (decide (v0 < (v1.length : Int))) then
      bif (decide (0 ≤ v0)) then
      bif (decide (v0 < (v2.length : Int))) then
      bif (decide (0 ≤ v0)) then
      bif (decide (v0 < (v1.length : Int))) then
      rec ((w64 (v0 + (1:Int))), (v1.set (Int.toNat v0) (wu32 ((v1.getD (Int.toNat v0) (0:Int)) + (v2.getD (Int.toNat v0) (0:Int))))), v2)
      else none
      else none
      else none
      else none
      else none
      else none
    else
    some v1
noncomputable def lp21 (N : Nat) (a0 : List Int) (a1 : List Int) (a2 : List Int) : (Int × (List Int) × (List Int)) → Option R :=
  miter (fun rec => step21 N a0 a1 a2 rec) N
noncomputable def lp13 (N : Nat) (a0 : List Int) (a1 : List Int) (a2 : List Int) : (Int × (List Int) × (List Int)) → Option R :=
  miter (fun rec => step13 N a0 a1 a2 (lp21 N a0 a1 a2) rec) N
noncomputable def lp6 (N : Nat) (a0 : List Int) (a1 : List Int) (a2 : List Int) : (Int × (List Int)) → Option R :=
  miter (fun rec => step6 N a0 a1 a2 (lp13 N a0 a1 a2) rec) N
noncomputable def lp2 (N : Nat) (a0 : List Int) (a1 : List Int) (a2 : List Int) : (Int × (List Int)) → Option R :=
  miter (fun rec => step2 N a0 a1 a2 (lp6 N a0 a1 a2) rec) N
noncomputable def m (N : Nat) (a0 : List Int) (a1 : List Int) (a2 : List Int) : Option R :=
  bif (decide (0 ≤ (64:Int))) then
  bif (room 64 4) then
  lp2 N a0 a1 a2 ((0:Int), (List.replicate 64 (0:Int)))
  else none
  else none
@[reducible] noncomputable def sp (N : Nat) : Spec E := { ps := [.mut false (.slice 208 (.int .u32)), .val (.slice 5 (.int .u8)), .val (.slice 208 (.int .u32))], rs := [], own := true, dp := false, R := R, fn := fun x => m N x.1 x.2.1 x.2.2.1, res := fun r => (), out := fun r => (r, (), (), ()), shut := fun a b => b.1, res_shut := fun _ _ => rfl, out_shut := fun _ _ => rfl }
end spec_l01Block
/-! ### spec_l01Hash: loop.example/g00220/spec.l01Hash -/
namespace spec_l01Hash
abbrev R := ByteArray
noncomputable def step3 (N : Nat) (a0 : List Int) (lp6 : Int × (List Int) × (List Int) → Option R) (rec : ((List Int) × (List Int)) → Option R) : ((List Int) × (List Int)) → Option R
  | (v1, v2) =>
    bif (!decide ((64:Int) = 0)) then
    bif ((Int.tmod (v2.length : Int) (64:Int)) != (56:Int)) then
      bif (room (v2.length + ([(0:Int)]).length) 1) then
      rec (v1, (v2 ++ [(0:Int)]))
      else none
    else
    lp6 ((7:Int), v1, v2)
    else none
noncomputable def step6 (N : Nat) (a0 : List Int) (lp11 : Int × (List Int) × (List Int) × (List Int) → Option R) (rec : (Int × (List Int) × (List Int)) → Option R) : (Int × (List Int) × (List Int)) → Option R
  | (v1, v2, v3) =>
    bif (decide (v1 ≥ (0:Int))) then
      bif (!decide ((wu64 (w64 ((8:Int) * v1))) < 0)) then
      bif (room (v3.length + ([(wu8 (Int.fdiv (w64 ((8:Int) * (a0.length : Int))) (2 ^ (min (Int.toNat (wu64 (w64 ((8:Int) * v1)))) 64))))]).length) 1) then
      rec ((w64 (v1 - (1:Int))), v2, (v3 ++ [(wu8 (Int.fdiv (w64 ((8:Int) * (a0.length : Int))) (2 ^ (min (Int.toNat (wu64 (w64 ((8:Int) * v1)))) 64))))]))
      else none
      else none
    else
    ob (spec_l01Consts.m N) fun y2 =>
    lp11 ((0:Int), v2, v3, y2)
noncomputable def step11 (N : Nat) (a0 : List Int) (lp16 : Int × (List Int) × (List Int) → Option R) (rec : (Int × (List Int) × (List Int) × (List Int)) → Option R) : (Int × (List Int) × (List Int) × (List Int)) → Option R
  | (v0, v1, v2, v3) =>
    bif (decide (v0 < (v2.length : Int))) then
      bif (decide (0 ≤ (w64 (v0 + (64:Int))))) then
      bif (decide ((w64 (v0 + (64:Int))) ≤ ((v2.length : Nat) : Int))) then
      bif (decide (0 ≤ v0)) then
      bif (decide (v0 ≤ (((Int.toNat (w64 (v0 + (64:Int)))) : Nat) : Int))) then
      bif (decide ((Int.toNat v0) + ((Int.toNat (w64 (v0 + (64:Int)))) - (Int.toNat v0)) ≤ v2.length)) then
      ob (spec_l01Block.m N v1 ((v2.drop (Int.toNat v0)).take ((Int.toNat (w64 (v0 + (64:Int)))) - (Int.toNat v0))) v3) fun y3 =>
      rec ((w64 (v0 + (64:Int))), y3, v2, v3)
      else none
      else none
      else none
      else none
      else none
    else
    lp16 ((0:Int), v1, ([] : List Int))
noncomputable def step16 (N : Nat) (a0 : List Int) (rec : (Int × (List Int) × (List Int)) → Option R) : (Int × (List Int) × (List Int)) → Option R
  | (v0, v1, v2) =>
    bif (decide (v0 < (8:Int))) then
      bif (decide (0 ≤ v0)) then
      bif (decide (v0 < (v1.length : Int))) then
      bif (!decide ((24:Int) < 0)) then
      bif (decide (0 ≤ v0)) then
      bif (decide (v0 < (v1.length : Int))) then
      bif (!decide ((16:Int) < 0)) then
      bif (decide (0 ≤ v0)) then
      bif (decide (v0 < (v1.length : Int))) then
      bif (!decide ((8:Int) < 0)) then
      bif (decide (0 ≤ v0)) then
      bif (decide (v0 < (v1.length : Int))) then
      (let w4 : List Int := [(wu8 (Int.fdiv (v1.getD (Int.toNat v0) (0:Int)) (2 ^ (min (Int.toNat (24:Int)) 32)))), (wu8 (Int.fdiv (v1.getD (Int.toNat v0) (0:Int)) (2 ^ (min (Int.toNat (16:Int)) 32)))), (wu8 (Int.fdiv (v1.getD (Int.toNat v0) (0:Int)) (2 ^ (min (Int.toNat (8:Int)) 32)))), (wu8 (v1.getD (Int.toNat v0) (0:Int)))]
      bif (room (v2.length + w4.length) 1) then
      rec ((w64 (v0 + (1:Int))), v1, (v2 ++ w4))
      else none)
      else none
      else none
      else none
      else none
      else none
      else none
      else none
      else none
      else none
      else none
      else none
    else
    some (strOf v2)
noncomputable def lp16 (N : Nat) (a0 : List Int) : (Int × (List Int) × (List Int)) → Option R :=
  miter (fun rec => step16 N a0 rec) N
noncomputable def lp11 (N : Nat) (a0 : List Int) : (Int × (List Int) × (List Int) × (List Int)) → Option R :=
  miter (fun rec => step11 N a0 (lp16 N a0) rec) N
noncomputable def lp6 (N : Nat) (a0 : List Int) : (Int × (List Int) × (List Int)) → Option R :=
  miter (fun rec => step6 N a0 (lp11 N a0) rec) N
noncomputable def lp3 (N : Nat) (a0 : List Int) : ((List Int) × (List Int)) → Option R :=
  miter (fun rec => step3 N a0 (lp6 N a0) rec) N
noncomputable def m (N : Nat) (a0 : List Int) : Option R :=
  (let w1 : List Int := [(1779033703:Int), (3144134277:Int), (1013904242:Int), (2773480762:Int), (1359893119:Int), (2600822924:Int), (528734635:Int), (1541459225:Int)]
  bif (room (([] : List Int).length + a0.length) 1) then
  bif (room ((([] : List Int) ++ a0).length + ([(128:Int)]).length) 1) then
  lp3 N a0 (w1, ((([] : List Int) ++ a0) ++ [(128:Int)]))
  else none
  else none)
@[reducible] noncomputable def sp (N : Nat) : Spec E := { ps := [.val (.slice 5 (.int .u8))], rs := [.str], own := true, dp := false, R := R, fn := fun x => m N x.1, res := fun r => (r, ()), out := fun r => ((), ()), shut := fun a b => a.1, res_shut := fun _ _ => rfl, out_shut := fun _ _ => rfl }
end spec_l01Hash
/-! ### spec_l07Hash: loop.example/g00220/spec.l07Hash -/
namespace spec_l07Hash
abbrev R := ByteArray
noncomputable def m (N : Nat) (a0 : ByteArray) : Option R :=
  bif (room a0.size 1) then
  ob (spec_l01Hash.m N (bytesOf a0)) fun y1 =>
  some y1
  else none
@[reducible] noncomputable def sp (N : Nat) : Spec E := { ps := [.val .str], rs := [.str], own := true, dp := false, R := R, fn := fun x => m N x.1, res := fun r => (r, ()), out := fun r => ((), ()), shut := fun a b => a.1, res_shut := fun _ _ => rfl, out_shut := fun _ _ => rfl }
end spec_l07Hash
/-! ### spec_l01Bits: loop.example/g00220/spec.l01Bits -/
namespace spec_l01Bits
abbrev R := ByteArray
noncomputable def step3 (N : Nat) (a0 : ByteArray) (lp6 : Int × Int × (List Int) → Option R) (rec : (Int × (List Int)) → Option R) : (Int × (List Int)) → Option R
  | (v1, v2) =>
    bif (decide (v1 < (a0.size : Int))) then
      lp6 (v1, (7:Int), v2)
    else
    some (strOf v2)
noncomputable def step6 (N : Nat) (a0 : ByteArray) (lp3 : Int × (List Int) → Option R) (rec : (Int × Int × (List Int)) → Option R) : (Int × Int × (List Int)) → Option R
  | (v1, v2, v3) =>
    bif (decide (v2 ≥ (0:Int))) then
      bif (decide (0 ≤ v1)) then
      bif (decide (v1 < (a0.size : Int))) then
      bif (!decide ((wu64 v2) < 0)) then
      bif (room (v3.length + ([(wu8 ((48:Int) + (ibit .and .u8 (Int.fdiv (sb a0 v1) (2 ^ (min (Int.toNat (wu64 v2)) 8))) (1:Int))))]).length) 1) then
      rec (v1, (w64 (v2 - (1:Int))), (v3 ++ [(wu8 ((48:Int) + (ibit .and .u8 (Int.fdiv (sb a0 v1) (2 ^ (min (Int.toNat (wu64 v2)) 8))) (1:Int))))]))
      else none
      else none
      else none
      else none
    else
    lp3 ((w64 (v1 + (1:Int))), v3)
noncomputable def lp6 (N : Nat) (a0 : ByteArray) (r3 : Int × (List Int) → Option R) : (Int × Int × (List Int)) → Option R :=
  miter (fun rec => step6 N a0 r3 rec) N
noncomputable def lp3 (N : Nat) (a0 : ByteArray) : (Int × (List Int)) → Option R :=
  miter (fun rec => step3 N a0 (lp6 N a0 rec) rec) N
noncomputable def m (N : Nat) (a0 : ByteArray) : Option R :=
  lp3 N a0 ((0:Int), ([] : List Int))
@[reducible] noncomputable def sp (N : Nat) : Spec E := { ps := [.val .str], rs := [.str], own := true, dp := false, R := R, fn := fun x => m N x.1, res := fun r => (r, ()), out := fun r => ((), ()), shut := fun a b => a.1, res_shut := fun _ _ => rfl, out_shut := fun _ _ => rfl }
end spec_l01Bits
/-! ### spec_l01In: loop.example/g00220/spec.l01In -/
namespace spec_l01In
abbrev R := Bool
noncomputable def m (N : Nat) (a0 : Int) (a1 : Int) (a2 : Int) : Option R :=
  bif (decide (a0 ≥ a1)) then
    some (bif true then (decide (a0 ≤ a2)) else false)
  else
  some false
@[reducible] noncomputable def sp (N : Nat) : Spec E := { ps := [.val (.int .i64), .val (.int .i64), .val (.int .i64)], rs := [.bool], own := true, dp := false, R := R, fn := fun x => m N x.1 x.2.1 x.2.2.1, res := fun r => (r, ()), out := fun r => ((), (), (), ()), shut := fun a b => a.1, res_shut := fun _ _ => rfl, out_shut := fun _ _ => rfl }
end spec_l01In
/-! ### spec_l07Count: loop.example/g00220/spec.l07Count -/
namespace spec_l07Count
abbrev R := Int
@[reducible] noncomputable def spf (f : Branch → Int → ByteArray → Int → Option R) : Spec E := { ps := [.val (.st 71), .val (.int .i64), .val .str, .val (.int .i64)], rs := [(.int .i64)], own := true, dp := false, R := R, fn := fun x => f x.1 x.2.1 x.2.2.1 x.2.2.2.1, res := fun r => (r, ()), out := fun r => ((), (), (), (), ()), shut := fun a b => a.1, res_shut := fun _ _ => rfl, out_shut := fun _ _ => rfl }
end spec_l07Count
namespace spec_l07Count
noncomputable def step11 (N : Nat) (slf : Branch → Int → ByteArray → Int → Option R) (a0 : Branch) (a1 : Int) (a2 : ByteArray) (a3 : Int) (lp21 : ByteArray × Int × Int → Option R) (rec : (Int × ByteArray × ByteArray × Int × (List Branch)) → Option R) : (Int × ByteArray × ByteArray × Int × (List Branch)) → Option R
  | (v2, v7, v8, v9, v10) =>
    bif (decide (v2 < (256:Int))) then
      ob (spec_l07Leaf.m N (Branch.mk v7 v8 v9 v10)) fun y6 =>
      bif (bif true then (!y6) else false) then
        bif (decide (0 ≤ (0:Int))) then
        bif (decide ((0:Int) < (v10.length : Int))) then
        rec ((w64 (v2 + (1:Int))), (v10.getD 0 Branch.dz).Key, (v10.getD 0 Branch.dz).Value, (v10.getD 0 Branch.dz).At, (v10.getD 0 Branch.dz).Kids)
        else none
        else none
      else
      ob (spec_l07Leaf.m N (Branch.mk v7 v8 v9 v10)) fun y7 =>
      bif (!y7) then
        some (-1:Int)
      else
      ob (spec_l02Key.m N v7) fun y8 =>
      bif (bif false then true else (!y8)) then
        some (-1:Int)
      else
      ob (spec_l07Hash.m N v7) fun y9 =>
      ob (spec_l01Bits.m N y9) fun y10 =>
      bif (decide (0 ≤ a0.At)) then
      bif (decide (a0.At ≤ ((y10.size : Nat) : Int))) then
      bif (decide ((a2.size : Int) > ((y10.extract 0 (Int.toNat a0.At)).size : Int))) then
        some (-1:Int)
      else
      bif (decide (0 ≤ (a2.size : Int))) then
      bif (decide ((a2.size : Int) ≤ (((y10.extract 0 (Int.toNat a0.At)).size : Nat) : Int))) then
      bif (bif false then true else (!seq ((y10.extract 0 (Int.toNat a0.At)).extract 0 (Int.toNat (a2.size : Int))) a2)) then
        some (-1:Int)
      else
      lp21 ((y10.extract 0 (Int.toNat a0.At)), (0:Int), (0:Int))
      else none
      else none
      else none
      else none
    else
    ob (spec_l07Leaf.m N (Branch.mk v7 v8 v9 v10)) fun y11 =>
    bif (!y11) then
      some (-1:Int)
    else
    ob (spec_l02Key.m N v7) fun y12 =>
    bif (bif false then true else (!y12)) then
      some (-1:Int)
    else
    ob (spec_l07Hash.m N v7) fun y13 =>
    ob (spec_l01Bits.m N y13) fun y14 =>
    bif (decide (0 ≤ a0.At)) then
    bif (decide (a0.At ≤ ((y14.size : Nat) : Int))) then
    bif (decide ((a2.size : Int) > ((y14.extract 0 (Int.toNat a0.At)).size : Int))) then
      some (-1:Int)
    else
    bif (decide (0 ≤ (a2.size : Int))) then
    bif (decide ((a2.size : Int) ≤ (((y14.extract 0 (Int.toNat a0.At)).size : Nat) : Int))) then
    bif (bif false then true else (!seq ((y14.extract 0 (Int.toNat a0.At)).extract 0 (Int.toNat (a2.size : Int))) a2)) then
      some (-1:Int)
    else
    lp21 ((y14.extract 0 (Int.toNat a0.At)), (0:Int), (0:Int))
    else none
    else none
    else none
    else none
noncomputable def step21 (N : Nat) (slf : Branch → Int → ByteArray → Int → Option R) (a0 : Branch) (a1 : Int) (a2 : ByteArray) (a3 : Int) (rec : (ByteArray × Int × Int) → Option R) : (ByteArray × Int × Int) → Option R
  | (v1, v2, v3) =>
    bif (decide (v3 < (2:Int))) then
      bif (decide (0 ≤ v3)) then
      bif (decide (v3 < (a0.Kids.length : Int))) then
      bif (decide (v1.size + (strOf ([(wu8 ((48:Int) + (wu8 v3)))])).size ≤ 9223372036854775807)) then
      ob (slf (Branch.mk ((a0.Kids.getD (Int.toNat v3) Branch.dz).Key) ((a0.Kids.getD (Int.toNat v3) Branch.dz).Value) ((a0.Kids.getD (Int.toNat v3) Branch.dz).At) ((a0.Kids.getD (Int.toNat v3) Branch.dz).Kids)) (w64 (a0.At + (1:Int))) (v1 ++ (strOf ([(wu8 ((48:Int) + (wu8 v3)))]))) (w64 (a3 - v2))) fun y15 =>
      bif (decide (y15 < (0:Int))) then
        some (-1:Int)
      else
      rec (v1, (w64 (v2 + y15)), (w64 (v3 + (1:Int))))
      else none
      else none
      else none
    else
    some v2
noncomputable def lp21 (N : Nat) (slf : Branch → Int → ByteArray → Int → Option R) (a0 : Branch) (a1 : Int) (a2 : ByteArray) (a3 : Int) : (ByteArray × Int × Int) → Option R :=
  miter (fun rec => step21 N slf a0 a1 a2 a3 rec) N
noncomputable def lp11 (N : Nat) (slf : Branch → Int → ByteArray → Int → Option R) (a0 : Branch) (a1 : Int) (a2 : ByteArray) (a3 : Int) : (Int × ByteArray × ByteArray × Int × (List Branch)) → Option R :=
  miter (fun rec => step11 N slf a0 a1 a2 a3 (lp21 N slf a0 a1 a2 a3) rec) N
noncomputable def mb (N : Nat) (slf : Branch → Int → ByteArray → Int → Option R) (a0 : Branch) (a1 : Int) (a2 : ByteArray) (a3 : Int) : Option R :=
  bif (decide (a3 < (1:Int))) then
    some (-1:Int)
  else
  ob (spec_l07Leaf.m N (Branch.mk a0.Key a0.Value a0.At a0.Kids)) fun y1 =>
  bif y1 then
    ob (spec_l02Key.m N a0.Key) fun y2 =>
    bif (!y2) then
      some (-1:Int)
    else
    bif (bif false then true else (decide ((a0.Value.size : Int) > (60:Int)))) then
      some (-1:Int)
    else
    bif (bif false then true else (a0.At != (256:Int))) then
      some (-1:Int)
    else
    ob (spec_l07Hash.m N a0.Key) fun y3 =>
    ob (spec_l01Bits.m N y3) fun y4 =>
    bif (decide (0 ≤ (a2.size : Int))) then
    bif (decide ((a2.size : Int) ≤ ((y4.size : Nat) : Int))) then
    bif (bif false then true else (!seq (y4.extract 0 (Int.toNat (a2.size : Int))) a2)) then
      some (-1:Int)
    else
    some (1:Int)
    else none
    else none
  else
  bif ((a0.Kids.length : Int) != (2:Int)) then
    some (-1:Int)
  else
  bif (bif false then true else (!seq a0.Key ByteArray.empty)) then
    some (-1:Int)
  else
  bif (bif false then true else (!seq a0.Value ByteArray.empty)) then
    some (-1:Int)
  else
  ob (spec_l01In.m N a0.At a1 (255:Int)) fun y5 =>
  bif (bif false then true else (!y5)) then
    some (-1:Int)
  else
  bif (decide (0 ≤ (0:Int))) then
  bif (decide ((0:Int) < (a0.Kids.length : Int))) then
  lp11 N slf a0 a1 a2 a3 ((0:Int), (a0.Kids.getD 0 Branch.dz).Key, (a0.Kids.getD 0 Branch.dz).Value, (a0.Kids.getD 0 Branch.dz).At, (a0.Kids.getD 0 Branch.dz).Kids)
  else none
  else none
noncomputable def mF (N : Nat) : Nat → Branch → Int → ByteArray → Int → Option R
  | 0 => fun _ _ _ _ => none
  | n + 1 => fun a0 a1 a2 a3 => mb N (mF N n) a0 a1 a2 a3
noncomputable def m (N : Nat) : Branch → Int → ByteArray → Int → Option R := mF N N
@[reducible] noncomputable def sp (N : Nat) : Spec E := spf (m N)
end spec_l07Count
/-! ### spec_MapOK: loop.example/g00220/spec.MapOK -/
namespace spec_MapOK
abbrev R := Bool
noncomputable def m (N : Nat) (a0 : Branch) : Option R :=
  ob (spec_l07Empty.m N (Branch.mk a0.Key a0.Value a0.At a0.Kids)) fun y1 =>
  bif y1 then
    some true
  else
  ob (spec_l07Count.m N (Branch.mk a0.Key a0.Value a0.At a0.Kids) (0:Int) ByteArray.empty (40:Int)) fun y2 =>
  some (bif false then true else (decide (y2 > (0:Int))))
@[reducible] noncomputable def sp (N : Nat) : Spec E := { ps := [.val (.st 71)], rs := [.bool], own := true, dp := false, R := R, fn := fun x => m N x.1, res := fun r => (r, ()), out := fun r => ((), ()), shut := fun a b => a.1, res_shut := fun _ _ => rfl, out_shut := fun _ _ => rfl }
end spec_MapOK
/-! ### spec_l07LeafHash: loop.example/g00220/spec.l07LeafHash -/
namespace spec_l07LeafHash
abbrev R := ByteArray
noncomputable def m (N : Nat) (a0 : ByteArray) (a1 : ByteArray) : Option R :=
  bif (room (([(0:Int), (wu8 (a0.size : Int))]).length + (bytesOf a0).length) 1) then
  bif (room (([(0:Int), (wu8 (a0.size : Int))] ++ (bytesOf a0)).length + (bytesOf a1).length) 1) then
  ob (spec_l01Hash.m N (([(0:Int), (wu8 (a0.size : Int))] ++ (bytesOf a0)) ++ (bytesOf a1))) fun y1 =>
  some y1
  else none
  else none
@[reducible] noncomputable def sp (N : Nat) : Spec E := { ps := [.val .str, .val .str], rs := [.str], own := true, dp := false, R := R, fn := fun x => m N x.1 x.2.1, res := fun r => (r, ()), out := fun r => ((), (), ()), shut := fun a b => a.1, res_shut := fun _ _ => rfl, out_shut := fun _ _ => rfl }
end spec_l07LeafHash
/-! ### spec_l07ForkHash: loop.example/g00220/spec.l07ForkHash -/
namespace spec_l07ForkHash
abbrev R := ByteArray
noncomputable def m (N : Nat) (a0 : Int) (a1 : ByteArray) (a2 : ByteArray) : Option R :=
  bif (room (([(1:Int), (wu8 a0)]).length + (bytesOf a1).length) 1) then
  bif (room (([(1:Int), (wu8 a0)] ++ (bytesOf a1)).length + (bytesOf a2).length) 1) then
  ob (spec_l01Hash.m N (([(1:Int), (wu8 a0)] ++ (bytesOf a1)) ++ (bytesOf a2))) fun y1 =>
  some y1
  else none
  else none
@[reducible] noncomputable def sp (N : Nat) : Spec E := { ps := [.val (.int .i64), .val .str, .val .str], rs := [.str], own := true, dp := false, R := R, fn := fun x => m N x.1 x.2.1 x.2.2.1, res := fun r => (r, ()), out := fun r => ((), (), (), ()), shut := fun a b => a.1, res_shut := fun _ _ => rfl, out_shut := fun _ _ => rfl }
end spec_l07ForkHash
/-! ### spec_l07Root: loop.example/g00220/spec.l07Root -/
namespace spec_l07Root
abbrev R := ByteArray
@[reducible] noncomputable def spf (f : Branch → Option R) : Spec E := { ps := [.val (.st 71)], rs := [.str], own := true, dp := false, R := R, fn := fun x => f x.1, res := fun r => (r, ()), out := fun r => ((), ()), shut := fun a b => a.1, res_shut := fun _ _ => rfl, out_shut := fun _ _ => rfl }
end spec_l07Root
namespace spec_l07Root
noncomputable def mb (N : Nat) (slf : Branch → Option R) (a0 : Branch) : Option R :=
  ob (spec_l07Empty.m N (Branch.mk a0.Key a0.Value a0.At a0.Kids)) fun y1 =>
  bif y1 then
    ob (spec_l01Hash.m N ([(2:Int)])) fun y2 =>
    some y2
  else
  ob (spec_l07Leaf.m N (Branch.mk a0.Key a0.Value a0.At a0.Kids)) fun y3 =>
  bif y3 then
    ob (spec_l07LeafHash.m N a0.Key a0.Value) fun y4 =>
    some y4
  else
  bif (decide (0 ≤ (0:Int))) then
  bif (decide ((0:Int) < (a0.Kids.length : Int))) then
  ob (slf (Branch.mk ((a0.Kids.getD 0 Branch.dz).Key) ((a0.Kids.getD 0 Branch.dz).Value) ((a0.Kids.getD 0 Branch.dz).At) ((a0.Kids.getD 0 Branch.dz).Kids))) fun y5 =>
  bif (decide (0 ≤ (1:Int))) then
  bif (decide ((1:Int) < (a0.Kids.length : Int))) then
  ob (slf (Branch.mk ((a0.Kids.getD 1 Branch.dz).Key) ((a0.Kids.getD 1 Branch.dz).Value) ((a0.Kids.getD 1 Branch.dz).At) ((a0.Kids.getD 1 Branch.dz).Kids))) fun y6 =>
  ob (spec_l07ForkHash.m N a0.At y5 y6) fun y7 =>
  some y7
  else none
  else none
  else none
  else none
noncomputable def mF (N : Nat) : Nat → Branch → Option R
  | 0 => fun _ => none
  | n + 1 => fun a0 => mb N (mF N n) a0
noncomputable def m (N : Nat) : Branch → Option R := mF N N
@[reducible] noncomputable def sp (N : Nat) : Spec E := spf (m N)
end spec_l07Root
/-! ### spec_MapRoot: loop.example/g00220/spec.MapRoot -/
namespace spec_MapRoot
abbrev R := ByteArray × Int
noncomputable def m (N : Nat) (a0 : Branch) : Option R :=
  ob (spec_MapOK.m N (Branch.mk a0.Key a0.Value a0.At a0.Kids)) fun y1 =>
  bif (!y1) then
    some (ByteArray.empty, (1:Int))
  else
  ob (spec_l07Root.m N (Branch.mk a0.Key a0.Value a0.At a0.Kids)) fun y2 =>
  some (y2, (0:Int))
@[reducible] noncomputable def sp (N : Nat) : Spec E := { ps := [.val (.st 71)], rs := [.str, (.int .i64)], own := true, dp := false, R := R, fn := fun x => m N x.1, res := fun r => (r.1, r.2, ()), out := fun r => ((), ()), shut := fun a b => (a.1, a.2.1), res_shut := fun _ _ => rfl, out_shut := fun _ _ => rfl }
end spec_MapRoot
/-! ### impl_MapList: loop.example/g00220/impl.MapList -/
namespace impl_MapList
abbrev R := (List Command) × Int
noncomputable def step6 (N : Nat) (a0 : Branch) (rec : (Int × Int × (List Command) × (List pairOf)) → Option R) : (Int × Int × (List Command) × (List pairOf)) → Option R
  | (v0, v1, v2, v3) =>
    bif (decide (v1 < v0)) then
      bif (decide (0 ≤ v1)) then
      bif (decide (v1 < (v3.length : Int))) then
      bif (room (v2.length + ([(Command.mk (1:Int) (0:Int) (0:Int) ((v3.getD (Int.toNat v1) pairOf.dz).key) ((v3.getD (Int.toNat v1) pairOf.dz).value))]).length) 56) then
      rec (v0, (w64 (v1 + (1:Int))), (v2 ++ [(Command.mk (1:Int) (0:Int) (0:Int) ((v3.getD (Int.toNat v1) pairOf.dz).key) ((v3.getD (Int.toNat v1) pairOf.dz).value))]), v3)
      else none
      else none
      else none
    else
    some (v2, (0:Int))
noncomputable def lp6 (N : Nat) (a0 : Branch) : (Int × Int × (List Command) × (List pairOf)) → Option R :=
  miter (fun rec => step6 N a0 rec) N
noncomputable def m (N : Nat) (a0 : Branch) : Option R :=
  ob (impl_mapPairs.m N (Branch.mk a0.Key a0.Value a0.At a0.Kids)) fun y1 =>
  bif (!y1.2) then
    some (([] : List Command), (1:Int))
  else
  lp6 N a0 ((y1.1.length : Int), (0:Int), ([] : List Command), y1.1)
@[reducible] noncomputable def sp (N : Nat) : Spec E := { ps := [.val (.st 71)], rs := [(.slice 97 (.st 97)), (.int .i64)], own := true, dp := false, R := R, fn := fun x => m N x.1, res := fun r => (r.1, r.2, ()), out := fun r => ((), ()), shut := fun a b => (a.1, a.2.1), res_shut := fun _ _ => rfl, out_shut := fun _ _ => rfl }
end impl_MapList
/-! ### impl_MapGet: loop.example/g00220/impl.MapGet -/
namespace impl_MapGet
abbrev R := ByteArray × Int
noncomputable def m (N : Nat) (a0 : Branch) (a1 : ByteArray) : Option R :=
  ob (impl_mapCode.m N (Branch.mk a0.Key a0.Value a0.At a0.Kids) a1) fun y1 =>
  bif (y1.2 != (0:Int)) then
    some (ByteArray.empty, y1.2)
  else
  ob (impl_pairAt.m N y1.1 a1) fun y2 =>
  bif (!y2.2) then
    some (ByteArray.empty, (5:Int))
  else
  bif (decide (0 ≤ y2.1)) then
  bif (decide (y2.1 < (y1.1.length : Int))) then
  some ((y1.1.getD (Int.toNat y2.1) pairOf.dz).value, (0:Int))
  else none
  else none
@[reducible] noncomputable def sp (N : Nat) : Spec E := { ps := [.val (.st 71), .val .str], rs := [.str, (.int .i64)], own := true, dp := false, R := R, fn := fun x => m N x.1 x.2.1, res := fun r => (r.1, r.2, ()), out := fun r => ((), (), ()), shut := fun a b => (a.1, a.2.1), res_shut := fun _ _ => rfl, out_shut := fun _ _ => rfl }
end impl_MapGet
/-! ### impl_KeyHash: loop.example/g00220/impl.KeyHash -/
namespace impl_KeyHash
abbrev R := ByteArray × Int
noncomputable def m (N : Nat) (a0 : ByteArray) : Option R :=
  ob (impl_isText.m N ([a0])) fun y1 =>
  bif (!y1) then
    some (ByteArray.empty, (2:Int))
  else
  ob (impl_isKey.m N a0) fun y2 =>
  bif (!y2) then
    some (ByteArray.empty, (1:Int))
  else
  ob (impl_hash.m N a0) fun y3 =>
  some (y3, (0:Int))
@[reducible] noncomputable def sp (N : Nat) : Spec E := { ps := [.val .str], rs := [.str, (.int .i64)], own := true, dp := false, R := R, fn := fun x => m N x.1, res := fun r => (r.1, r.2, ()), out := fun r => ((), ()), shut := fun a b => (a.1, a.2.1), res_shut := fun _ _ => rfl, out_shut := fun _ _ => rfl }
end impl_KeyHash
/-! ### laws_at: loop.example/g00220/laws.at -/
namespace laws_at
abbrev R := Int
noncomputable def m (N : Nat) (a0 : List Int) (a1 : Int) (a2 : Int) : Option R :=
  bif (decide (a2 ≤ (1:Int))) then
    some (0:Int)
  else
  bif ((a0.length : Int) == (0:Int)) then
    bif (!decide (a2 = 0)) then
    some (Int.tmod (w64 (a1 * (7:Int))) a2)
    else none
  else
  bif (!decide ((a0.length : Int) = 0)) then
  bif (decide (0 ≤ (Int.tmod a1 (a0.length : Int)))) then
  bif (decide ((Int.tmod a1 (a0.length : Int)) < (a0.length : Int))) then
  bif (!decide ((a0.length : Int) = 0)) then
  bif (decide (0 ≤ (Int.tmod (w64 (a1 + (1:Int))) (a0.length : Int)))) then
  bif (decide ((Int.tmod (w64 (a1 + (1:Int))) (a0.length : Int)) < (a0.length : Int))) then
  (let w1 : Int := (w64 ((w64 ((w64 (a0.getD (Int.toNat (Int.tmod a1 (a0.length : Int))) (0:Int))) * (31:Int))) + (w64 (a0.getD (Int.toNat (Int.tmod (w64 (a1 + (1:Int))) (a0.length : Int))) (0:Int)))))
  bif (!decide ((a0.length : Int) = 0)) then
  bif (!decide (a2 = 0)) then
  some (Int.tmod (w64 (w1 + (w64 (Int.tdiv a1 (a0.length : Int))))) a2)
  else none
  else none)
  else none
  else none
  else none
  else none
  else none
  else none
@[reducible] noncomputable def sp (N : Nat) : Spec E := { ps := [.val (.slice 5 (.int .u8)), .val (.int .i64), .val (.int .i64)], rs := [(.int .i64)], own := true, dp := false, R := R, fn := fun x => m N x.1 x.2.1 x.2.2.1, res := fun r => (r, ()), out := fun r => ((), (), (), ()), shut := fun a b => a.1, res_shut := fun _ _ => rfl, out_shut := fun _ _ => rfl }
end laws_at
/-! ### laws_FnMap: loop.example/g00220/laws.FnMap -/
namespace laws_FnMap
abbrev R := Bool
inductive A10 where
  | s0 (v2 : Int) (v3 : ByteArray) (v4 : Int) (v5 : List ByteArray)
  | s1 (v2 : Int) (v3 : ByteArray) (v4 : Bool) (v5 : Int) (v6 : List ByteArray)
  | s2 (v2 : Int) (v3 : ByteArray) (v4 : Int) (v5 : List ByteArray)
inductive A18 where
  | s0 (v1 : Int) (v2 : List ByteArray) (v3 : ByteArray) (v4 : ByteArray) (v5 : Int) (v6 : ByteArray) (v7 : ByteArray) (v8 : Int)
  | s1 (v1 : Int) (v2 : List ByteArray) (v3 : ByteArray) (v4 : ByteArray) (v5 : Int) (v6 : List Branch) (v7 : ByteArray) (v8 : ByteArray) (v9 : Int) (v10 : List Branch)
inductive A33 where
  | s0 (v1 : Int) (v2 : List ByteArray) (v3 : ByteArray) (v4 : ByteArray) (v5 : Int) (v6 : List Command)
  | s1 (v1 : Int) (v2 : List ByteArray) (v3 : ByteArray) (v4 : ByteArray) (v5 : Int) (v6 : List Branch) (v7 : List Command)
noncomputable def step5 (N : Nat) (a0 : List Int) (a1 : List Int) (lp10 : A10 → Option R) (lp18 : A18 → Option R) (rec : (Int × (List ByteArray)) → Option R) : (Int × (List ByteArray)) → Option R
  | (v2, v3) =>
    bif (decide (v2 < (8:Int))) then
      bif (room (([(wu8 v2)]).length + a0.length) 1) then
      ob (spec_MapKeyOf.m N ([(wu8 v2)] ++ a0)) fun y1 =>
      lp10 (.s0 v2 y1 (0:Int) v3)
      else none
    else
    lp18 (.s0 (0:Int) v3 ByteArray.empty ByteArray.empty (0:Int) ByteArray.empty ByteArray.empty (0:Int))
noncomputable def step10 (N : Nat) (a0 : List Int) (a1 : List Int) (lp5 : Int × (List ByteArray) → Option R) (rec : A10 → Option R) : A10 → Option R
  | .s0 v2 v3 v4 v5 =>
    bif (decide (v4 < (v5.length : Int))) then
      bif (decide (0 ≤ v4)) then
      bif (decide (v4 < (v5.length : Int))) then
      rec (.s1 v2 v3 (bif false then true else (seq (v5.getD (Int.toNat v4) ByteArray.empty) v3)) (w64 (v4 + (1:Int))) v5)
      else none
      else none
    else
    bif (room (v5.length + ([v3]).length) 16) then
    lp5 ((w64 (v2 + (1:Int))), (v5 ++ [v3]))
    else none
  | .s1 v2 v3 v4 v5 v6 =>
    bif (decide (v5 < (v6.length : Int))) then
      bif v4 then
        rec (.s2 v2 v3 (w64 (v5 + (1:Int))) v6)
      else
      bif (decide (0 ≤ v5)) then
      bif (decide (v5 < (v6.length : Int))) then
      rec (.s1 v2 v3 (bif false then true else (seq (v6.getD (Int.toNat v5) ByteArray.empty) v3)) (w64 (v5 + (1:Int))) v6)
      else none
      else none
    else
    bif (!v4) then
      bif (room (v6.length + ([v3]).length) 16) then
      lp5 ((w64 (v2 + (1:Int))), (v6 ++ [v3]))
      else none
    else
    lp5 ((w64 (v2 + (1:Int))), v6)
  | .s2 v2 v3 v4 v5 =>
    bif (decide (v4 < (v5.length : Int))) then
      rec (.s2 v2 v3 (w64 (v4 + (1:Int))) v5)
    else
    lp5 ((w64 (v2 + (1:Int))), v5)
noncomputable def step18 (N : Nat) (a0 : List Int) (a1 : List Int) (lp33 : A33 → Option R) (rec : A18 → Option R) : A18 → Option R
  | .s0 v1 v2 v3 v4 v5 v6 v7 v8 =>
    bif (decide (v1 < (v2.length : Int))) then
      bif (decide (0 ≤ v1)) then
      bif (decide (v1 < (v2.length : Int))) then
      bif (decide (0 ≤ v1)) then
      bif (decide (v1 < (v2.length : Int))) then
      bif (decide ((⟨#[118]⟩ : ByteArray).size + (v2.getD (Int.toNat v1) ByteArray.empty).size ≤ 9223372036854775807)) then
      ob (impl_MapPut.m N (Branch.mk v3 v4 v5 ([] : List Branch)) (v2.getD (Int.toNat v1) ByteArray.empty) ((⟨#[118]⟩ : ByteArray) ++ (v2.getD (Int.toNat v1) ByteArray.empty))) fun y2 =>
      bif (decide (0 ≤ (w64 ((w64 ((v2.length : Int) - (1:Int))) - v1)))) then
      bif (decide ((w64 ((w64 ((v2.length : Int) - (1:Int))) - v1)) < (v2.length : Int))) then
      bif (decide (0 ≤ (w64 ((w64 ((v2.length : Int) - (1:Int))) - v1)))) then
      bif (decide ((w64 ((w64 ((v2.length : Int) - (1:Int))) - v1)) < (v2.length : Int))) then
      bif (decide ((⟨#[118]⟩ : ByteArray).size + (v2.getD (Int.toNat (w64 ((w64 ((v2.length : Int) - (1:Int))) - v1))) ByteArray.empty).size ≤ 9223372036854775807)) then
      ob (impl_MapPut.m N (Branch.mk v6 v7 v8 ([] : List Branch)) (v2.getD (Int.toNat (w64 ((w64 ((v2.length : Int) - (1:Int))) - v1))) ByteArray.empty) ((⟨#[118]⟩ : ByteArray) ++ (v2.getD (Int.toNat (w64 ((w64 ((v2.length : Int) - (1:Int))) - v1))) ByteArray.empty))) fun y3 =>
      bif (y2.2 != (0:Int)) then
        some false
      else
      bif (bif false then true else (y3.2 != (0:Int))) then
        some false
      else
      ob (impl_MapOK.m N (Branch.mk y2.1.Key y2.1.Value y2.1.At y2.1.Kids)) fun y4 =>
      bif (bif false then true else (!y4)) then
        some false
      else
      rec (.s1 (w64 (v1 + (1:Int))) v2 y2.1.Key y2.1.Value y2.1.At y2.1.Kids y3.1.Key y3.1.Value y3.1.At y3.1.Kids)
      else none
      else none
      else none
      else none
      else none
      else none
      else none
      else none
      else none
      else none
    else
    ob (impl_MapRoot.m N (Branch.mk v3 v4 v5 ([] : List Branch))) fun y5 =>
    ob (impl_MapRoot.m N (Branch.mk v6 v7 v8 ([] : List Branch))) fun y6 =>
    ob (spec_MapRoot.m N (Branch.mk v3 v4 v5 ([] : List Branch))) fun y7 =>
    ob (impl_MapList.m N (Branch.mk v3 v4 v5 ([] : List Branch))) fun y8 =>
    bif (y5.2 != (0:Int)) then
      some false
    else
    bif (bif false then true else (y6.2 != (0:Int))) then
      some false
    else
    bif (bif false then true else (!seq y5.1 y6.1)) then
      some false
    else
    bif (bif false then true else (!seq y5.1 y7.1)) then
      some false
    else
    bif (bif false then true else (y8.2 != (0:Int))) then
      some false
    else
    bif (bif false then true else ((y8.1.length : Int) != (v2.length : Int))) then
      some false
    else
    lp33 (.s0 (0:Int) v2 v3 v4 v5 y8.1)
  | .s1 v1 v2 v3 v4 v5 v6 v7 v8 v9 v10 =>
    bif (decide (v1 < (v2.length : Int))) then
      bif (decide (0 ≤ v1)) then
      bif (decide (v1 < (v2.length : Int))) then
      bif (decide (0 ≤ v1)) then
      bif (decide (v1 < (v2.length : Int))) then
      bif (decide ((⟨#[118]⟩ : ByteArray).size + (v2.getD (Int.toNat v1) ByteArray.empty).size ≤ 9223372036854775807)) then
      ob (impl_MapPut.m N (Branch.mk v3 v4 v5 v6) (v2.getD (Int.toNat v1) ByteArray.empty) ((⟨#[118]⟩ : ByteArray) ++ (v2.getD (Int.toNat v1) ByteArray.empty))) fun y9 =>
      bif (decide (0 ≤ (w64 ((w64 ((v2.length : Int) - (1:Int))) - v1)))) then
      bif (decide ((w64 ((w64 ((v2.length : Int) - (1:Int))) - v1)) < (v2.length : Int))) then
      bif (decide (0 ≤ (w64 ((w64 ((v2.length : Int) - (1:Int))) - v1)))) then
      bif (decide ((w64 ((w64 ((v2.length : Int) - (1:Int))) - v1)) < (v2.length : Int))) then
      bif (decide ((⟨#[118]⟩ : ByteArray).size + (v2.getD (Int.toNat (w64 ((w64 ((v2.length : Int) - (1:Int))) - v1))) ByteArray.empty).size ≤ 9223372036854775807)) then
      ob (impl_MapPut.m N (Branch.mk v7 v8 v9 v10) (v2.getD (Int.toNat (w64 ((w64 ((v2.length : Int) - (1:Int))) - v1))) ByteArray.empty) ((⟨#[118]⟩ : ByteArray) ++ (v2.getD (Int.toNat (w64 ((w64 ((v2.length : Int) - (1:Int))) - v1))) ByteArray.empty))) fun y10 =>
      bif (y9.2 != (0:Int)) then
        some false
      else
      bif (bif false then true else (y10.2 != (0:Int))) then
        some false
      else
      ob (impl_MapOK.m N (Branch.mk y9.1.Key y9.1.Value y9.1.At y9.1.Kids)) fun y11 =>
      bif (bif false then true else (!y11)) then
        some false
      else
      rec (.s1 (w64 (v1 + (1:Int))) v2 y9.1.Key y9.1.Value y9.1.At y9.1.Kids y10.1.Key y10.1.Value y10.1.At y10.1.Kids)
      else none
      else none
      else none
      else none
      else none
      else none
      else none
      else none
      else none
      else none
    else
    ob (impl_MapRoot.m N (Branch.mk v3 v4 v5 v6)) fun y12 =>
    ob (impl_MapRoot.m N (Branch.mk v7 v8 v9 v10)) fun y13 =>
    ob (spec_MapRoot.m N (Branch.mk v3 v4 v5 v6)) fun y14 =>
    ob (impl_MapList.m N (Branch.mk v3 v4 v5 v6)) fun y15 =>
    bif (y12.2 != (0:Int)) then
      some false
    else
    bif (bif false then true else (y13.2 != (0:Int))) then
      some false
    else
    bif (bif false then true else (!seq y12.1 y13.1)) then
      some false
    else
    bif (bif false then true else (!seq y12.1 y14.1)) then
      some false
    else
    bif (bif false then true else (y15.2 != (0:Int))) then
      some false
    else
    bif (bif false then true else ((y15.1.length : Int) != (v2.length : Int))) then
      some false
    else
    lp33 (.s1 (0:Int) v2 v3 v4 v5 v6 y15.1)
noncomputable def step33 (N : Nat) (a0 : List Int) (a1 : List Int) (rec : A33 → Option R) : A33 → Option R
  | .s0 v1 v2 v3 v4 v5 v6 =>
    bif (decide (v1 < (v2.length : Int))) then
      bif (decide (0 ≤ v1)) then
      bif (decide (v1 < (v2.length : Int))) then
      ob (impl_MapGet.m N (Branch.mk v3 v4 v5 ([] : List Branch)) (v2.getD (Int.toNat v1) ByteArray.empty)) fun y16 =>
      bif (y16.2 != (0:Int)) then
        some false
      else
      bif (decide (0 ≤ v1)) then
      bif (decide (v1 < (v2.length : Int))) then
      bif (decide ((⟨#[118]⟩ : ByteArray).size + (v2.getD (Int.toNat v1) ByteArray.empty).size ≤ 9223372036854775807)) then
      bif (bif false then true else (!seq y16.1 ((⟨#[118]⟩ : ByteArray) ++ (v2.getD (Int.toNat v1) ByteArray.empty)))) then
        some false
      else
      bif (decide (v1 > (0:Int))) then
        bif (decide (0 ≤ (w64 (v1 - (1:Int))))) then
        bif (decide ((w64 (v1 - (1:Int))) < (v6.length : Int))) then
        ob (impl_KeyHash.m N ((v6.getD (Int.toNat (w64 (v1 - (1:Int)))) Command.dz).Key)) fun y17 =>
        bif (decide (0 ≤ v1)) then
        bif (decide (v1 < (v6.length : Int))) then
        ob (impl_KeyHash.m N ((v6.getD (Int.toNat v1) Command.dz).Key)) fun y18 =>
        bif (y17.2 != (0:Int)) then
          some false
        else
        bif (bif false then true else (y18.2 != (0:Int))) then
          some false
        else
        bif (bif false then true else (!slt y17.1 y18.1)) then
          some false
        else
        rec (.s0 (w64 (v1 + (1:Int))) v2 v3 v4 v5 v6)
        else none
        else none
        else none
        else none
      else
      rec (.s0 (w64 (v1 + (1:Int))) v2 v3 v4 v5 v6)
      else none
      else none
      else none
      else none
      else none
    else
    ob (laws_at.m N a1 (0:Int) (v2.length : Int)) fun y19 =>
    bif (decide (0 ≤ y19)) then
    bif (decide (y19 < (v2.length : Int))) then
    ob (impl_MapPut.m N (Branch.mk v3 v4 v5 ([] : List Branch)) (v2.getD (Int.toNat y19) ByteArray.empty) (⟨#[99, 104, 97, 110, 103, 101, 100]⟩ : ByteArray)) fun y20 =>
    ob (impl_MapGet.m N (Branch.mk y20.1.Key y20.1.Value y20.1.At y20.1.Kids) (v2.getD (Int.toNat y19) ByteArray.empty)) fun y21 =>
    ob (impl_MapRoot.m N (Branch.mk y20.1.Key y20.1.Value y20.1.At y20.1.Kids)) fun y22 =>
    ob (spec_MapRoot.m N (Branch.mk y20.1.Key y20.1.Value y20.1.At y20.1.Kids)) fun y23 =>
    bif (y20.2 == (0:Int)) then
      bif (bif true then (y21.2 == (0:Int)) else false) then
        bif (bif true then (seq y21.1 (⟨#[99, 104, 97, 110, 103, 101, 100]⟩ : ByteArray)) else false) then
          bif (bif true then (y22.2 == (0:Int)) else false) then
            some (bif true then (seq y22.1 y23.1) else false)
          else
          some false
        else
        some false
      else
      some false
    else
    some false
    else none
    else none
  | .s1 v1 v2 v3 v4 v5 v6 v7 =>
    bif (decide (v1 < (v2.length : Int))) then
      bif (decide (0 ≤ v1)) then
      bif (decide (v1 < (v2.length : Int))) then
      ob (impl_MapGet.m N (Branch.mk v3 v4 v5 v6) (v2.getD (Int.toNat v1) ByteArray.empty)) fun y24 =>
      bif (y24.2 != (0:Int)) then
        some false
      else
      bif (decide (0 ≤ v1)) then
      bif (decide (v1 < (v2.length : Int))) then
      bif (decide ((⟨#[118]⟩ : ByteArray).size + (v2.getD (Int.toNat v1) ByteArray.empty).size ≤ 9223372036854775807)) then
      bif (bif false then true else (!seq y24.1 ((⟨#[118]⟩ : ByteArray) ++ (v2.getD (Int.toNat v1) ByteArray.empty)))) then
        some false
      else
      bif (decide (v1 > (0:Int))) then
        bif (decide (0 ≤ (w64 (v1 - (1:Int))))) then
        bif (decide ((w64 (v1 - (1:Int))) < (v7.length : Int))) then
        ob (impl_KeyHash.m N ((v7.getD (Int.toNat (w64 (v1 - (1:Int)))) Command.dz).Key)) fun y25 =>
        bif (decide (0 ≤ v1)) then
        bif (decide (v1 < (v7.length : Int))) then
        ob (impl_KeyHash.m N ((v7.getD (Int.toNat v1) Command.dz).Key)) fun y26 =>
        bif (y25.2 != (0:Int)) then
          some false
        else
        bif (bif false then true else (y26.2 != (0:Int))) then
          some false
        else
        bif (bif false then true else (!slt y25.1 y26.1)) then
          some false
        else
        rec (.s1 (w64 (v1 + (1:Int))) v2 v3 v4 v5 v6 v7)
        else none
        else none
        else none
        else none
      else
      rec (.s1 (w64 (v1 + (1:Int))) v2 v3 v4 v5 v6 v7)
      else none
      else none
      else none
      else none
      else none
    else
    ob (laws_at.m N a1 (0:Int) (v2.length : Int)) fun y27 =>
    bif (decide (0 ≤ y27)) then
    bif (decide (y27 < (v2.length : Int))) then
    ob (impl_MapPut.m N (Branch.mk v3 v4 v5 v6) (v2.getD (Int.toNat y27) ByteArray.empty) (⟨#[99, 104, 97, 110, 103, 101, 100]⟩ : ByteArray)) fun y28 =>
    ob (impl_MapGet.m N (Branch.mk y28.1.Key y28.1.Value y28.1.At y28.1.Kids) (v2.getD (Int.toNat y27) ByteArray.empty)) fun y29 =>
    ob (impl_MapRoot.m N (Branch.mk y28.1.Key y28.1.Value y28.1.At y28.1.Kids)) fun y30 =>
    ob (spec_MapRoot.m N (Branch.mk y28.1.Key y28.1.Value y28.1.At y28.1.Kids)) fun y31 =>
    bif (y28.2 == (0:Int)) then
      bif (bif true then (y29.2 == (0:Int)) else false) then
        bif (bif true then (seq y29.1 (⟨#[99, 104, 97, 110, 103, 101, 100]⟩ : ByteArray)) else false) then
          bif (bif true then (y30.2 == (0:Int)) else false) then
            some (bif true then (seq y30.1 y31.1) else false)
          else
          some false
        else
        some false
      else
      some false
    else
    some false
    else none
    else none
noncomputable def lp10 (N : Nat) (a0 : List Int) (a1 : List Int) (r5 : Int × (List ByteArray) → Option R) : A10 → Option R :=
  miter (fun rec => step10 N a0 a1 r5 rec) N
noncomputable def lp33 (N : Nat) (a0 : List Int) (a1 : List Int) : A33 → Option R :=
  miter (fun rec => step33 N a0 a1 rec) N
noncomputable def lp18 (N : Nat) (a0 : List Int) (a1 : List Int) : A18 → Option R :=
  miter (fun rec => step18 N a0 a1 (lp33 N a0 a1) rec) N
noncomputable def lp5 (N : Nat) (a0 : List Int) (a1 : List Int) : (Int × (List ByteArray)) → Option R :=
  miter (fun rec => step5 N a0 a1 (lp10 N a0 a1 rec) (lp18 N a0 a1) rec) N
noncomputable def m (N : Nat) (a0 : List Int) (a1 : List Int) : Option R :=
  bif (decide ((a0.length : Int) > (1048576:Int))) then
    some true
  else
  bif (bif false then true else (decide ((a1.length : Int) > (1048576:Int)))) then
    some true
  else
  lp5 N a0 a1 ((0:Int), ([] : List ByteArray))
@[reducible] noncomputable def sp (N : Nat) : Spec E := { ps := [.val (.slice 5 (.int .u8)), .val (.slice 5 (.int .u8))], rs := [.bool], own := true, dp := false, R := R, fn := fun x => m N x.1 x.2.1, res := fun r => (r, ()), out := fun r => ((), (), ()), shut := fun a b => a.1, res_shut := fun _ _ => rfl, out_shut := fun _ _ => rfl }
end laws_FnMap
/-! ### spec_l00Src_size_: (*loop.example/g00220/spec.l00Src).size -/
namespace spec_l00Src_size_
abbrev R := Int
noncomputable def m (N : Nat) (a0 : l00Src) (a1 : Int) : Option R :=
  bif (!decide ((12:Int) = 0)) then
  (let w1 : Int := (if a1 < (w64 ((1:Int) + (w64 (Int.tdiv (a0.code.length : Int) (12:Int))))) then a1 else (w64 ((1:Int) + (w64 (Int.tdiv (a0.code.length : Int) (12:Int))))))
  some w1)
  else none
@[reducible] noncomputable def sp (N : Nat) : Spec E := { ps := [.cap (.rb (.st 179)), .val (.int .i64)], rs := [(.int .i64)], own := true, dp := false, R := R, fn := fun x => m N x.1 x.2.1, res := fun r => (r, ()), out := fun r => ((), (), ()), shut := fun a b => a.1, res_shut := fun _ _ => rfl, out_shut := fun _ _ => rfl }
end spec_l00Src_size_
/-! ### spec_l07Size: loop.example/g00220/spec.l07Size -/
namespace spec_l07Size
abbrev R := Int
@[reducible] noncomputable def spf (f : Branch → Option R) : Spec E := { ps := [.val (.st 71)], rs := [(.int .i64)], own := true, dp := false, R := R, fn := fun x => f x.1, res := fun r => (r, ()), out := fun r => ((), ()), shut := fun a b => a.1, res_shut := fun _ _ => rfl, out_shut := fun _ _ => rfl }
end spec_l07Size
namespace spec_l07Size
noncomputable def mb (N : Nat) (slf : Branch → Option R) (a0 : Branch) : Option R :=
  ob (spec_l07Empty.m N (Branch.mk a0.Key a0.Value a0.At a0.Kids)) fun y1 =>
  bif y1 then
    some (0:Int)
  else
  ob (spec_l07Leaf.m N (Branch.mk a0.Key a0.Value a0.At a0.Kids)) fun y2 =>
  bif y2 then
    some (1:Int)
  else
  bif (decide (0 ≤ (0:Int))) then
  bif (decide ((0:Int) < (a0.Kids.length : Int))) then
  ob (slf (Branch.mk ((a0.Kids.getD 0 Branch.dz).Key) ((a0.Kids.getD 0 Branch.dz).Value) ((a0.Kids.getD 0 Branch.dz).At) ((a0.Kids.getD 0 Branch.dz).Kids))) fun y3 =>
  bif (decide (0 ≤ (1:Int))) then
  bif (decide ((1:Int) < (a0.Kids.length : Int))) then
  ob (slf (Branch.mk ((a0.Kids.getD 1 Branch.dz).Key) ((a0.Kids.getD 1 Branch.dz).Value) ((a0.Kids.getD 1 Branch.dz).At) ((a0.Kids.getD 1 Branch.dz).Kids))) fun y4 =>
  some (w64 (y3 + y4))
  else none
  else none
  else none
  else none
noncomputable def mF (N : Nat) : Nat → Branch → Option R
  | 0 => fun _ => none
  | n + 1 => fun a0 => mb N (mF N n) a0
noncomputable def m (N : Nat) : Branch → Option R := mF N N
@[reducible] noncomputable def sp (N : Nat) : Spec E := spf (m N)
end spec_l07Size
/-! ### spec_l00Src_datum: (*loop.example/g00220/spec.l00Src).datum -/
namespace spec_l00Src_datum
abbrev R := ByteArray × l00Src
noncomputable def m (N : Nat) (a0 : l00Src) : Option R :=
  (let w1 : List ByteArray := [ByteArray.empty, (⟨#[49]⟩ : ByteArray), (⟨#[50]⟩ : ByteArray), (⟨#[120]⟩ : ByteArray), (⟨#[108, 111, 110, 103, 101, 114, 32, 118, 97, 108, 117, 101]⟩ : ByteArray)]
  ob (spec_l00Src_pick_.m N a0 w1) fun y2 =>
  some (y2.1, y2.2))
@[reducible] noncomputable def sp (N : Nat) : Spec E := { ps := [.box false 179 179], rs := [.str], own := true, dp := false, R := R, fn := fun x => m N x.1, res := fun r => (r.1, ()), out := fun r => (r.2, ()), shut := fun a b => (a.1, b.1), res_shut := fun _ _ => rfl, out_shut := fun _ _ => rfl }
end spec_l00Src_datum
end Mir.Y
