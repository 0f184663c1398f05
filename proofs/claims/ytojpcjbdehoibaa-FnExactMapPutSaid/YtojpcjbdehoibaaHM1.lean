/- Models of functions. -/
import Derived.Test.YtojpcjbdehoibaaHE
namespace Mir.Y
set_option linter.unusedVariables false
set_option maxRecDepth 10000
open Go Go.Proofs Mir
namespace laws_szBranch
abbrev R := Int
@[reducible] noncomputable def spf (f : Branch → Int → Option R) : Spec E := { ps := [.val (.st 67), .val (.int .i64)], rs := [(.int .i64)], own := true, dp := false, R := R, fn := fun x => f x.1 x.2.1, res := fun r => (r, ()), out := fun r => ((), (), ()), shut := fun a b => a.1, res_shut := fun _ _ => rfl, out_shut := fun _ _ => rfl }
end laws_szBranch
/-! ### laws_szBranchS: loop.example/g00220/laws.szBranchS -/
namespace laws_szBranchS
abbrev R := Int
noncomputable def step5 (N : Nat) (x_laws_szBranch : Branch → Int → Option laws_szBranch.R) (a0 : List Branch) (a1 : Int) (rec : (Int × Int) → Option R) : (Int × Int) → Option R
  | (v1, v2) =>
    bif (decide (v2 < (a0.length : Int))) then
      bif (decide (0 ≤ v2)) then
      bif (decide (v2 < (a0.length : Int))) then
      ob (x_laws_szBranch (Branch.mk ((a0.getD (Int.toNat v2) Branch.dz).Key) ((a0.getD (Int.toNat v2) Branch.dz).Value) ((a0.getD (Int.toNat v2) Branch.dz).At) ((a0.getD (Int.toNat v2) Branch.dz).Kids)) v1) fun y1 =>
      bif (decide (y1 < (0:Int))) then
        some (-1:Int)
      else
      rec (y1, (w64 (v2 + (1:Int))))
      else none
      else none
    else
    some v1
noncomputable def lp5 (N : Nat) (x_laws_szBranch : Branch → Int → Option laws_szBranch.R) (a0 : List Branch) (a1 : Int) : (Int × Int) → Option R :=
  miter (fun rec => step5 N x_laws_szBranch a0 a1 rec) N
noncomputable def m (N : Nat) (x_laws_szBranch : Branch → Int → Option laws_szBranch.R) (a0 : List Branch) (a1 : Int) : Option R :=
  bif (decide ((w64 (a1 - (a0.length : Int))) < (0:Int))) then
    some (-1:Int)
  else
  lp5 N x_laws_szBranch a0 a1 ((w64 (a1 - (a0.length : Int))), (0:Int))
@[reducible] noncomputable def sp (N : Nat) (x_laws_szBranch : Branch → Int → Option laws_szBranch.R) : Spec E := { ps := [.val (.slice 67 (.st 67)), .val (.int .i64)], rs := [(.int .i64)], own := true, dp := false, R := R, fn := fun x => m N x_laws_szBranch x.1 x.2.1, res := fun r => (r, ()), out := fun r => ((), (), ()), shut := fun a b => a.1, res_shut := fun _ _ => rfl, out_shut := fun _ _ => rfl }
end laws_szBranchS
/-! ### laws_szBranch: loop.example/g00220/laws.szBranch -/
namespace laws_szBranch
noncomputable def mb (N : Nat) (slf : Branch → Int → Option R) (a0 : Branch) (a1 : Int) : Option R :=
  bif (decide ((w64 (a1 - (a0.Key.size : Int))) < (0:Int))) then
    some (-1:Int)
  else
  bif (decide ((w64 ((w64 (a1 - (a0.Key.size : Int))) - (a0.Value.size : Int))) < (0:Int))) then
    some (-1:Int)
  else
  ob (laws_szBranchS.m N slf a0.Kids (w64 ((w64 (a1 - (a0.Key.size : Int))) - (a0.Value.size : Int)))) fun y1 =>
  bif (decide (y1 < (0:Int))) then
    some (-1:Int)
  else
  some y1
noncomputable def mF (N : Nat) : Nat → Branch → Int → Option R
  | 0 => fun _ _ => none
  | n + 1 => fun a0 a1 => mb N (mF N n) a0 a1
noncomputable def m (N : Nat) : Branch → Int → Option R := mF N N
@[reducible] noncomputable def sp (N : Nat) : Spec E := spf (m N)
end laws_szBranch
namespace laws_toBranch
abbrev R := Branch
@[reducible] noncomputable def spf (f : Branch → Option R) : Spec E := { ps := [.val (.st 67)], rs := [(.st 71)], own := true, dp := true, R := R, fn := fun x => f x.1, res := fun r => (r, ()), out := fun r => ((), ()), shut := fun a b => a.1, res_shut := fun _ _ => rfl, out_shut := fun _ _ => rfl }
end laws_toBranch
/-! ### laws_toBranchS: loop.example/g00220/laws.toBranchS -/
namespace laws_toBranchS
abbrev R := (List Branch)
noncomputable def step3 (N : Nat) (x_laws_toBranch : Branch → Option laws_toBranch.R) (a0 : List Branch) (rec : (Int × (List Branch)) → Option R) : (Int × (List Branch)) → Option R
  | (v1, v2) =>
    bif (decide (v1 < (a0.length : Int))) then
      bif (decide (0 ≤ v1)) then
      bif (decide (v1 < (a0.length : Int))) then
      ob (x_laws_toBranch (Branch.mk ((a0.getD (Int.toNat v1) Branch.dz).Key) ((a0.getD (Int.toNat v1) Branch.dz).Value) ((a0.getD (Int.toNat v1) Branch.dz).At) ((a0.getD (Int.toNat v1) Branch.dz).Kids))) fun y1 =>
      bif (decide (0 ≤ v1)) then
      bif (decide (v1 < (v2.length : Int))) then
      rec ((w64 (v1 + (1:Int))), (v2.set (Int.toNat v1) (Branch.mk y1.Key y1.Value y1.At y1.Kids)))
      else none
      else none
      else none
      else none
    else
    some v2
noncomputable def lp3 (N : Nat) (x_laws_toBranch : Branch → Option laws_toBranch.R) (a0 : List Branch) : (Int × (List Branch)) → Option R :=
  miter (fun rec => step3 N x_laws_toBranch a0 rec) N
noncomputable def m (N : Nat) (x_laws_toBranch : Branch → Option laws_toBranch.R) (a0 : List Branch) : Option R :=
  bif (decide (0 ≤ (a0.length : Int))) then
  bif (room (Int.toNat (a0.length : Int)) 64) then
  lp3 N x_laws_toBranch a0 ((0:Int), (List.replicate (Int.toNat (a0.length : Int)) (Branch.mk ByteArray.empty ByteArray.empty (0:Int) ([] : List Branch))))
  else none
  else none
@[reducible] noncomputable def sp (N : Nat) (x_laws_toBranch : Branch → Option laws_toBranch.R) : Spec E := { ps := [.val (.slice 67 (.st 67))], rs := [(.slice 71 (.st 71))], own := true, dp := true, R := R, fn := fun x => m N x_laws_toBranch x.1, res := fun r => (r, ()), out := fun r => ((), ()), shut := fun a b => a.1, res_shut := fun _ _ => rfl, out_shut := fun _ _ => rfl }
end laws_toBranchS
/-! ### laws_toBranch: loop.example/g00220/laws.toBranch -/
namespace laws_toBranch
noncomputable def mb (N : Nat) (slf : Branch → Option R) (a0 : Branch) : Option R :=
  ob (laws_toBranchS.m N slf a0.Kids) fun y1 =>
  some (Branch.mk a0.Key a0.Value a0.At y1)
noncomputable def mF (N : Nat) : Nat → Branch → Option R
  | 0 => fun _ => none
  | n + 1 => fun a0 => mb N (mF N n) a0
noncomputable def m (N : Nat) : Branch → Option R := mF N N
@[reducible] noncomputable def sp (N : Nat) : Spec E := spf (m N)
end laws_toBranch
/-! ### spec_l07Empty: loop.example/g00220/spec.l07Empty -/
namespace spec_l07Empty
abbrev R := Bool
noncomputable def m (N : Nat) (a0 : Branch) : Option R :=
  bif (seq a0.Key ByteArray.empty) then
    bif (bif true then (seq a0.Value ByteArray.empty) else false) then
      bif (bif true then (a0.At == (0:Int)) else false) then
        some (bif true then ((a0.Kids.length : Int) == (0:Int)) else false)
      else
      some false
    else
    some false
  else
  some false
@[reducible] noncomputable def sp (N : Nat) : Spec E := { ps := [.val (.st 71)], rs := [.bool], own := true, dp := false, R := R, fn := fun x => m N x.1, res := fun r => (r, ()), out := fun r => ((), ()), shut := fun a b => a.1, res_shut := fun _ _ => rfl, out_shut := fun _ _ => rfl }
end spec_l07Empty
/-! ### spec_l07Leaf: loop.example/g00220/spec.l07Leaf -/
namespace spec_l07Leaf
abbrev R := Bool
noncomputable def m (N : Nat) (a0 : Branch) : Option R :=
  some ((a0.Kids.length : Int) == (0:Int))
@[reducible] noncomputable def sp (N : Nat) : Spec E := { ps := [.val (.st 71)], rs := [.bool], own := true, dp := false, R := R, fn := fun x => m N x.1, res := fun r => (r, ()), out := fun r => ((), ()), shut := fun a b => a.1, res_shut := fun _ _ => rfl, out_shut := fun _ _ => rfl }
end spec_l07Leaf
/-! ### spec_l02Key: loop.example/g00220/spec.l02Key -/
namespace spec_l02Key
abbrev R := Bool
noncomputable def m (N : Nat) (a0 : ByteArray) : Option R :=
  bif (decide ((a0.size : Int) ≥ (1:Int))) then
    some (bif true then (decide ((a0.size : Int) ≤ (24:Int))) else false)
  else
  some false
@[reducible] noncomputable def sp (N : Nat) : Spec E := { ps := [.val .str], rs := [.bool], own := true, dp := false, R := R, fn := fun x => m N x.1, res := fun r => (r, ()), out := fun r => ((), ()), shut := fun a b => a.1, res_shut := fun _ _ => rfl, out_shut := fun _ _ => rfl }
end spec_l02Key
/-! ### spec_l01Consts: loop.example/g00220/spec.l01Consts -/
namespace spec_l01Consts
abbrev R := (List Int)
noncomputable def m (N : Nat) : Option R :=
  (let w1 : List Int := [(1116352408:Int), (1899447441:Int), (3049323471:Int), (3921009573:Int), (961987163:Int), (1508970993:Int), (2453635748:Int), (2870763221:Int), (3624381080:Int), (310598401:Int), (607225278:Int), (1426881987:Int), (1925078388:Int), (2162078206:Int), (2614888103:Int), (3248222580:Int), (3835390401:Int), (4022224774:Int), (264347078:Int), (604807628:Int), (770255983:Int), (1249150122:Int), (1555081692:Int), (1996064986:Int), (2554220882:Int), (2821834349:Int), (2952996808:Int), (3210313671:Int), (3336571891:Int), (3584528711:Int), (113926993:Int), (338241895:Int), (666307205:Int), (773529912:Int), (1294757372:Int), (1396182291:Int), (1695183700:Int), (1986661051:Int), (2177026350:Int), (2456956037:Int), (2730485921:Int), (2820302411:Int), (3259730800:Int), (3345764771:Int), (3516065817:Int), (3600352804:Int), (4094571909:Int), (275423344:Int), (430227734:Int), (506948616:Int), (659060556:Int), (883997877:Int), (958139571:Int), (1322822218:Int), (1537002063:Int), (1747873779:Int), (1955562222:Int), (2024104815:Int), (2227730452:Int), (2361852424:Int), (2428436474:Int), (2756734187:Int), (3204031479:Int), (3329325298:Int)]
  some w1)
@[reducible] noncomputable def sp (N : Nat) : Spec E := { ps := [], rs := [(.slice 208 (.int .u32))], own := true, dp := false, R := R, fn := fun x => m N, res := fun r => (r, ()), out := fun r => (), shut := fun a b => a.1, res_shut := fun _ _ => rfl, out_shut := fun _ _ => rfl }
end spec_l01Consts
/-! ### spec_l01Turn: loop.example/g00220/spec.l01Turn -/
namespace spec_l01Turn
abbrev R := Int
noncomputable def m (N : Nat) (a0 : Int) (a1 : Int) : Option R :=
  bif (!decide (a1 < 0)) then
  bif (!decide ((wu64 ((32:Int) - a1)) < 0)) then
  some (ibit .or .u32 (Int.fdiv a0 (2 ^ (min (Int.toNat a1) 32))) (wu32 (a0 * 2 ^ (min (Int.toNat (wu64 ((32:Int) - a1))) 32))))
  else none
  else none
@[reducible] noncomputable def sp (N : Nat) : Spec E := { ps := [.val (.int .u32), .val (.int .u64)], rs := [(.int .u32)], own := true, dp := false, R := R, fn := fun x => m N x.1 x.2.1, res := fun r => (r, ()), out := fun r => ((), (), ()), shut := fun a b => a.1, res_shut := fun _ _ => rfl, out_shut := fun _ _ => rfl }
end spec_l01Turn
/-! ### spec_l01Block: loop.example/g00220/spec.l01Block -/
namespace spec_l01Block
abbrev R := (List Int)
noncomputable def step2 (N : Nat) (a0 : List Int) (a1 : List Int) (a2 : List Int) (lp6 : Int × (List Int) → Option R) (rec : (Int × (List Int)) → Option R) : (Int × (List Int)) → Option R
  | (v2, v4) =>
    bif (decide (v2 < (16:Int))) then
      bif (decide (0 ≤ (w64 ((4:Int) * v2)))) then
      bif (decide ((w64 ((4:Int) * v2)) < (a1.length : Int))) then
      bif (!decide ((24:Int) < 0)) then
      bif (decide (0 ≤ (w64 ((w64 ((4:Int) * v2)) + (1:Int))))) then
      bif (decide ((w64 ((w64 ((4:Int) * v2)) + (1:Int))) < (a1.length : Int))) then
      bif (!decide ((16:Int) < 0)) then
      (let w1 : Int := (ibit .or .u32 (wu32 ((wu32 (a1.getD (Int.toNat (w64 ((4:Int) * v2))) (0:Int))) * 2 ^ (min (Int.toNat (24:Int)) 32))) (wu32 ((wu32 (a1.getD (Int.toNat (w64 ((w64 ((4:Int) * v2)) + (1:Int)))) (0:Int))) * 2 ^ (min (Int.toNat (16:Int)) 32))))
      bif (decide (0 ≤ (w64 ((w64 ((4:Int) * v2)) + (2:Int))))) then
      bif (decide ((w64 ((w64 ((4:Int) * v2)) + (2:Int))) < (a1.length : Int))) then
      bif (!decide ((8:Int) < 0)) then
      bif (decide (0 ≤ (w64 ((w64 ((4:Int) * v2)) + (3:Int))))) then
      bif (decide ((w64 ((w64 ((4:Int) * v2)) + (3:Int))) < (a1.length : Int))) then
      (let w2 : Int := (ibit .or .u32 (ibit .or .u32 w1 (wu32 ((wu32 (a1.getD (Int.toNat (w64 ((w64 ((4:Int) * v2)) + (2:Int)))) (0:Int))) * 2 ^ (min (Int.toNat (8:Int)) 32)))) (wu32 (a1.getD (Int.toNat (w64 ((w64 ((4:Int) * v2)) + (3:Int)))) (0:Int))))
      bif (decide (0 ≤ v2)) then
      bif (decide (v2 < (v4.length : Int))) then
      rec ((w64 (v2 + (1:Int))), (v4.set (Int.toNat v2) w2))
      else none
      else none)
      else none
      else none
      else none
      else none
      else none)
      else none
      else none
      else none
      else none
      else none
      else none
    else
    lp6 ((16:Int), v4)
noncomputable def step6 (N : Nat) (a0 : List Int) (a1 : List Int) (a2 : List Int) (lp13 : Int × (List Int) × (List Int) → Option R) (rec : (Int × (List Int)) → Option R) : (Int × (List Int)) → Option R
  | (v1, v3) =>
    bif (decide (v1 < (64:Int))) then
      bif (decide (0 ≤ (w64 (v1 - (15:Int))))) then
      bif (decide ((w64 (v1 - (15:Int))) < (v3.length : Int))) then
      bif (decide (0 ≤ (w64 (v1 - (2:Int))))) then
      bif (decide ((w64 (v1 - (2:Int))) < (v3.length : Int))) then
      bif (decide (0 ≤ (w64 (v1 - (16:Int))))) then
      bif (decide ((w64 (v1 - (16:Int))) < (v3.length : Int))) then
      ob (spec_l01Turn.m N (v3.getD (Int.toNat (w64 (v1 - (15:Int)))) (0:Int)) (7:Int)) fun y3 =>
      ob (spec_l01Turn.m N (v3.getD (Int.toNat (w64 (v1 - (15:Int)))) (0:Int)) (18:Int)) fun y4 =>
      bif (!decide ((3:Int) < 0)) then
      (let w5 : Int := (wu32 ((v3.getD (Int.toNat (w64 (v1 - (16:Int)))) (0:Int)) + (ibit .xor .u32 (ibit .xor .u32 y3 y4) (Int.fdiv (v3.getD (Int.toNat (w64 (v1 - (15:Int)))) (0:Int)) (2 ^ (min (Int.toNat (3:Int)) 32))))))
      bif (decide (0 ≤ (w64 (v1 - (7:Int))))) then
      bif (decide ((w64 (v1 - (7:Int))) < (v3.length : Int))) then
      ob (spec_l01Turn.m N (v3.getD (Int.toNat (w64 (v1 - (2:Int)))) (0:Int)) (17:Int)) fun y6 =>
      ob (spec_l01Turn.m N (v3.getD (Int.toNat (w64 (v1 - (2:Int)))) (0:Int)) (19:Int)) fun y7 =>
      bif (!decide ((10:Int) < 0)) then
      (let w8 : Int := (wu32 ((wu32 (w5 + (v3.getD (Int.toNat (w64 (v1 - (7:Int)))) (0:Int)))) + (ibit .xor .u32 (ibit .xor .u32 y6 y7) (Int.fdiv (v3.getD (Int.toNat (w64 (v1 - (2:Int)))) (0:Int)) (2 ^ (min (Int.toNat (10:Int)) 32))))))
      bif (decide (0 ≤ v1)) then
      bif (decide (v1 < (v3.length : Int))) then
      rec ((w64 (v1 + (1:Int))), (v3.set (Int.toNat v1) w8))
      else none
      else none)
      else none
      else none
      else none)
      else none
      else none
      else none
      else none
      else none
      else none
      else none
    else
    bif (room (([] : List Int).length + a0.length) 4) then
    lp13 ((0:Int), v3, (([] : List Int) ++ a0))
    else none
noncomputable def step13 (N : Nat) (a0 : List Int) (a1 : List Int) (a2 : List Int) (lp21 : Int × (List Int) × (List Int) → Option R) (rec : (Int × (List Int) × (List Int)) → Option R) : (Int × (List Int) × (List Int)) → Option R
  | (v1, v3, v4) =>
    bif (decide (v1 < (64:Int))) then
      bif (decide (0 ≤ (4:Int))) then
      bif (decide ((4:Int) < (v4.length : Int))) then
      bif (decide (0 ≤ (0:Int))) then
      bif (decide ((0:Int) < (v4.length : Int))) then
      bif (decide (0 ≤ (7:Int))) then
      bif (decide ((7:Int) < (v4.length : Int))) then
      ob (spec_l01Turn.m N (v4.getD 4 (0:Int)) (6:Int)) fun y9 =>
      ob (spec_l01Turn.m N (v4.getD 4 (0:Int)) (11:Int)) fun y10 =>
      ob (spec_l01Turn.m N (v4.getD 4 (0:Int)) (25:Int)) fun y11 =>
      bif (decide (0 ≤ (5:Int))) then
      bif (decide ((5:Int) < (v4.length : Int))) then
      bif (decide (0 ≤ (6:Int))) then
      bif (decide ((6:Int) < (v4.length : Int))) then
      (let w12 : Int := (ibit .xor .u32 (ibit .and .u32 (v4.getD 4 (0:Int)) (v4.getD 5 (0:Int))) (ibit .and .u32 (ibit .xor .u32 (if IntKind.signed .u32 then -1 else IntKind.max .u32) (v4.getD 4 (0:Int))) (v4.getD 6 (0:Int))))
      bif (decide (0 ≤ v1)) then
      bif (decide (v1 < (a2.length : Int))) then
      bif (decide (0 ≤ v1)) then
      bif (decide (v1 < (v3.length : Int))) then
      (let w13 : Int := (wu32 ((wu32 ((wu32 ((wu32 ((v4.getD 7 (0:Int)) + (ibit .xor .u32 (ibit .xor .u32 y9 y10) y11))) + w12)) + (a2.getD (Int.toNat v1) (0:Int)))) + (v3.getD (Int.toNat v1) (0:Int))))
      ob (spec_l01Turn.m N (v4.getD 0 (0:Int)) (2:Int)) fun y14 =>
      ob (spec_l01Turn.m N (v4.getD 0 (0:Int)) (13:Int)) fun y15 =>
      ob (spec_l01Turn.m N (v4.getD 0 (0:Int)) (22:Int)) fun y16 =>
      bif (decide (0 ≤ (1:Int))) then
      bif (decide ((1:Int) < (v4.length : Int))) then
      bif (decide (0 ≤ (2:Int))) then
      bif (decide ((2:Int) < (v4.length : Int))) then
      bif (decide (0 ≤ (1:Int))) then
      bif (decide ((1:Int) < (v4.length : Int))) then
      bif (decide (0 ≤ (2:Int))) then
      bif (decide ((2:Int) < (v4.length : Int))) then
      (let w17 : Int := (ibit .xor .u32 (ibit .xor .u32 (ibit .and .u32 (v4.getD 0 (0:Int)) (v4.getD 1 (0:Int))) (ibit .and .u32 (v4.getD 0 (0:Int)) (v4.getD 2 (0:Int)))) (ibit .and .u32 (v4.getD 1 (0:Int)) (v4.getD 2 (0:Int))))
      bif (decide (0 ≤ (0:Int))) then
      bif (decide ((0:Int) < (v4.length : Int))) then
      bif (decide (0 ≤ (1:Int))) then
      bif (decide ((1:Int) < (v4.length : Int))) then
      bif (decide (0 ≤ (2:Int))) then
      bif (decide ((2:Int) < (v4.length : Int))) then
      bif (decide (0 ≤ (3:Int))) then
      bif (decide ((3:Int) < (v4.length : Int))) then
      bif (decide (0 ≤ (4:Int))) then
      bif (decide ((4:Int) < (v4.length : Int))) then
      bif (decide (0 ≤ (5:Int))) then
      bif (decide ((5:Int) < (v4.length : Int))) then
      bif (decide (0 ≤ (6:Int))) then
      bif (decide ((6:Int) < (v4.length : Int))) then
      (let w18 : List Int := [(wu32 (w13 + (wu32 ((ibit .xor .u32 (ibit .xor .u32 y14 y15) y16) + w17)))), (v4.getD 0 (0:Int)), (v4.getD 1 (0:Int)), (v4.getD 2 (0:Int)), (wu32 ((v4.getD 3 (0:Int)) + w13)), (v4.getD 4 (0:Int)), (v4.getD 5 (0:Int)), (v4.getD 6 (0:Int))]
      rec ((w64 (v1 + (1:Int))), v3, w18))
      else none
      else none
      else none
      else none
      else none
      else none
      else none
      else none
      else none
      else none
      else none
      else none
      else none
      else none)
      else none
      else none
      else none
      else none
      else none
      else none
      else none
      else none)
      else none
      else none
      else none
      else none)
      else none
      else none
      else none
      else none
      else none
      else none
      else none
      else none
      else none
      else none
    else
    lp21 ((0:Int), a0, v4)
noncomputable def step21 (N : Nat) (a0 : List Int) (a1 : List Int) (a2 : List Int) (rec : (Int × (List Int) × (List Int)) → Option R) : (Int × (List Int) × (List Int)) → Option R
  | (v0, v1, v2) =>
    bif (decide (v0 < (8:Int))) then
      bif (decide (0 ≤ v0)) then
      bif (decide (v0 < (v1.length : Int))) then
      bif (decide (0 ≤ v0)) then
      bif (decide (v0 < (v2.length : Int))) then
      bif (decide (0 ≤ v0)) then
      bif (decide (v0 < (v1.length : Int))) then
      rec ((w64 (v0 + (1:Int))), (v1.set (Int.toNat v0) (wu32 ((v1.getD (Int.toNat v0) (0:Int)) + (v2.getD (Int.toNat v0) (0:Int))))), v2)
      else none
      else none
      else none
      else none
      else none
      else none
    else
    some v1
noncomputable def lp21 (N : Nat) (a0 : List Int) (a1 : List Int) (a2 : List Int) : (Int × (List Int) × (List Int)) → Option R :=
  miter (fun rec => step21 N a0 a1 a2 rec) N
noncomputable def lp13 (N : Nat) (a0 : List Int) (a1 : List Int) (a2 : List Int) : (Int × (List Int) × (List Int)) → Option R :=
  miter (fun rec => step13 N a0 a1 a2 (lp21 N a0 a1 a2) rec) N
noncomputable def lp6 (N : Nat) (a0 : List Int) (a1 : List Int) (a2 : List Int) : (Int × (List Int)) → Option R :=
  miter (fun rec => step6 N a0 a1 a2 (lp13 N a0 a1 a2) rec) N
noncomputable def lp2 (N : Nat) (a0 : List Int) (a1 : List Int) (a2 : List Int) : (Int × (List Int)) → Option R :=
  miter (fun rec => step2 N a0 a1 a2 (lp6 N a0 a1 a2) rec) N
noncomputable def m (N : Nat) (a0 : List Int) (a1 : List Int) (a2 : List Int) : Option R :=
  bif (decide (0 ≤ (64:Int))) then
  bif (room 64 4) then
  lp2 N a0 a1 a2 ((0:Int), (List.replicate 64 (0:Int)))
  else none
  else none
@[reducible] noncomputable def sp (N : Nat) : Spec E := { ps := [.mut false (.slice 208 (.int .u32)), .val (.slice 5 (.int .u8)), .val (.slice 208 (.int .u32))], rs := [], own := true, dp := false, R := R, fn := fun x => m N x.1 x.2.1 x.2.2.1, res := fun r => (), out := fun r => (r, (), (), ()), shut := fun a b => b.1, res_shut := fun _ _ => rfl, out_shut := fun _ _ => rfl }
end spec_l01Block
/-! ### spec_l01Hash: loop.example/g00220/spec.l01Hash -/
namespace spec_l01Hash
abbrev R := ByteArray
noncomputable def step3 (N : Nat) (a0 : List Int) (lp6 : Int × (List Int) × (List Int) → Option R) (rec : ((List Int) × (List Int)) → Option R) : ((List Int) × (List Int)) → Option R
  | (v1, v2) =>
    bif (!decide ((64:Int) = 0)) then
    bif ((Int.tmod (v2.length : Int) (64:Int)) != (56:Int)) then
      bif (room (v2.length + ([(0:Int)]).length) 1) then
      rec (v1, (v2 ++ [(0:Int)]))
      else none
    else
    lp6 ((7:Int), v1, v2)
    else none
noncomputable def step6 (N : Nat) (a0 : List Int) (lp11 : Int × (List Int) × (List Int) × (List Int) → Option R) (rec : (Int × (List Int) × (List Int)) → Option R) : (Int × (List Int) × (List Int)) → Option R
  | (v1, v2, v3) =>
    bif (decide (v1 ≥ (0:Int))) then
      bif (!decide ((wu64 (w64 ((8:Int) * v1))) < 0)) then
      bif (room (v3.length + ([(wu8 (Int.fdiv (w64 ((8:Int) * (a0.length : Int))) (2 ^ (min (Int.toNat (wu64 (w64 ((8:Int) * v1)))) 64))))]).length) 1) then
      rec ((w64 (v1 - (1:Int))), v2, (v3 ++ [(wu8 (Int.fdiv (w64 ((8:Int) * (a0.length : Int))) (2 ^ (min (Int.toNat (wu64 (w64 ((8:Int) * v1)))) 64))))]))
      else none
      else none
    else
    ob (spec_l01Consts.m N) fun y2 =>
    lp11 ((0:Int), v2, v3, y2)
noncomputable def step11 (N : Nat) (a0 : List Int) (lp16 : Int × (List Int) × (List Int) → Option R) (rec : (Int × (List Int) × (List Int) × (List Int)) → Option R) : (Int × (List Int) × (List Int) × (List Int)) → Option R
  | (v0, v1, v2, v3) =>
    bif (decide (v0 < (v2.length : Int))) then
      bif (decide (0 ≤ (w64 (v0 + (64:Int))))) then
      bif (decide ((w64 (v0 + (64:Int))) ≤ ((v2.length : Nat) : Int))) then
      bif (decide (0 ≤ v0)) then
      bif (decide (v0 ≤ (((Int.toNat (w64 (v0 + (64:Int)))) : Nat) : Int))) then
      bif (decide ((Int.toNat v0) + ((Int.toNat (w64 (v0 + (64:Int)))) - (Int.toNat v0)) ≤ v2.length)) then
      ob (spec_l01Block.m N v1 ((v2.drop (Int.toNat v0)).take ((Int.toNat (w64 (v0 + (64:Int)))) - (Int.toNat v0))) v3) fun y3 =>
      rec ((w64 (v0 + (64:Int))), y3, v2, v3)
      else none
      else none
      else none
      else none
      else none
    else
    lp16 ((0:Int), v1, ([] : List Int))
noncomputable def step16 (N : Nat) (a0 : List Int) (rec : (Int × (List Int) × (List Int)) → Option R) : (Int × (List Int) × (List Int)) → Option R
  | (v0, v1, v2) =>
    bif (decide (v0 < (8:Int))) then
      bif (decide (0 ≤ v0)) then
      bif (decide (v0 < (v1.length : Int))) then
      bif (!decide ((24:Int) < 0)) then
      bif (decide (0 ≤ v0)) then
      bif (decide (v0 < (v1.length : Int))) then
      bif (!decide ((16:Int) < 0)) then
      bif (decide (0 ≤ v0)) then
      bif (decide (v0 < (v1.length : Int))) then
      bif (!decide ((8:Int) < 0)) then
      bif (decide (0 ≤ v0)) then
      bif (decide (v0 < (v1.length : Int))) then
      (let w4 : List Int := [(wu8 (Int.fdiv (v1.getD (Int.toNat v0) (0:Int)) (2 ^ (min (Int.toNat (24:Int)) 32)))), (wu8 (Int.fdiv (v1.getD (Int.toNat v0) (0:Int)) (2 ^ (min (Int.toNat (16:Int)) 32)))), (wu8 (Int.fdiv (v1.getD (Int.toNat v0) (0:Int)) (2 ^ (min (Int.toNat (8:Int)) 32)))), (wu8 (v1.getD (Int.toNat v0) (0:Int)))]
      bif (room (v2.length + w4.length) 1) then
      rec ((w64 (v0 + (1:Int))), v1, (v2 ++ w4))
      else none)
      else none
      else none
      else none
      else none
      else none
      else none
      else none
      else none
      else none
      else none
      else none
    else
    some (strOf v2)
noncomputable def lp16 (N : Nat) (a0 : List Int) : (Int × (List Int) × (List Int)) → Option R :=
  miter (fun rec => step16 N a0 rec) N
noncomputable def lp11 (N : Nat) (a0 : List Int) : (Int × (List Int) × (List Int) × (List Int)) → Option R :=
  miter (fun rec => step11 N a0 (lp16 N a0) rec) N
noncomputable def lp6 (N : Nat) (a0 : List Int) : (Int × (List Int) × (List Int)) → Option R :=
  miter (fun rec => step6 N a0 (lp11 N a0) rec) N
noncomputable def lp3 (N : Nat) (a0 : List Int) : ((List Int) × (List Int)) → Option R :=
  miter (fun rec => step3 N a0 (lp6 N a0) rec) N
noncomputable def m (N : Nat) (a0 : List Int) : Option R :=
  (let w1 : List Int := [(1779033703:Int), (3144134277:Int), (1013904242:Int), (2773480762:Int), (1359893119:Int), (2600822924:Int), (528734635:Int), (1541459225:Int)]
  bif (room (([] : List Int).length + a0.length) 1) then
  bif (room ((([] : List Int) ++ a0).length + ([(128:Int)]).length) 1) then
  lp3 N a0 (w1, ((([] : List Int) ++ a0) ++ [(128:Int)]))
  else none
  else none)
@[reducible] noncomputable def sp (N : Nat) : Spec E := { ps := [.val (.slice 5 (.int .u8))], rs := [.str], own := true, dp := false, R := R, fn := fun x => m N x.1, res := fun r => (r, ()), out := fun r => ((), ()), shut := fun a b => a.1, res_shut := fun _ _ => rfl, out_shut := fun _ _ => rfl }
end spec_l01Hash
/-! ### spec_l07Hash: loop.example/g00220/spec.l07Hash -/
namespace spec_l07Hash
abbrev R := ByteArray
noncomputable def m (N : Nat) (a0 : ByteArray) : Option R :=
  bif (room a0.size 1) then
  ob (spec_l01Hash.m N (bytesOf a0)) fun y1 =>
  some y1
  else none
@[reducible] noncomputable def sp (N : Nat) : Spec E := { ps := [.val .str], rs := [.str], own := true, dp := false, R := R, fn := fun x => m N x.1, res := fun r => (r, ()), out := fun r => ((), ()), shut := fun a b => a.1, res_shut := fun _ _ => rfl, out_shut := fun _ _ => rfl }
end spec_l07Hash
/-! ### spec_l01Bits: loop.example/g00220/spec.l01Bits -/
namespace spec_l01Bits
abbrev R := ByteArray
noncomputable def step3 (N : Nat) (a0 : ByteArray) (lp6 : Int × Int × (List Int) → Option R) (rec : (Int × (List Int)) → Option R) : (Int × (List Int)) → Option R
  | (v1, v2) =>
    bif (decide (v1 < (a0.size : Int))) then
      lp6 (v1, (7:Int), v2)
    else
    some (strOf v2)
noncomputable def step6 (N : Nat) (a0 : ByteArray) (lp3 : Int × (List Int) → Option R) (rec : (Int × Int × (List Int)) → Option R) : (Int × Int × (List Int)) → Option R
  | (v1, v2, v3) =>
    bif (decide (v2 ≥ (0:Int))) then
      bif (decide (0 ≤ v1)) then
      bif (decide (v1 < (a0.size : Int))) then
      bif (!decide ((wu64 v2) < 0)) then
      bif (room (v3.length + ([(wu8 ((48:Int) + (ibit .and .u8 (Int.fdiv (sb a0 v1) (2 ^ (min (Int.toNat (wu64 v2)) 8))) (1:Int))))]).length) 1) then
      rec (v1, (w64 (v2 - (1:Int))), (v3 ++ [(wu8 ((48:Int) + (ibit .and .u8 (Int.fdiv (sb a0 v1) (2 ^ (min (Int.toNat (wu64 v2)) 8))) (1:Int))))]))
      else none
      else none
      else none
      else none
    else
    lp3 ((w64 (v1 + (1:Int))), v3)
noncomputable def lp6 (N : Nat) (a0 : ByteArray) (r3 : Int × (List Int) → Option R) : (Int × Int × (List Int)) → Option R :=
  miter (fun rec => step6 N a0 r3 rec) N
noncomputable def lp3 (N : Nat) (a0 : ByteArray) : (Int × (List Int)) → Option R :=
  miter (fun rec => step3 N a0 (lp6 N a0 rec) rec) N
noncomputable def m (N : Nat) (a0 : ByteArray) : Option R :=
  lp3 N a0 ((0:Int), ([] : List Int))
@[reducible] noncomputable def sp (N : Nat) : Spec E := { ps := [.val .str], rs := [.str], own := true, dp := false, R := R, fn := fun x => m N x.1, res := fun r => (r, ()), out := fun r => ((), ()), shut := fun a b => a.1, res_shut := fun _ _ => rfl, out_shut := fun _ _ => rfl }
end spec_l01Bits
/-! ### spec_l01In: loop.example/g00220/spec.l01In -/
namespace spec_l01In
abbrev R := Bool
noncomputable def m (N : Nat) (a0 : Int) (a1 : Int) (a2 : Int) : Option R :=
  bif (decide (a0 ≥ a1)) then
    some (bif true then (decide (a0 ≤ a2)) else false)
  else
  some false
@[reducible] noncomputable def sp (N : Nat) : Spec E := { ps := [.val (.int .i64), .val (.int .i64), .val (.int .i64)], rs := [.bool], own := true, dp := false, R := R, fn := fun x => m N x.1 x.2.1 x.2.2.1, res := fun r => (r, ()), out := fun r => ((), (), (), ()), shut := fun a b => a.1, res_shut := fun _ _ => rfl, out_shut := fun _ _ => rfl }
end spec_l01In
/-! ### spec_l07Count: loop.example/g00220/spec.l07Count -/
namespace spec_l07Count
abbrev R := Int
@[reducible] noncomputable def spf (f : Branch → Int → ByteArray → Int → Option R) : Spec E := { ps := [.val (.st 71), .val (.int .i64), .val .str, .val (.int .i64)], rs := [(.int .i64)], own := true, dp := false, R := R, fn := fun x => f x.1 x.2.1 x.2.2.1 x.2.2.2.1, res := fun r => (r, ()), out := fun r => ((), (), (), (), ()), shut := fun a b => a.1, res_shut := fun _ _ => rfl, out_shut := fun _ _ => rfl }
end spec_l07Count
namespace spec_l07Count
noncomputable def step11 (N : Nat) (slf : Branch → Int → ByteArray → Int → Option R) (a0 : Branch) (a1 : Int) (a2 : ByteArray) (a3 : Int) (lp21 : ByteArray × Int × Int → Option R) (rec : (Int × ByteArray × ByteArray × Int × (List Branch)) → Option R) : (Int × ByteArray × ByteArray × Int × (List Branch)) → Option R
  | (v2, v7, v8, v9, v10) =>
    bif (decide (v2 < (256:Int))) then
      ob (spec_l07Leaf.m N (Branch.mk v7 v8 v9 v10)) fun y6 =>
      bif (bif true then (!y6) else false) then
        bif (decide (0 ≤ (0:Int))) then
        bif (decide ((0:Int) < (v10.length : Int))) then
        rec ((w64 (v2 + (1:Int))), (v10.getD 0 Branch.dz).Key, (v10.getD 0 Branch.dz).Value, (v10.getD 0 Branch.dz).At, (v10.getD 0 Branch.dz).Kids)
        else none
        else none
      else
      ob (spec_l07Leaf.m N (Branch.mk v7 v8 v9 v10)) fun y7 =>
      bif (!y7) then
        some (-1:Int)
      else
      ob (spec_l02Key.m N v7) fun y8 =>
      bif (bif false then true else (!y8)) then
        some (-1:Int)
      else
      ob (spec_l07Hash.m N v7) fun y9 =>
      ob (spec_l01Bits.m N y9) fun y10 =>
      bif (decide (0 ≤ a0.At)) then
      bif (decide (a0.At ≤ ((y10.size : Nat) : Int))) then
      bif (decide ((a2.size : Int) > ((y10.extract 0 (Int.toNat a0.At)).size : Int))) then
        some (-1:Int)
      else
      bif (decide (0 ≤ (a2.size : Int))) then
      bif (decide ((a2.size : Int) ≤ (((y10.extract 0 (Int.toNat a0.At)).size : Nat) : Int))) then
      bif (bif false then true else (!seq ((y10.extract 0 (Int.toNat a0.At)).extract 0 (Int.toNat (a2.size : Int))) a2)) then
        some (-1:Int)
      else
      lp21 ((y10.extract 0 (Int.toNat a0.At)), (0:Int), (0:Int))
      else none
      else none
      else none
      else none
    else
    ob (spec_l07Leaf.m N (Branch.mk v7 v8 v9 v10)) fun y11 =>
    bif (!y11) then
      some (-1:Int)
    else
    ob (spec_l02Key.m N v7) fun y12 =>
    bif (bif false then true else (!y12)) then
      some (-1:Int)
    else
    ob (spec_l07Hash.m N v7) fun y13 =>
    ob (spec_l01Bits.m N y13) fun y14 =>
    bif (decide (0 ≤ a0.At)) then
    bif (decide (a0.At ≤ ((y14.size : Nat) : Int))) then
    bif (decide ((a2.size : Int) > ((y14.extract 0 (Int.toNat a0.At)).size : Int))) then
      some (-1:Int)
    else
    bif (decide (0 ≤ (a2.size : Int))) then
    bif (decide ((a2.size : Int) ≤ (((y14.extract 0 (Int.toNat a0.At)).size : Nat) : Int))) then
    bif (bif false then true else (!seq ((y14.extract 0 (Int.toNat a0.At)).extract 0 (Int.toNat (a2.size : Int))) a2)) then
      some (-1:Int)
    else
    lp21 ((y14.extract 0 (Int.toNat a0.At)), (0:Int), (0:Int))
    else none
    else none
    else none
    else none
noncomputable def step21 (N : Nat) (slf : Branch → Int → ByteArray → Int → Option R) (a0 : Branch) (a1 : Int) (a2 : ByteArray) (a3 : Int) (rec : (ByteArray × Int × Int) → Option R) : (ByteArray × Int × Int) → Option R
  | (v1, v2, v3) =>
    bif (decide (v3 < (2:Int))) then
      bif (decide (0 ≤ v3)) then
      bif (decide (v3 < (a0.Kids.length : Int))) then
      bif (decide (v1.size + (strOf ([(wu8 ((48:Int) + (wu8 v3)))])).size ≤ 9223372036854775807)) then
      ob (slf (Branch.mk ((a0.Kids.getD (Int.toNat v3) Branch.dz).Key) ((a0.Kids.getD (Int.toNat v3) Branch.dz).Value) ((a0.Kids.getD (Int.toNat v3) Branch.dz).At) ((a0.Kids.getD (Int.toNat v3) Branch.dz).Kids)) (w64 (a0.At + (1:Int))) (v1 ++ (strOf ([(wu8 ((48:Int) + (wu8 v3)))]))) (w64 (a3 - v2))) fun y15 =>
      bif (decide (y15 < (0:Int))) then
        some (-1:Int)
      else
      rec (v1, (w64 (v2 + y15)), (w64 (v3 + (1:Int))))
      else none
      else none
      else none
    else
    some v2
noncomputable def lp21 (N : Nat) (slf : Branch → Int → ByteArray → Int → Option R) (a0 : Branch) (a1 : Int) (a2 : ByteArray) (a3 : Int) : (ByteArray × Int × Int) → Option R :=
  miter (fun rec => step21 N slf a0 a1 a2 a3 rec) N
noncomputable def lp11 (N : Nat) (slf : Branch → Int → ByteArray → Int → Option R) (a0 : Branch) (a1 : Int) (a2 : ByteArray) (a3 : Int) : (Int × ByteArray × ByteArray × Int × (List Branch)) → Option R :=
  miter (fun rec => step11 N slf a0 a1 a2 a3 (lp21 N slf a0 a1 a2 a3) rec) N
noncomputable def mb (N : Nat) (slf : Branch → Int → ByteArray → Int → Option R) (a0 : Branch) (a1 : Int) (a2 : ByteArray) (a3 : Int) : Option R :=
  bif (decide (a3 < (1:Int))) then
    some (-1:Int)
  else
  ob (spec_l07Leaf.m N (Branch.mk a0.Key a0.Value a0.At a0.Kids)) fun y1 =>
  bif y1 then
    ob (spec_l02Key.m N a0.Key) fun y2 =>
    bif (!y2) then
      some (-1:Int)
    else
    bif (bif false then true else (decide ((a0.Value.size : Int) > (60:Int)))) then
      some (-1:Int)
    else
    bif (bif false then true else (a0.At != (256:Int))) then
      some (-1:Int)
    else
    ob (spec_l07Hash.m N a0.Key) fun y3 =>
    ob (spec_l01Bits.m N y3) fun y4 =>
    bif (decide (0 ≤ (a2.size : Int))) then
    bif (decide ((a2.size : Int) ≤ ((y4.size : Nat) : Int))) then
    bif (bif false then true else (!seq (y4.extract 0 (Int.toNat (a2.size : Int))) a2)) then
      some (-1:Int)
    else
    some (1:Int)
    else none
    else none
  else
  bif ((a0.Kids.length : Int) != (2:Int)) then
    some (-1:Int)
  else
  bif (bif false then true else (!seq a0.Key ByteArray.empty)) then
    some (-1:Int)
  else
  bif (bif false then true else (!seq a0.Value ByteArray.empty)) then
    some (-1:Int)
  else
  ob (spec_l01In.m N a0.At a1 (255:Int)) fun y5 =>
  bif (bif false then true else (!y5)) then
    some (-1:Int)
  else
  bif (decide (0 ≤ (0:Int))) then
  bif (decide ((0:Int) < (a0.Kids.length : Int))) then
  lp11 N slf a0 a1 a2 a3 ((0:Int), (a0.Kids.getD 0 Branch.dz).Key, (a0.Kids.getD 0 Branch.dz).Value, (a0.Kids.getD 0 Branch.dz).At, (a0.Kids.getD 0 Branch.dz).Kids)
  else none
  else none
noncomputable def mF (N : Nat) : Nat → Branch → Int → ByteArray → Int → Option R
  | 0 => fun _ _ _ _ => none
  | n + 1 => fun a0 a1 a2 a3 => mb N (mF N n) a0 a1 a2 a3
noncomputable def m (N : Nat) : Branch → Int → ByteArray → Int → Option R := mF N N
@[reducible] noncomputable def sp (N : Nat) : Spec E := spf (m N)
end spec_l07Count
/-! ### spec_MapOK: loop.example/g00220/spec.MapOK -/
namespace spec_MapOK
abbrev R := Bool
noncomputable def m (N : Nat) (a0 : Branch) : Option R :=
  ob (spec_l07Empty.m N (Branch.mk a0.Key a0.Value a0.At a0.Kids)) fun y1 =>
  bif y1 then
    some true
  else
  ob (spec_l07Count.m N (Branch.mk a0.Key a0.Value a0.At a0.Kids) (0:Int) ByteArray.empty (40:Int)) fun y2 =>
  some (bif false then true else (decide (y2 > (0:Int))))
@[reducible] noncomputable def sp (N : Nat) : Spec E := { ps := [.val (.st 71)], rs := [.bool], own := true, dp := false, R := R, fn := fun x => m N x.1, res := fun r => (r, ()), out := fun r => ((), ()), shut := fun a b => a.1, res_shut := fun _ _ => rfl, out_shut := fun _ _ => rfl }
end spec_MapOK
/-! ### spec_l07New: loop.example/g00220/spec.l07New -/
namespace spec_l07New
abbrev R := Branch
noncomputable def m (N : Nat) (a0 : ByteArray) (a1 : ByteArray) : Option R :=
  some (Branch.mk a0 a1 (256:Int) ([] : List Branch))
@[reducible] noncomputable def sp (N : Nat) : Spec E := { ps := [.val .str, .val .str], rs := [(.st 71)], own := true, dp := true, R := R, fn := fun x => m N x.1 x.2.1, res := fun r => (r, ()), out := fun r => ((), (), ()), shut := fun a b => a.1, res_shut := fun _ _ => rfl, out_shut := fun _ _ => rfl }
end spec_l07New
/-! ### spec_l07Bit: loop.example/g00220/spec.l07Bit -/
namespace spec_l07Bit
abbrev R := Int
noncomputable def m (N : Nat) (a0 : ByteArray) (a1 : Int) : Option R :=
  bif (!decide ((8:Int) = 0)) then
  bif (decide (0 ≤ (w64 (Int.tdiv a1 (8:Int))))) then
  bif (decide ((w64 (Int.tdiv a1 (8:Int))) < (a0.size : Int))) then
  bif (!decide ((8:Int) = 0)) then
  bif (!decide ((wu64 (w64 ((7:Int) - (Int.tmod a1 (8:Int))))) < 0)) then
  (let w1 : Int := (ibit .and .i64 (w64 (Int.fdiv (sb a0 (w64 (Int.tdiv a1 (8:Int)))) (2 ^ (min (Int.toNat (wu64 (w64 ((7:Int) - (Int.tmod a1 (8:Int)))))) 8)))) (1:Int))
  some w1)
  else none
  else none
  else none
  else none
  else none
@[reducible] noncomputable def sp (N : Nat) : Spec E := { ps := [.val .str, .val (.int .i64)], rs := [(.int .i64)], own := true, dp := false, R := R, fn := fun x => m N x.1 x.2.1, res := fun r => (r, ()), out := fun r => ((), (), ()), shut := fun a b => a.1, res_shut := fun _ _ => rfl, out_shut := fun _ _ => rfl }
end spec_l07Bit
/-! ### spec_l07Near: loop.example/g00220/spec.l07Near -/
namespace spec_l07Near
abbrev R := ByteArray
noncomputable def step1 (N : Nat) (a0 : Branch) (a1 : ByteArray) (rec : (ByteArray × ByteArray × Int × (List Branch)) → Option R) : (ByteArray × ByteArray × Int × (List Branch)) → Option R
  | (v1, v2, v3, v4) =>
    ob (spec_l07Leaf.m N (Branch.mk v1 v2 v3 v4)) fun y1 =>
    bif (!y1) then
      ob (spec_l07Bit.m N a1 v3) fun y2 =>
      bif (decide (0 ≤ y2)) then
      bif (decide (y2 < (v4.length : Int))) then
      rec ((v4.getD (Int.toNat y2) Branch.dz).Key, (v4.getD (Int.toNat y2) Branch.dz).Value, (v4.getD (Int.toNat y2) Branch.dz).At, (v4.getD (Int.toNat y2) Branch.dz).Kids)
      else none
      else none
    else
    ob (spec_l07Hash.m N v1) fun y3 =>
    some y3
noncomputable def lp1 (N : Nat) (a0 : Branch) (a1 : ByteArray) : (ByteArray × ByteArray × Int × (List Branch)) → Option R :=
  miter (fun rec => step1 N a0 a1 rec) N
noncomputable def m (N : Nat) (a0 : Branch) (a1 : ByteArray) : Option R :=
  lp1 N a0 a1 (a0.Key, a0.Value, a0.At, a0.Kids)
@[reducible] noncomputable def sp (N : Nat) : Spec E := { ps := [.val (.st 71), .val .str], rs := [.str], own := true, dp := false, R := R, fn := fun x => m N x.1 x.2.1, res := fun r => (r, ()), out := fun r => ((), (), ()), shut := fun a b => a.1, res_shut := fun _ _ => rfl, out_shut := fun _ _ => rfl }
end spec_l07Near
/-! ### spec_l07Differ: loop.example/g00220/spec.l07Differ -/
namespace spec_l07Differ
abbrev R := Int
noncomputable def step2 (N : Nat) (a0 : ByteArray) (a1 : ByteArray) (rec : Int → Option R) : Int → Option R
  | v2 =>
    bif (decide (v2 < (256:Int))) then
      ob (spec_l07Bit.m N a0 v2) fun y1 =>
      ob (spec_l07Bit.m N a1 v2) fun y2 =>
      bif (y1 != y2) then
        some v2
      else
      rec (w64 (v2 + (1:Int)))
    else
    some (256:Int)
noncomputable def lp2 (N : Nat) (a0 : ByteArray) (a1 : ByteArray) : Int → Option R :=
  miter (fun rec => step2 N a0 a1 rec) N
noncomputable def m (N : Nat) (a0 : ByteArray) (a1 : ByteArray) : Option R :=
  lp2 N a0 a1 (0:Int)
@[reducible] noncomputable def sp (N : Nat) : Spec E := { ps := [.val .str, .val .str], rs := [(.int .i64)], own := true, dp := false, R := R, fn := fun x => m N x.1 x.2.1, res := fun r => (r, ()), out := fun r => ((), (), ()), shut := fun a b => a.1, res_shut := fun _ _ => rfl, out_shut := fun _ _ => rfl }
end spec_l07Differ
/-! ### spec_l07Insert: loop.example/g00220/spec.l07Insert -/
namespace spec_l07Insert
abbrev R := Branch
@[reducible] noncomputable def spf (f : Branch → ByteArray → Int → Branch → Option R) : Spec E := { ps := [.val (.st 71), .val .str, .val (.int .i64), .val (.st 71)], rs := [(.st 71)], own := false, dp := false, R := R, fn := fun x => f x.1 x.2.1 x.2.2.1 x.2.2.2.1, res := fun r => (r, ()), out := fun r => ((), (), (), (), ()), shut := fun a b => a.1, res_shut := fun _ _ => rfl, out_shut := fun _ _ => rfl }
end spec_l07Insert
namespace spec_l07Insert
noncomputable def mb (N : Nat) (slf : Branch → ByteArray → Int → Branch → Option R) (a0 : Branch) (a1 : ByteArray) (a2 : Int) (a3 : Branch) : Option R :=
  bif (a2 == (256:Int)) then
    ob (spec_l07Leaf.m N (Branch.mk a0.Key a0.Value a0.At a0.Kids)) fun y1 =>
    bif (bif true then y1 else false) then
      some (Branch.mk a3.Key a3.Value a3.At a3.Kids)
    else
    ob (spec_l07Leaf.m N (Branch.mk a0.Key a0.Value a0.At a0.Kids)) fun y2 =>
    bif y2 then
      ob (spec_l07Bit.m N a1 a2) fun y3 =>
      bif (y3 == (0:Int)) then
        some (Branch.mk ByteArray.empty ByteArray.empty a2 ([(Branch.mk a3.Key a3.Value a3.At a3.Kids), (Branch.mk a0.Key a0.Value a0.At a0.Kids)]))
      else
      some (Branch.mk ByteArray.empty ByteArray.empty a2 ([(Branch.mk a0.Key a0.Value a0.At a0.Kids), (Branch.mk a3.Key a3.Value a3.At a3.Kids)]))
    else
    bif (bif false then true else (decide (a0.At > a2))) then
      ob (spec_l07Bit.m N a1 a2) fun y4 =>
      bif (y4 == (0:Int)) then
        some (Branch.mk ByteArray.empty ByteArray.empty a2 ([(Branch.mk a3.Key a3.Value a3.At a3.Kids), (Branch.mk a0.Key a0.Value a0.At a0.Kids)]))
      else
      some (Branch.mk ByteArray.empty ByteArray.empty a2 ([(Branch.mk a0.Key a0.Value a0.At a0.Kids), (Branch.mk a3.Key a3.Value a3.At a3.Kids)]))
    else
    ob (spec_l07Bit.m N a1 a0.At) fun y5 =>
    bif (room (([] : List Branch).length + a0.Kids.length) 64) then
    bif (decide (0 ≤ y5)) then
    bif (decide (y5 < (a0.Kids.length : Int))) then
    ob (slf (Branch.mk ((a0.Kids.getD (Int.toNat y5) Branch.dz).Key) ((a0.Kids.getD (Int.toNat y5) Branch.dz).Value) ((a0.Kids.getD (Int.toNat y5) Branch.dz).At) ((a0.Kids.getD (Int.toNat y5) Branch.dz).Kids)) a1 a2 (Branch.mk a3.Key a3.Value a3.At a3.Kids)) fun y6 =>
    bif (decide (0 ≤ y5)) then
    bif (decide (y5 < ((([] : List Branch) ++ a0.Kids).length : Int))) then
    some (Branch.mk ByteArray.empty ByteArray.empty a0.At ((([] : List Branch) ++ a0.Kids).set (Int.toNat y5) (Branch.mk y6.Key y6.Value y6.At y6.Kids)))
    else none
    else none
    else none
    else none
    else none
  else
  ob (spec_l07Leaf.m N (Branch.mk a0.Key a0.Value a0.At a0.Kids)) fun y7 =>
  bif y7 then
    ob (spec_l07Bit.m N a1 a2) fun y8 =>
    bif (y8 == (0:Int)) then
      some (Branch.mk ByteArray.empty ByteArray.empty a2 ([(Branch.mk a3.Key a3.Value a3.At a3.Kids), (Branch.mk a0.Key a0.Value a0.At a0.Kids)]))
    else
    some (Branch.mk ByteArray.empty ByteArray.empty a2 ([(Branch.mk a0.Key a0.Value a0.At a0.Kids), (Branch.mk a3.Key a3.Value a3.At a3.Kids)]))
  else
  bif (bif false then true else (decide (a0.At > a2))) then
    ob (spec_l07Bit.m N a1 a2) fun y9 =>
    bif (y9 == (0:Int)) then
      some (Branch.mk ByteArray.empty ByteArray.empty a2 ([(Branch.mk a3.Key a3.Value a3.At a3.Kids), (Branch.mk a0.Key a0.Value a0.At a0.Kids)]))
    else
    some (Branch.mk ByteArray.empty ByteArray.empty a2 ([(Branch.mk a0.Key a0.Value a0.At a0.Kids), (Branch.mk a3.Key a3.Value a3.At a3.Kids)]))
  else
  ob (spec_l07Bit.m N a1 a0.At) fun y10 =>
  bif (room (([] : List Branch).length + a0.Kids.length) 64) then
  bif (decide (0 ≤ y10)) then
  bif (decide (y10 < (a0.Kids.length : Int))) then
  ob (slf (Branch.mk ((a0.Kids.getD (Int.toNat y10) Branch.dz).Key) ((a0.Kids.getD (Int.toNat y10) Branch.dz).Value) ((a0.Kids.getD (Int.toNat y10) Branch.dz).At) ((a0.Kids.getD (Int.toNat y10) Branch.dz).Kids)) a1 a2 (Branch.mk a3.Key a3.Value a3.At a3.Kids)) fun y11 =>
  bif (decide (0 ≤ y10)) then
  bif (decide (y10 < ((([] : List Branch) ++ a0.Kids).length : Int))) then
  some (Branch.mk ByteArray.empty ByteArray.empty a0.At ((([] : List Branch) ++ a0.Kids).set (Int.toNat y10) (Branch.mk y11.Key y11.Value y11.At y11.Kids)))
  else none
  else none
  else none
  else none
  else none
noncomputable def mF (N : Nat) : Nat → Branch → ByteArray → Int → Branch → Option R
  | 0 => fun _ _ _ _ => none
  | n + 1 => fun a0 a1 a2 a3 => mb N (mF N n) a0 a1 a2 a3
noncomputable def m (N : Nat) : Branch → ByteArray → Int → Branch → Option R := mF N N
@[reducible] noncomputable def sp (N : Nat) : Spec E := spf (m N)
end spec_l07Insert
/-! ### spec_l07Put: loop.example/g00220/spec.l07Put -/
namespace spec_l07Put
abbrev R := Branch
noncomputable def m (N : Nat) (a0 : Branch) (a1 : ByteArray) (a2 : ByteArray) : Option R :=
  ob (spec_l07Empty.m N (Branch.mk a0.Key a0.Value a0.At a0.Kids)) fun y1 =>
  bif y1 then
    ob (spec_l07New.m N a1 a2) fun y2 =>
    some (Branch.mk y2.Key y2.Value y2.At y2.Kids)
  else
  ob (spec_l07Hash.m N a1) fun y3 =>
  ob (spec_l07Near.m N (Branch.mk a0.Key a0.Value a0.At a0.Kids) y3) fun y4 =>
  ob (spec_l07Differ.m N y3 y4) fun y5 =>
  ob (spec_l07New.m N a1 a2) fun y6 =>
  ob (spec_l07Insert.m N (Branch.mk a0.Key a0.Value a0.At a0.Kids) y3 y5 (Branch.mk y6.Key y6.Value y6.At y6.Kids)) fun y7 =>
  some (Branch.mk y7.Key y7.Value y7.At y7.Kids)
@[reducible] noncomputable def sp (N : Nat) : Spec E := { ps := [.val (.st 71), .val .str, .val .str], rs := [(.st 71)], own := false, dp := false, R := R, fn := fun x => m N x.1 x.2.1 x.2.2.1, res := fun r => (r, ()), out := fun r => ((), (), (), ()), shut := fun a b => a.1, res_shut := fun _ _ => rfl, out_shut := fun _ _ => rfl }
end spec_l07Put
/-! ### spec_l07Size: loop.example/g00220/spec.l07Size -/
namespace spec_l07Size
abbrev R := Int
@[reducible] noncomputable def spf (f : Branch → Option R) : Spec E := { ps := [.val (.st 71)], rs := [(.int .i64)], own := true, dp := false, R := R, fn := fun x => f x.1, res := fun r => (r, ()), out := fun r => ((), ()), shut := fun a b => a.1, res_shut := fun _ _ => rfl, out_shut := fun _ _ => rfl }
end spec_l07Size
namespace spec_l07Size
noncomputable def mb (N : Nat) (slf : Branch → Option R) (a0 : Branch) : Option R :=
  ob (spec_l07Empty.m N (Branch.mk a0.Key a0.Value a0.At a0.Kids)) fun y1 =>
  bif y1 then
    some (0:Int)
  else
  ob (spec_l07Leaf.m N (Branch.mk a0.Key a0.Value a0.At a0.Kids)) fun y2 =>
  bif y2 then
    some (1:Int)
  else
  bif (decide (0 ≤ (0:Int))) then
  bif (decide ((0:Int) < (a0.Kids.length : Int))) then
  ob (slf (Branch.mk ((a0.Kids.getD 0 Branch.dz).Key) ((a0.Kids.getD 0 Branch.dz).Value) ((a0.Kids.getD 0 Branch.dz).At) ((a0.Kids.getD 0 Branch.dz).Kids))) fun y3 =>
  bif (decide (0 ≤ (1:Int))) then
  bif (decide ((1:Int) < (a0.Kids.length : Int))) then
  ob (slf (Branch.mk ((a0.Kids.getD 1 Branch.dz).Key) ((a0.Kids.getD 1 Branch.dz).Value) ((a0.Kids.getD 1 Branch.dz).At) ((a0.Kids.getD 1 Branch.dz).Kids))) fun y4 =>
  some (w64 (y3 + y4))
  else none
  else none
  else none
  else none
noncomputable def mF (N : Nat) : Nat → Branch → Option R
  | 0 => fun _ => none
  | n + 1 => fun a0 => mb N (mF N n) a0
noncomputable def m (N : Nat) : Branch → Option R := mF N N
@[reducible] noncomputable def sp (N : Nat) : Spec E := spf (m N)
end spec_l07Size
/-! ### spec_l07Own: loop.example/g00220/spec.l07Own -/
namespace spec_l07Own
abbrev R := Branch
@[reducible] noncomputable def spf (f : Branch → Option R) : Spec E := { ps := [.val (.st 71)], rs := [(.st 71)], own := true, dp := true, R := R, fn := fun x => f x.1, res := fun r => (r, ()), out := fun r => ((), ()), shut := fun a b => a.1, res_shut := fun _ _ => rfl, out_shut := fun _ _ => rfl }
end spec_l07Own
namespace spec_l07Own
inductive A3 where
  | s0 (v0 : Int) (v5 : ByteArray) (v6 : ByteArray) (v7 : Int)
  | s1 (v0 : Int) (v5 : ByteArray) (v6 : ByteArray) (v7 : Int) (v11 : List Branch)
noncomputable def step3 (N : Nat) (slf : Branch → Option R) (a0 : Branch) (rec : A3 → Option R) : A3 → Option R
  | .s0 v0 v5 v6 v7 =>
    bif (decide (v0 < (a0.Kids.length : Int))) then
      bif (decide (0 ≤ v0)) then
      bif (decide (v0 < (a0.Kids.length : Int))) then
      ob (slf (Branch.mk ((a0.Kids.getD (Int.toNat v0) Branch.dz).Key) ((a0.Kids.getD (Int.toNat v0) Branch.dz).Value) ((a0.Kids.getD (Int.toNat v0) Branch.dz).At) ((a0.Kids.getD (Int.toNat v0) Branch.dz).Kids))) fun y1 =>
      bif (room ([(Branch.mk y1.Key y1.Value y1.At y1.Kids)]).length 64) then
      rec (.s1 (w64 (v0 + (1:Int))) v5 v6 v7 ([(Branch.mk y1.Key y1.Value y1.At y1.Kids)]))
      else none
      else none
      else none
    else
    some (Branch.mk a0.Key a0.Value a0.At ([] : List Branch))
  | .s1 v0 v5 v6 v7 v11 =>
    bif (decide (v0 < (a0.Kids.length : Int))) then
      bif (decide (0 ≤ v0)) then
      bif (decide (v0 < (a0.Kids.length : Int))) then
      ob (slf (Branch.mk ((a0.Kids.getD (Int.toNat v0) Branch.dz).Key) ((a0.Kids.getD (Int.toNat v0) Branch.dz).Value) ((a0.Kids.getD (Int.toNat v0) Branch.dz).At) ((a0.Kids.getD (Int.toNat v0) Branch.dz).Kids))) fun y2 =>
      bif (room (v11.length + ([(Branch.mk y2.Key y2.Value y2.At y2.Kids)]).length) 64) then
      rec (.s1 (w64 (v0 + (1:Int))) v5 v6 v7 (v11 ++ [(Branch.mk y2.Key y2.Value y2.At y2.Kids)]))
      else none
      else none
      else none
    else
    some (Branch.mk a0.Key a0.Value a0.At v11)
noncomputable def lp3 (N : Nat) (slf : Branch → Option R) (a0 : Branch) : A3 → Option R :=
  miter (fun rec => step3 N slf a0 rec) N
noncomputable def mb (N : Nat) (slf : Branch → Option R) (a0 : Branch) : Option R :=
  lp3 N slf a0 (.s0 (0:Int) ByteArray.empty ByteArray.empty (0:Int))
noncomputable def mF (N : Nat) : Nat → Branch → Option R
  | 0 => fun _ => none
  | n + 1 => fun a0 => mb N (mF N n) a0
noncomputable def m (N : Nat) : Branch → Option R := mF N N
@[reducible] noncomputable def sp (N : Nat) : Spec E := spf (m N)
end spec_l07Own
/-! ### spec_MapPut: loop.example/g00220/spec.MapPut -/
namespace spec_MapPut
abbrev R := Branch × Int
noncomputable def m (N : Nat) (a0 : Branch) (a1 : ByteArray) (a2 : ByteArray) : Option R :=
  bif (decide ((a1.size : Int) > (65536:Int))) then
    some ((Branch.mk ByteArray.empty ByteArray.empty (0:Int) ([] : List Branch)), (2:Int))
  else
  bif (bif false then true else (decide ((a2.size : Int) > (65536:Int)))) then
    some ((Branch.mk ByteArray.empty ByteArray.empty (0:Int) ([] : List Branch)), (2:Int))
  else
  ob (spec_MapOK.m N (Branch.mk a0.Key a0.Value a0.At a0.Kids)) fun y1 =>
  bif (!y1) then
    some ((Branch.mk ByteArray.empty ByteArray.empty (0:Int) ([] : List Branch)), (1:Int))
  else
  ob (spec_l02Key.m N a1) fun y2 =>
  bif (bif false then true else (!y2)) then
    some ((Branch.mk ByteArray.empty ByteArray.empty (0:Int) ([] : List Branch)), (1:Int))
  else
  bif (bif false then true else (decide ((a2.size : Int) > (60:Int)))) then
    some ((Branch.mk ByteArray.empty ByteArray.empty (0:Int) ([] : List Branch)), (1:Int))
  else
  ob (spec_l07Put.m N (Branch.mk a0.Key a0.Value a0.At a0.Kids) a1 a2) fun y3 =>
  ob (spec_l07Size.m N (Branch.mk y3.Key y3.Value y3.At y3.Kids)) fun y4 =>
  bif (decide (y4 > (40:Int))) then
    some ((Branch.mk ByteArray.empty ByteArray.empty (0:Int) ([] : List Branch)), (7:Int))
  else
  ob (spec_l07Own.m N (Branch.mk y3.Key y3.Value y3.At y3.Kids)) fun y5 =>
  some ((Branch.mk y5.Key y5.Value y5.At y5.Kids), (0:Int))
@[reducible] noncomputable def sp (N : Nat) : Spec E := { ps := [.val (.st 71), .val .str, .val .str], rs := [(.st 71), (.int .i64)], own := true, dp := true, R := R, fn := fun x => m N x.1 x.2.1 x.2.2.1, res := fun r => (r.1, r.2, ()), out := fun r => ((), (), (), ()), shut := fun a b => (a.1, a.2.1), res_shut := fun _ _ => rfl, out_shut := fun _ _ => rfl }
end spec_MapPut
/-! ### impl_isText_1: loop.example/g00220/impl.isText$1 -/
namespace impl_isText_1
abbrev R := Bool
noncomputable def m (N : Nat) (a0 : ByteArray) : Option R :=
  some (decide ((a0.size : Int) > (65536:Int)))
@[reducible] noncomputable def sp (N : Nat) : Spec E := { ps := [.val .str], rs := [.bool], own := true, dp := false, R := R, fn := fun x => m N x.1, res := fun r => (r, ()), out := fun r => ((), ()), shut := fun a b => a.1, res_shut := fun _ _ => rfl, out_shut := fun _ _ => rfl }
end impl_isText_1
/-! ### slices_IndexFunc_string_string__impl_isText_1: slices.IndexFunc[[]string,string] -/
namespace slices_IndexFunc_string_string__impl_isText_1
abbrev R := Int
noncomputable def step2 (N : Nat) (a0 : List ByteArray) (rec : (Int × Int) → Option R) : (Int × Int) → Option R
  | (v1, v2) =>
    bif (decide (v2 < v1)) then
      bif (decide (0 ≤ v2)) then
      bif (decide (v2 < (a0.length : Int))) then
      ob (impl_isText_1.m N (a0.getD (Int.toNat v2) ByteArray.empty)) fun y1 =>
      bif y1 then
        some v2
      else
      rec (v1, (w64 (v2 + (1:Int))))
      else none
      else none
    else
    some (-1:Int)
noncomputable def lp2 (N : Nat) (a0 : List ByteArray) : (Int × Int) → Option R :=
  miter (fun rec => step2 N a0 rec) N
noncomputable def m (N : Nat) (a0 : List ByteArray) : Option R :=
  lp2 N a0 ((a0.length : Int), (0:Int))
@[reducible] noncomputable def sp (N : Nat) : Spec E := { ps := [.val (.slice 9 .str), .clo 154 []], rs := [(.int .i64)], own := true, dp := false, R := R, fn := fun x => m N x.1, res := fun r => (r, ()), out := fun r => ((), (), ()), shut := fun a b => a.1, res_shut := fun _ _ => rfl, out_shut := fun _ _ => rfl }
end slices_IndexFunc_string_string__impl_isText_1
/-! ### slices_ContainsFunc_string_string__impl_isText_1: slices.ContainsFunc[[]string,string] -/
namespace slices_ContainsFunc_string_string__impl_isText_1
abbrev R := Bool
noncomputable def m (N : Nat) (a0 : List ByteArray) : Option R :=
  ob (slices_IndexFunc_string_string__impl_isText_1.m N a0) fun y1 =>
  some (decide (y1 ≥ (0:Int)))
@[reducible] noncomputable def sp (N : Nat) : Spec E := { ps := [.val (.slice 9 .str), .clo 154 []], rs := [.bool], own := true, dp := false, R := R, fn := fun x => m N x.1, res := fun r => (r, ()), out := fun r => ((), (), ()), shut := fun a b => a.1, res_shut := fun _ _ => rfl, out_shut := fun _ _ => rfl }
end slices_ContainsFunc_string_string__impl_isText_1
/-! ### impl_isText: loop.example/g00220/impl.isText -/
namespace impl_isText
abbrev R := Bool
noncomputable def m (N : Nat) (a0 : List ByteArray) : Option R :=
  ob (slices_ContainsFunc_string_string__impl_isText_1.m N a0) fun y1 =>
  some (!y1)
@[reducible] noncomputable def sp (N : Nat) : Spec E := { ps := [.val (.slice 9 .str)], rs := [.bool], own := true, dp := false, R := R, fn := fun x => m N x.1, res := fun r => (r, ()), out := fun r => ((), ()), shut := fun a b => a.1, res_shut := fun _ _ => rfl, out_shut := fun _ _ => rfl }
end impl_isText
/-! ### impl_Branch_isEmpty: (loop.example/g00220/impl.Branch).isEmpty -/
namespace impl_Branch_isEmpty
abbrev R := Bool
noncomputable def m (N : Nat) (a0 : Branch) : Option R :=
  bif (seq a0.Key ByteArray.empty) then
    bif (bif true then (seq a0.Value ByteArray.empty) else false) then
      bif (bif true then (a0.At == (0:Int)) else false) then
        some (bif true then ((a0.Kids.length : Int) == (0:Int)) else false)
      else
      some false
    else
    some false
  else
  some false
@[reducible] noncomputable def sp (N : Nat) : Spec E := { ps := [.val (.st 71)], rs := [.bool], own := true, dp := false, R := R, fn := fun x => m N x.1, res := fun r => (r, ()), out := fun r => ((), ()), shut := fun a b => a.1, res_shut := fun _ _ => rfl, out_shut := fun _ _ => rfl }
end impl_Branch_isEmpty
/-! ### impl_within: loop.example/g00220/impl.within -/
namespace impl_within
abbrev R := Bool
noncomputable def m (N : Nat) (a0 : Int) (a1 : Int) (a2 : Int) : Option R :=
  bif (decide (a0 ≥ a1)) then
    some (bif true then (decide (a0 ≤ a2)) else false)
  else
  some false
@[reducible] noncomputable def sp (N : Nat) : Spec E := { ps := [.val (.int .i64), .val (.int .i64), .val (.int .i64)], rs := [.bool], own := true, dp := false, R := R, fn := fun x => m N x.1 x.2.1 x.2.2.1, res := fun r => (r, ()), out := fun r => ((), (), (), ()), shut := fun a b => a.1, res_shut := fun _ _ => rfl, out_shut := fun _ _ => rfl }
end impl_within
/-! ### impl_isKey: loop.example/g00220/impl.isKey -/
namespace impl_isKey
abbrev R := Bool
noncomputable def m (N : Nat) (a0 : ByteArray) : Option R :=
  ob (impl_within.m N (a0.size : Int) (1:Int) (24:Int)) fun y1 =>
  some y1
@[reducible] noncomputable def sp (N : Nat) : Spec E := { ps := [.val .str], rs := [.bool], own := true, dp := false, R := R, fn := fun x => m N x.1, res := fun r => (r, ()), out := fun r => ((), ()), shut := fun a b => a.1, res_shut := fun _ _ => rfl, out_shut := fun _ _ => rfl }
end impl_isKey
/-! ### impl_isValue: loop.example/g00220/impl.isValue -/
namespace impl_isValue
abbrev R := Bool
noncomputable def m (N : Nat) (a0 : ByteArray) : Option R :=
  some (decide ((a0.size : Int) ≤ (60:Int)))
@[reducible] noncomputable def sp (N : Nat) : Spec E := { ps := [.val .str], rs := [.bool], own := true, dp := false, R := R, fn := fun x => m N x.1, res := fun r => (r, ()), out := fun r => ((), ()), shut := fun a b => a.1, res_shut := fun _ _ => rfl, out_shut := fun _ _ => rfl }
end impl_isValue
/-! ### impl_Branch_isLeaf: (loop.example/g00220/impl.Branch).isLeaf -/
namespace impl_Branch_isLeaf
abbrev R := Bool
noncomputable def m (N : Nat) (a0 : Branch) : Option R :=
  bif (a0.At == (256:Int)) then
    ob (impl_isKey.m N a0.Key) fun y1 =>
    bif (bif true then y1 else false) then
      ob (impl_isValue.m N a0.Value) fun y2 =>
      bif (bif true then y2 else false) then
        some (bif true then ((a0.Kids.length : Int) == (0:Int)) else false)
      else
      some false
    else
    some false
  else
  some false
@[reducible] noncomputable def sp (N : Nat) : Spec E := { ps := [.val (.st 71)], rs := [.bool], own := true, dp := false, R := R, fn := fun x => m N x.1, res := fun r => (r, ()), out := fun r => ((), ()), shut := fun a b => a.1, res_shut := fun _ _ => rfl, out_shut := fun _ _ => rfl }
end impl_Branch_isLeaf
/-! ### strings_Repeat: strings.Repeat, by the shelf's contract -/
namespace strings_Repeat
abbrev R := ByteArray
def rep (s : ByteArray) (n : Nat) : ByteArray := ⟨((List.replicate n s.data.toList).flatten).toArray⟩
noncomputable def m (N : Nat) (a0 : ByteArray) (a1 : Int) : Option R :=
  bif decide (0 ≤ a1) && decide (a1 ≤ 9223372036854775807) && decide (a0.size * a1.toNat ≤ 140737488355328) then some (rep a0 a1.toNat) else none
@[reducible] noncomputable def sp (N : Nat) : Spec E := { ps := [.val .str, .val (.int .i64)], rs := [.str], own := true, dp := false, R := R, fn := fun x => m N x.1 x.2.1, res := fun r => (r, ()), out := fun r => ((), (), ()), shut := fun a b => a.1, res_shut := fun _ _ => rfl, out_shut := fun _ _ => rfl }
end strings_Repeat
/-! ### impl_number: loop.example/g00220/impl.number -/
namespace impl_number
abbrev R := ByteArray
noncomputable def step3 (N : Nat) (a0 : Int) (a1 : Int) (rec : (Int × Int × (List Int)) → Option R) : (Int × Int × (List Int)) → Option R
  | (v0, v1, v2) =>
    bif (decide (v1 ≥ (0:Int))) then
      bif (decide (0 ≤ v1)) then
      bif (decide (v1 < (v2.length : Int))) then
      bif (!decide ((8:Int) < 0)) then
      rec ((Int.fdiv v0 (2 ^ (min (Int.toNat (8:Int)) 64))), (w64 (v1 - (1:Int))), (v2.set (Int.toNat v1) (wu8 v0)))
      else none
      else none
      else none
    else
    some (strOf v2)
noncomputable def lp3 (N : Nat) (a0 : Int) (a1 : Int) : (Int × Int × (List Int)) → Option R :=
  miter (fun rec => step3 N a0 a1 rec) N
noncomputable def m (N : Nat) (a0 : Int) (a1 : Int) : Option R :=
  bif (decide (0 ≤ a1)) then
  bif (room (Int.toNat a1) 1) then
  lp3 N a0 a1 (a0, (w64 (a1 - (1:Int))), (List.replicate (Int.toNat a1) (0:Int)))
  else none
  else none
@[reducible] noncomputable def sp (N : Nat) : Spec E := { ps := [.val (.int .i64), .val (.int .i64)], rs := [.str], own := true, dp := false, R := R, fn := fun x => m N x.1 x.2.1, res := fun r => (r, ()), out := fun r => ((), (), ()), shut := fun a b => a.1, res_shut := fun _ _ => rfl, out_shut := fun _ _ => rfl }
end impl_number
end Mir.Y
