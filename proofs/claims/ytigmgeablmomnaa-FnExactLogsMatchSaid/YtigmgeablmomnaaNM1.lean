/- Models of functions. -/
import Derived.Test.YtigmgeablmomnaaNE
namespace Mir.Y
set_option linter.unusedVariables false
set_option maxRecDepth 10000
open Go Go.Proofs Mir
/-! ### laws_toIntS: loop.example/g00220/laws.toIntS -/
namespace laws_toIntS
abbrev R := (List Int)
noncomputable def step3 (N : Nat) (a0 : List Int) (rec : (Int × (List Int)) → Option R) : (Int × (List Int)) → Option R
  | (v1, v2) =>
    bif (decide (v1 < (a0.length : Int))) then
      bif (decide (0 ≤ v1)) then
      bif (decide (v1 < (a0.length : Int))) then
      bif (decide (0 ≤ v1)) then
      bif (decide (v1 < (v2.length : Int))) then
      rec ((w64 (v1 + (1:Int))), (v2.set (Int.toNat v1) (a0.getD (Int.toNat v1) (0:Int))))
      else none
      else none
      else none
      else none
    else
    some v2
noncomputable def lp3 (N : Nat) (a0 : List Int) : (Int × (List Int)) → Option R :=
  miter (fun rec => step3 N a0 rec) N
noncomputable def m (N : Nat) (a0 : List Int) : Option R :=
  bif (decide (0 ≤ (a0.length : Int))) then
  bif (room (Int.toNat (a0.length : Int)) 8) then
  lp3 N a0 ((0:Int), (List.replicate (Int.toNat (a0.length : Int)) (0:Int)))
  else none
  else none
@[reducible] noncomputable def sp (N : Nat) : Spec E := { ps := [.val (.slice 3 (.int .i64))], rs := [(.slice 3 (.int .i64))], own := true, dp := false, R := R, fn := fun x => m N x.1, res := fun r => (r, ()), out := fun r => ((), ()), shut := fun a b => a.1, res_shut := fun _ _ => rfl, out_shut := fun _ _ => rfl }
end laws_toIntS
/-! ### spec_l01In: loop.example/g00220/spec.l01In -/
namespace spec_l01In
abbrev R := Bool
noncomputable def m (N : Nat) (a0 : Int) (a1 : Int) (a2 : Int) : Option R :=
  bif (decide (a0 ≥ a1)) then
    some (bif true then (decide (a0 ≤ a2)) else false)
  else
  some false
@[reducible] noncomputable def sp (N : Nat) : Spec E := { ps := [.val (.int .i64), .val (.int .i64), .val (.int .i64)], rs := [.bool], own := true, dp := false, R := R, fn := fun x => m N x.1 x.2.1 x.2.2.1, res := fun r => (r, ()), out := fun r => ((), (), (), ()), shut := fun a b => a.1, res_shut := fun _ _ => rfl, out_shut := fun _ _ => rfl }
end spec_l01In
/-! ### spec_l10Ids: loop.example/g00220/spec.l10Ids -/
namespace spec_l10Ids
abbrev R := Bool
noncomputable def step2 (N : Nat) (a0 : List Int) (rec : Int → Option R) : Int → Option R
  | v1 =>
    bif (decide (v1 < (a0.length : Int))) then
      bif (decide (0 ≤ v1)) then
      bif (decide (v1 < (a0.length : Int))) then
      ob (spec_l01In.m N (a0.getD (Int.toNat v1) (0:Int)) (0:Int) (6:Int)) fun y1 =>
      bif (!y1) then
        some false
      else
      bif (decide (v1 > (0:Int))) then
        bif (decide (0 ≤ (w64 (v1 - (1:Int))))) then
        bif (decide ((w64 (v1 - (1:Int))) < (a0.length : Int))) then
        bif (decide (0 ≤ v1)) then
        bif (decide (v1 < (a0.length : Int))) then
        (let w2 : Bool := (bif false then true else (bif true then (decide ((a0.getD (Int.toNat (w64 (v1 - (1:Int)))) (0:Int)) ≥ (a0.getD (Int.toNat v1) (0:Int)))) else false))
        bif w2 then
          some false
        else
        rec (w64 (v1 + (1:Int))))
        else none
        else none
        else none
        else none
      else
      bif (bif false then true else false) then
        some false
      else
      rec (w64 (v1 + (1:Int)))
      else none
      else none
    else
    some true
noncomputable def lp2 (N : Nat) (a0 : List Int) : Int → Option R :=
  miter (fun rec => step2 N a0 rec) N
noncomputable def m (N : Nat) (a0 : List Int) : Option R :=
  lp2 N a0 (0:Int)
@[reducible] noncomputable def sp (N : Nat) : Spec E := { ps := [.val (.slice 3 (.int .i64))], rs := [.bool], own := true, dp := false, R := R, fn := fun x => m N x.1, res := fun r => (r, ()), out := fun r => ((), ()), shut := fun a b => a.1, res_shut := fun _ _ => rfl, out_shut := fun _ _ => rfl }
end spec_l10Ids
/-! ### spec_l10New: loop.example/g00220/spec.l10New -/
namespace spec_l10New
abbrev R := Node
inductive A3 where
  | s0 (v0 : Int) (v1 : Int) (v2 : Int) (v3 : Int) (v4 : Int) (v5 : Int) (v6 : Int) (v7 : Int) (v9 : Int) (v10 : Int) (v11 : Int) (v12 : Int) (v13 : Int) (v14 : Int) (v15 : List Entry) (v16 : List Int) (v17 : List Int) (v18 : List Int)
  | s1 (v0 : Int) (v1 : Int) (v2 : Int) (v3 : Int) (v4 : Int) (v5 : Int) (v6 : Int) (v7 : Int) (v9 : Int) (v10 : Int) (v11 : Int) (v12 : Int) (v13 : Int) (v14 : Int) (v15 : List Entry) (v16 : List Int) (v17 : List Int) (v18 : List Int) (v19 : List Int)
noncomputable def step3 (N : Nat) (a0 : Int) (a1 : List Int) (rec : A3 → Option R) : A3 → Option R
  | .s0 v0 v1 v2 v3 v4 v5 v6 v7 v9 v10 v11 v12 v13 v14 v15 v16 v17 v18 =>
    bif (decide (v0 < (7:Int))) then
      bif (room ([(1:Int)]).length 8) then
      rec (.s1 (w64 (v0 + (1:Int))) v1 v2 v3 v4 v5 v6 v7 v9 v10 v11 v12 v13 v14 v15 v16 v17 ([(1:Int)]) v18)
      else none
    else
    some (Node.mk a0 v9 v10 v15 v16 v11 v17 ([] : List Int) v18 v12 v13 v14 true)
  | .s1 v0 v1 v2 v3 v4 v5 v6 v7 v9 v10 v11 v12 v13 v14 v15 v16 v17 v18 v19 =>
    bif (decide (v0 < (7:Int))) then
      bif (room (v18.length + ([(1:Int)]).length) 8) then
      rec (.s1 (w64 (v0 + (1:Int))) v1 v2 v3 v4 v5 v6 v7 v9 v10 v11 v12 v13 v14 v15 v16 v17 (v18 ++ [(1:Int)]) v19)
      else none
    else
    some (Node.mk a0 v9 v10 v15 v16 v11 v17 v18 v19 v12 v13 v14 true)
noncomputable def lp3 (N : Nat) (a0 : Int) (a1 : List Int) : A3 → Option R :=
  miter (fun rec => step3 N a0 a1 rec) N
noncomputable def m (N : Nat) (a0 : Int) (a1 : List Int) : Option R :=
  bif (room (([] : List Int).length + a1.length) 8) then
  bif (decide (0 ≤ (7:Int))) then
  bif (room 7 8) then
  lp3 N a0 a1 (.s0 (0:Int) (0:Int) (0:Int) (0:Int) (0:Int) (0:Int) (0:Int) (0:Int) (0:Int) (-1:Int) (0:Int) (0:Int) (0:Int) (w64 ((5:Int) + a0)) ([] : List Entry) (([] : List Int) ++ a1) ([] : List Int) (List.replicate 7 (0:Int)))
  else none
  else none
  else none
@[reducible] noncomputable def sp (N : Nat) : Spec E := { ps := [.val (.int .i64), .val (.slice 3 (.int .i64))], rs := [(.st 25)], own := true, dp := false, R := R, fn := fun x => m N x.1 x.2.1, res := fun r => (r, ()), out := fun r => ((), (), ()), shut := fun a b => a.1, res_shut := fun _ _ => rfl, out_shut := fun _ _ => rfl }
end spec_l10New
/-! ### spec_NewNode: loop.example/g00220/spec.NewNode -/
namespace spec_NewNode
abbrev R := Node × Int
noncomputable def m (N : Nat) (a0 : Int) (a1 : List Int) : Option R :=
  bif (decide ((a1.length : Int) > (4096:Int))) then
    some ((Node.mk (0:Int) (0:Int) (0:Int) ([] : List Entry) ([] : List Int) (0:Int) ([] : List Int) ([] : List Int) ([] : List Int) (0:Int) (0:Int) (0:Int) false), (2:Int))
  else
  ob (spec_l01In.m N a0 (0:Int) (6:Int)) fun y1 =>
  bif (!y1) then
    some ((Node.mk (0:Int) (0:Int) (0:Int) ([] : List Entry) ([] : List Int) (0:Int) ([] : List Int) ([] : List Int) ([] : List Int) (0:Int) (0:Int) (0:Int) false), (1:Int))
  else
  ob (spec_l10Ids.m N a1) fun y2 =>
  bif (bif false then true else (!y2)) then
    some ((Node.mk (0:Int) (0:Int) (0:Int) ([] : List Entry) ([] : List Int) (0:Int) ([] : List Int) ([] : List Int) ([] : List Int) (0:Int) (0:Int) (0:Int) false), (1:Int))
  else
  bif (bif false then true else ((a1.length : Int) == (0:Int))) then
    some ((Node.mk (0:Int) (0:Int) (0:Int) ([] : List Entry) ([] : List Int) (0:Int) ([] : List Int) ([] : List Int) ([] : List Int) (0:Int) (0:Int) (0:Int) false), (1:Int))
  else
  ob (spec_l10New.m N a0 a1) fun y3 =>
  some (y3, (0:Int))
@[reducible] noncomputable def sp (N : Nat) : Spec E := { ps := [.val (.int .i64), .val (.slice 3 (.int .i64))], rs := [(.st 25), (.int .i64)], own := true, dp := false, R := R, fn := fun x => m N x.1 x.2.1, res := fun r => (r.1, r.2, ()), out := fun r => ((), (), ()), shut := fun a b => (a.1, a.2.1), res_shut := fun _ _ => rfl, out_shut := fun _ _ => rfl }
end spec_NewNode
/-! ### impl_isList_int: loop.example/g00220/impl.isList[int] -/
namespace impl_isList_int
abbrev R := Bool
noncomputable def m (N : Nat) (a0 : List Int) : Option R :=
  some (decide ((a0.length : Int) ≤ (4096:Int)))
@[reducible] noncomputable def sp (N : Nat) : Spec E := { ps := [.val (.slice 3 (.int .i64))], rs := [.bool], own := true, dp := false, R := R, fn := fun x => m N x.1, res := fun r => (r, ()), out := fun r => ((), ()), shut := fun a b => a.1, res_shut := fun _ _ => rfl, out_shut := fun _ _ => rfl }
end impl_isList_int
/-! ### impl_within: loop.example/g00220/impl.within -/
namespace impl_within
abbrev R := Bool
noncomputable def m (N : Nat) (a0 : Int) (a1 : Int) (a2 : Int) : Option R :=
  bif (decide (a0 ≥ a1)) then
    some (bif true then (decide (a0 ≤ a2)) else false)
  else
  some false
@[reducible] noncomputable def sp (N : Nat) : Spec E := { ps := [.val (.int .i64), .val (.int .i64), .val (.int .i64)], rs := [.bool], own := true, dp := false, R := R, fn := fun x => m N x.1 x.2.1 x.2.2.1, res := fun r => (r, ()), out := fun r => ((), (), (), ()), shut := fun a b => a.1, res_shut := fun _ _ => rfl, out_shut := fun _ _ => rfl }
end impl_within
/-! ### impl_isNumber: loop.example/g00220/impl.isNumber -/
namespace impl_isNumber
abbrev R := Bool
noncomputable def m (N : Nat) (a0 : Int) : Option R :=
  ob (impl_within.m N a0 (0:Int) (6:Int)) fun y1 =>
  some y1
@[reducible] noncomputable def sp (N : Nat) : Spec E := { ps := [.val (.int .i64)], rs := [.bool], own := true, dp := false, R := R, fn := fun x => m N x.1, res := fun r => (r, ()), out := fun r => ((), ()), shut := fun a b => a.1, res_shut := fun _ _ => rfl, out_shut := fun _ _ => rfl }
end impl_isNumber
/-! ### impl_areNumbers_1: loop.example/g00220/impl.areNumbers$1 -/
namespace impl_areNumbers_1
abbrev R := Bool
noncomputable def m (N : Nat) (a0 : Int) : Option R :=
  ob (impl_within.m N a0 (0:Int) (6:Int)) fun y1 =>
  some (!y1)
@[reducible] noncomputable def sp (N : Nat) : Spec E := { ps := [.val (.int .i64)], rs := [.bool], own := true, dp := false, R := R, fn := fun x => m N x.1, res := fun r => (r, ()), out := fun r => ((), ()), shut := fun a b => a.1, res_shut := fun _ _ => rfl, out_shut := fun _ _ => rfl }
end impl_areNumbers_1
/-! ### slices_IndexFunc_int_int__impl_areNumbers_1: slices.IndexFunc[[]int,int] -/
namespace slices_IndexFunc_int_int__impl_areNumbers_1
abbrev R := Int
noncomputable def step2 (N : Nat) (a0 : List Int) (rec : (Int × Int) → Option R) : (Int × Int) → Option R
  | (v1, v2) =>
    bif (decide (v2 < v1)) then
      bif (decide (0 ≤ v2)) then
      bif (decide (v2 < (a0.length : Int))) then
      ob (impl_areNumbers_1.m N (a0.getD (Int.toNat v2) (0:Int))) fun y1 =>
      bif y1 then
        some v2
      else
      rec (v1, (w64 (v2 + (1:Int))))
      else none
      else none
    else
    some (-1:Int)
noncomputable def lp2 (N : Nat) (a0 : List Int) : (Int × Int) → Option R :=
  miter (fun rec => step2 N a0 rec) N
noncomputable def m (N : Nat) (a0 : List Int) : Option R :=
  lp2 N a0 ((a0.length : Int), (0:Int))
@[reducible] noncomputable def sp (N : Nat) : Spec E := { ps := [.val (.slice 3 (.int .i64)), .clo 125 []], rs := [(.int .i64)], own := true, dp := false, R := R, fn := fun x => m N x.1, res := fun r => (r, ()), out := fun r => ((), (), ()), shut := fun a b => a.1, res_shut := fun _ _ => rfl, out_shut := fun _ _ => rfl }
end slices_IndexFunc_int_int__impl_areNumbers_1
/-! ### slices_ContainsFunc_int_int__impl_areNumbers_1: slices.ContainsFunc[[]int,int] -/
namespace slices_ContainsFunc_int_int__impl_areNumbers_1
abbrev R := Bool
noncomputable def m (N : Nat) (a0 : List Int) : Option R :=
  ob (slices_IndexFunc_int_int__impl_areNumbers_1.m N a0) fun y1 =>
  some (decide (y1 ≥ (0:Int)))
@[reducible] noncomputable def sp (N : Nat) : Spec E := { ps := [.val (.slice 3 (.int .i64)), .clo 125 []], rs := [.bool], own := true, dp := false, R := R, fn := fun x => m N x.1, res := fun r => (r, ()), out := fun r => ((), (), ()), shut := fun a b => a.1, res_shut := fun _ _ => rfl, out_shut := fun _ _ => rfl }
end slices_ContainsFunc_int_int__impl_areNumbers_1
/-! ### impl_areNumbers: loop.example/g00220/impl.areNumbers -/
namespace impl_areNumbers
abbrev R := Bool
noncomputable def m (N : Nat) (a0 : List Int) : Option R :=
  ob (slices_ContainsFunc_int_int__impl_areNumbers_1.m N a0) fun y1 =>
  some (!y1)
@[reducible] noncomputable def sp (N : Nat) : Spec E := { ps := [.val (.slice 3 (.int .i64))], rs := [.bool], own := true, dp := false, R := R, fn := fun x => m N x.1, res := fun r => (r, ()), out := fun r => ((), ()), shut := fun a b => a.1, res_shut := fun _ _ => rfl, out_shut := fun _ _ => rfl }
end impl_areNumbers
/-! ### impl_areRising: loop.example/g00220/impl.areRising -/
namespace impl_areRising
abbrev R := Bool
noncomputable def step2 (N : Nat) (a0 : List Int) (rec : Int → Option R) : Int → Option R
  | v1 =>
    bif (decide (v1 < (a0.length : Int))) then
      bif (decide (0 ≤ (w64 (v1 - (1:Int))))) then
      bif (decide ((w64 (v1 - (1:Int))) < (a0.length : Int))) then
      bif (decide (0 ≤ v1)) then
      bif (decide (v1 < (a0.length : Int))) then
      bif (decide ((a0.getD (Int.toNat (w64 (v1 - (1:Int)))) (0:Int)) ≥ (a0.getD (Int.toNat v1) (0:Int)))) then
        some false
      else
      rec (w64 (v1 + (1:Int)))
      else none
      else none
      else none
      else none
    else
    some true
noncomputable def lp2 (N : Nat) (a0 : List Int) : Int → Option R :=
  miter (fun rec => step2 N a0 rec) N
noncomputable def m (N : Nat) (a0 : List Int) : Option R :=
  lp2 N a0 (1:Int)
@[reducible] noncomputable def sp (N : Nat) : Spec E := { ps := [.val (.slice 3 (.int .i64))], rs := [.bool], own := true, dp := false, R := R, fn := fun x => m N x.1, res := fun r => (r, ()), out := fun r => ((), ()), shut := fun a b => a.1, res_shut := fun _ _ => rfl, out_shut := fun _ _ => rfl }
end impl_areRising
/-! ### impl_membersOK: loop.example/g00220/impl.membersOK -/
namespace impl_membersOK
abbrev R := Bool
noncomputable def m (N : Nat) (a0 : List Int) : Option R :=
  bif (decide ((a0.length : Int) > (0:Int))) then
    ob (impl_areNumbers.m N a0) fun y1 =>
    bif (bif true then y1 else false) then
      ob (impl_areRising.m N a0) fun y2 =>
      some (bif true then y2 else false)
    else
    some false
  else
  some false
@[reducible] noncomputable def sp (N : Nat) : Spec E := { ps := [.val (.slice 3 (.int .i64))], rs := [.bool], own := true, dp := false, R := R, fn := fun x => m N x.1, res := fun r => (r, ()), out := fun r => ((), ()), shut := fun a b => a.1, res_shut := fun _ _ => rfl, out_shut := fun _ _ => rfl }
end impl_membersOK
/-! ### slices_Clone_int_int: slices.Clone[[]int,int] -/
namespace slices_Clone_int_int
abbrev R := (List Int)
noncomputable def m (N : Nat) (a0 : List Int) : Option R :=
  amb (a0.isEmpty) true
    (some ([] : List Int))
    (bif (room (([] : List Int).length + a0.length) 8) then
    some (([] : List Int) ++ a0)
    else none)
@[reducible] noncomputable def sp (N : Nat) : Spec E := { ps := [.val (.slice 3 (.int .i64))], rs := [(.slice 3 (.int .i64))], own := true, dp := false, R := R, fn := fun x => m N x.1, res := fun r => (r, ()), out := fun r => ((), ()), shut := fun a b => a.1, res_shut := fun _ _ => rfl, out_shut := fun _ _ => rfl }
end slices_Clone_int_int
/-! ### math_bits_Mul64: math/bits.Mul64 -/
namespace math_bits_Mul64
abbrev R := Int × Int
noncomputable def m (N : Nat) (a0 : Int) (a1 : Int) : Option R :=
  bif (!decide ((32:Int) < 0)) then
  bif (!decide ((32:Int) < 0)) then
  bif (!decide ((32:Int) < 0)) then
  (let w1 : Int := (wu64 ((wu64 ((Int.fdiv a0 (2 ^ (min (Int.toNat (32:Int)) 64))) * (ibit .and .u64 a1 (4294967295:Int)))) + (Int.fdiv (wu64 ((ibit .and .u64 a0 (4294967295:Int)) * (ibit .and .u64 a1 (4294967295:Int)))) (2 ^ (min (Int.toNat (32:Int)) 64)))))
  bif (!decide ((32:Int) < 0)) then
  (let w2 : Int := (wu64 ((ibit .and .u64 w1 (4294967295:Int)) + (wu64 ((ibit .and .u64 a0 (4294967295:Int)) * (Int.fdiv a1 (2 ^ (min (Int.toNat (32:Int)) 64)))))))
  (let w3 : Int := (wu64 ((wu64 ((Int.fdiv a0 (2 ^ (min (Int.toNat (32:Int)) 64))) * (Int.fdiv a1 (2 ^ (min (Int.toNat (32:Int)) 64))))) + (Int.fdiv w1 (2 ^ (min (Int.toNat (32:Int)) 64)))))
  bif (!decide ((32:Int) < 0)) then
  some ((wu64 (w3 + (Int.fdiv w2 (2 ^ (min (Int.toNat (32:Int)) 64))))), (wu64 (a0 * a1)))
  else none))
  else none)
  else none
  else none
  else none
@[reducible] noncomputable def sp (N : Nat) : Spec E := { ps := [.val (.int .u64), .val (.int .u64)], rs := [(.int .u64), (.int .u64)], own := true, dp := false, R := R, fn := fun x => m N x.1 x.2.1, res := fun r => (r.1, r.2, ()), out := fun r => ((), (), ()), shut := fun a b => (a.1, a.2.1), res_shut := fun _ _ => rfl, out_shut := fun _ _ => rfl }
end math_bits_Mul64
/-! ### math_bits_Mul: math/bits.Mul -/
namespace math_bits_Mul
abbrev R := Int × Int
noncomputable def m (N : Nat) (a0 : Int) (a1 : Int) : Option R :=
  ob (math_bits_Mul64.m N a0 a1) fun y1 =>
  some (y1.1, y1.2)
@[reducible] noncomputable def sp (N : Nat) : Spec E := { ps := [.val (.int .u64), .val (.int .u64)], rs := [(.int .u64), (.int .u64)], own := true, dp := false, R := R, fn := fun x => m N x.1 x.2.1, res := fun r => (r.1, r.2, ()), out := fun r => ((), (), ()), shut := fun a b => (a.1, a.2.1), res_shut := fun _ _ => rfl, out_shut := fun _ _ => rfl }
end math_bits_Mul
/-! ### slices_Repeat_int_int: slices.Repeat[[]int,int] -/
namespace slices_Repeat_int_int
abbrev R := (List Int)
noncomputable def step8 (N : Nat) (a0 : List Int) (a1 : Int) (rec : (Int × (List Int)) → Option R) : (Int × (List Int)) → Option R
  | (v0, v1) =>
    bif (decide (v0 < (v1.length : Int))) then
      bif (decide (0 ≤ v0)) then
      bif (decide (v0 ≤ (((v1.length) : Nat) : Int))) then
      bif (decide (0 ≤ v0)) then
      bif (decide (v0 ≤ ((v1.length : Nat) : Int))) then
      bif (decide ((Int.toNat v0) + ((v1.length) - (Int.toNat v0)) ≤ v1.length)) then
      bif (decide (0 + ((Int.toNat v0) - 0) ≤ v1.length)) then
      (let w3 : List Int := (v1.take (Int.toNat v0) ++ (((v1.drop 0).take ((Int.toNat v0) - 0)).take ((v1.length) - (Int.toNat v0)) ++ v1.drop ((Int.toNat v0) + (min ((v1.drop 0).take ((Int.toNat v0) - 0)).length ((v1.length) - (Int.toNat v0)) : Nat))))
      rec ((w64 (v0 + ((min ((v1.drop 0).take ((Int.toNat v0) - 0)).length ((v1.length) - (Int.toNat v0)) : Nat) : Int))), w3))
      else none
      else none
      else none
      else none
      else none
      else none
    else
    some v1
noncomputable def lp8 (N : Nat) (a0 : List Int) (a1 : Int) : (Int × (List Int)) → Option R :=
  miter (fun rec => step8 N a0 a1 rec) N
noncomputable def m (N : Nat) (a0 : List Int) (a1 : Int) : Option R :=
  bif (decide (a1 < (0:Int))) then
    none
  else
  ob (math_bits_Mul.m N (wu64 (a0.length : Int)) (wu64 a1)) fun y1 =>
  bif (decide (y1.1 > (0:Int))) then
    none
  else
  bif (bif false then true else (decide (y1.2 > (9223372036854775807:Int)))) then
    none
  else
  bif (decide (0 ≤ (w64 y1.2))) then
  bif (room (Int.toNat (w64 y1.2)) 8) then
  (let w2 : List Int := ((List.replicate (Int.toNat (w64 y1.2)) (0:Int)).take 0 ++ (a0.take ((List.replicate (Int.toNat (w64 y1.2)) (0:Int)).length) ++ (List.replicate (Int.toNat (w64 y1.2)) (0:Int)).drop (0 + (min a0.length ((List.replicate (Int.toNat (w64 y1.2)) (0:Int)).length) : Nat))))
  lp8 N a0 a1 (((min a0.length ((List.replicate (Int.toNat (w64 y1.2)) (0:Int)).length) : Nat) : Int), w2))
  else none
  else none
@[reducible] noncomputable def sp (N : Nat) : Spec E := { ps := [.val (.slice 3 (.int .i64)), .val (.int .i64)], rs := [(.slice 3 (.int .i64))], own := true, dp := false, R := R, fn := fun x => m N x.1 x.2.1, res := fun r => (r, ()), out := fun r => ((), (), ()), shut := fun a b => a.1, res_shut := fun _ _ => rfl, out_shut := fun _ _ => rfl }
end slices_Repeat_int_int
/-! ### impl_Node_follow: (*loop.example/g00220/impl.Node).follow -/
namespace impl_Node_follow
abbrev R := Node
noncomputable def m (N : Nat) (a0 : Node) : Option R :=
  ob (slices_Repeat_int_int.m N ([(1:Int)]) (7:Int)) fun y1 =>
  bif (decide (0 ≤ (7:Int))) then
  bif (room 7 8) then
  some (Node.mk a0.Id a0.Term a0.Vote a0.Log a0.Start (0:Int) ([] : List Int) y1 (List.replicate 7 (0:Int)) a0.Commit a0.Elapsed a0.Wait a0.Up)
  else none
  else none
@[reducible] noncomputable def sp (N : Nat) : Spec E := { ps := [.box false 25 25], rs := [], own := true, dp := false, R := R, fn := fun x => m N x.1, res := fun r => (), out := fun r => (r, ()), shut := fun a b => b.1, res_shut := fun _ _ => rfl, out_shut := fun _ _ => rfl }
end impl_Node_follow
/-! ### impl_newNode: loop.example/g00220/impl.newNode -/
namespace impl_newNode
abbrev R := Node
noncomputable def m (N : Nat) (a0 : Int) (a1 : List Int) : Option R :=
  ob (slices_Clone_int_int.m N a1) fun y1 =>
  ob (impl_Node_follow.m N (Node.mk a0 (0:Int) (-1:Int) ([] : List Entry) y1 (0:Int) ([] : List Int) ([] : List Int) ([] : List Int) (0:Int) (0:Int) (w64 ((5:Int) + a0)) true)) fun y2 =>
  some y2
@[reducible] noncomputable def sp (N : Nat) : Spec E := { ps := [.val (.int .i64), .val (.slice 3 (.int .i64))], rs := [(.st 25)], own := true, dp := false, R := R, fn := fun x => m N x.1 x.2.1, res := fun r => (r, ()), out := fun r => ((), (), ()), shut := fun a b => a.1, res_shut := fun _ _ => rfl, out_shut := fun _ _ => rfl }
end impl_newNode
/-! ### impl_NewNode: loop.example/g00220/impl.NewNode -/
namespace impl_NewNode
abbrev R := Node × Int
noncomputable def m (N : Nat) (a0 : Int) (a1 : List Int) : Option R :=
  ob (impl_isList_int.m N a1) fun y1 =>
  bif (!y1) then
    some ((Node.mk (0:Int) (0:Int) (0:Int) ([] : List Entry) ([] : List Int) (0:Int) ([] : List Int) ([] : List Int) ([] : List Int) (0:Int) (0:Int) (0:Int) false), (2:Int))
  else
  ob (impl_isNumber.m N a0) fun y2 =>
  bif (!y2) then
    some ((Node.mk (0:Int) (0:Int) (0:Int) ([] : List Entry) ([] : List Int) (0:Int) ([] : List Int) ([] : List Int) ([] : List Int) (0:Int) (0:Int) (0:Int) false), (1:Int))
  else
  ob (impl_membersOK.m N a1) fun y3 =>
  bif (bif false then true else (!y3)) then
    some ((Node.mk (0:Int) (0:Int) (0:Int) ([] : List Entry) ([] : List Int) (0:Int) ([] : List Int) ([] : List Int) ([] : List Int) (0:Int) (0:Int) (0:Int) false), (1:Int))
  else
  ob (impl_newNode.m N a0 a1) fun y4 =>
  some (y4, (0:Int))
@[reducible] noncomputable def sp (N : Nat) : Spec E := { ps := [.val (.int .i64), .val (.slice 3 (.int .i64))], rs := [(.st 25), (.int .i64)], own := true, dp := false, R := R, fn := fun x => m N x.1 x.2.1, res := fun r => (r.1, r.2, ()), out := fun r => ((), (), ()), shut := fun a b => (a.1, a.2.1), res_shut := fun _ _ => rfl, out_shut := fun _ _ => rfl }
end impl_NewNode
/-! ### laws_eqEntry: loop.example/g00220/laws.eqEntry -/
namespace laws_eqEntry
abbrev R := Bool
noncomputable def m (N : Nat) (a0 : Entry) (a1 : Entry) : Option R :=
  bif (a0.Term != a1.Term) then
    some false
  else
  bif (a0.Kind != a1.Kind) then
    some false
  else
  bif (!seq a0.Data a1.Data) then
    some false
  else
  some true
@[reducible] noncomputable def sp (N : Nat) : Spec E := { ps := [.val (.st 96), .val (.st 96)], rs := [.bool], own := true, dp := false, R := R, fn := fun x => m N x.1 x.2.1, res := fun r => (r, ()), out := fun r => ((), (), ()), shut := fun a b => a.1, res_shut := fun _ _ => rfl, out_shut := fun _ _ => rfl }
end laws_eqEntry
/-! ### laws_eqEntryS: loop.example/g00220/laws.eqEntryS -/
namespace laws_eqEntryS
abbrev R := Bool
noncomputable def step4 (N : Nat) (a0 : List Entry) (a1 : List Entry) (rec : Int → Option R) : Int → Option R
  | v2 =>
    bif (decide (v2 < (a0.length : Int))) then
      bif (decide (0 ≤ v2)) then
      bif (decide (v2 < (a0.length : Int))) then
      bif (decide (0 ≤ v2)) then
      bif (decide (v2 < (a1.length : Int))) then
      ob (laws_eqEntry.m N (a0.getD (Int.toNat v2) Entry.dz) (a1.getD (Int.toNat v2) Entry.dz)) fun y1 =>
      bif (!y1) then
        some false
      else
      rec (w64 (v2 + (1:Int)))
      else none
      else none
      else none
      else none
    else
    some true
noncomputable def lp4 (N : Nat) (a0 : List Entry) (a1 : List Entry) : Int → Option R :=
  miter (fun rec => step4 N a0 a1 rec) N
noncomputable def m (N : Nat) (a0 : List Entry) (a1 : List Entry) : Option R :=
  bif ((a0.length : Int) != (a1.length : Int)) then
    some false
  else
  lp4 N a0 a1 (0:Int)
@[reducible] noncomputable def sp (N : Nat) : Spec E := { ps := [.val (.slice 96 (.st 96)), .val (.slice 96 (.st 96))], rs := [.bool], own := true, dp := false, R := R, fn := fun x => m N x.1 x.2.1, res := fun r => (r, ()), out := fun r => ((), (), ()), shut := fun a b => a.1, res_shut := fun _ _ => rfl, out_shut := fun _ _ => rfl }
end laws_eqEntryS
/-! ### laws_eqIntS: loop.example/g00220/laws.eqIntS -/
namespace laws_eqIntS
abbrev R := Bool
noncomputable def step4 (N : Nat) (a0 : List Int) (a1 : List Int) (rec : Int → Option R) : Int → Option R
  | v2 =>
    bif (decide (v2 < (a0.length : Int))) then
      bif (decide (0 ≤ v2)) then
      bif (decide (v2 < (a0.length : Int))) then
      bif (decide (0 ≤ v2)) then
      bif (decide (v2 < (a1.length : Int))) then
      bif ((a0.getD (Int.toNat v2) (0:Int)) != (a1.getD (Int.toNat v2) (0:Int))) then
        some false
      else
      rec (w64 (v2 + (1:Int)))
      else none
      else none
      else none
      else none
    else
    some true
noncomputable def lp4 (N : Nat) (a0 : List Int) (a1 : List Int) : Int → Option R :=
  miter (fun rec => step4 N a0 a1 rec) N
noncomputable def m (N : Nat) (a0 : List Int) (a1 : List Int) : Option R :=
  bif ((a0.length : Int) != (a1.length : Int)) then
    some false
  else
  lp4 N a0 a1 (0:Int)
@[reducible] noncomputable def sp (N : Nat) : Spec E := { ps := [.val (.slice 3 (.int .i64)), .val (.slice 3 (.int .i64))], rs := [.bool], own := true, dp := false, R := R, fn := fun x => m N x.1 x.2.1, res := fun r => (r, ()), out := fun r => ((), (), ()), shut := fun a b => a.1, res_shut := fun _ _ => rfl, out_shut := fun _ _ => rfl }
end laws_eqIntS
/-! ### laws_eqNode: loop.example/g00220/laws.eqNode -/
namespace laws_eqNode
abbrev R := Bool
noncomputable def m (N : Nat) (a0 : Node) (a1 : Node) : Option R :=
  bif (a0.Id != a1.Id) then
    some false
  else
  bif (a0.Term != a1.Term) then
    some false
  else
  bif (a0.Vote != a1.Vote) then
    some false
  else
  ob (laws_eqEntryS.m N a0.Log a1.Log) fun y1 =>
  bif (!y1) then
    some false
  else
  ob (laws_eqIntS.m N a0.Start a1.Start) fun y2 =>
  bif (!y2) then
    some false
  else
  bif (a0.Role != a1.Role) then
    some false
  else
  ob (laws_eqIntS.m N a0.Votes a1.Votes) fun y3 =>
  bif (!y3) then
    some false
  else
  ob (laws_eqIntS.m N a0.Next a1.Next) fun y4 =>
  bif (!y4) then
    some false
  else
  ob (laws_eqIntS.m N a0.Match a1.Match) fun y5 =>
  bif (!y5) then
    some false
  else
  bif (a0.Commit != a1.Commit) then
    some false
  else
  bif (a0.Elapsed != a1.Elapsed) then
    some false
  else
  bif (a0.Wait != a1.Wait) then
    some false
  else
  bif (!(a0.Up == a1.Up)) then
    some false
  else
  some true
@[reducible] noncomputable def sp (N : Nat) : Spec E := { ps := [.val (.st 25), .val (.st 25)], rs := [.bool], own := true, dp := false, R := R, fn := fun x => m N x.1 x.2.1, res := fun r => (r, ()), out := fun r => ((), (), ()), shut := fun a b => a.1, res_shut := fun _ _ => rfl, out_shut := fun _ _ => rfl }
end laws_eqNode
/-! ### laws_markIntS: loop.example/g00220/laws.markIntS -/
namespace laws_markIntS
abbrev R := Int × (List Int)
noncomputable def step2 (N : Nat) (a0 : List Int) (a1 : Int) (rec : (Int × Int × (List Int)) → Option R) : (Int × Int × (List Int)) → Option R
  | (v0, v1, v2) =>
    bif (decide (v1 < (v2.length : Int))) then
      bif (decide (0 ≤ v1)) then
      bif (decide (v1 < (v2.length : Int))) then
      rec ((w64 (v0 + (1:Int))), (w64 (v1 + (1:Int))), (v2.set (Int.toNat v1) v0))
      else none
      else none
    else
    some (v0, v2)
noncomputable def lp2 (N : Nat) (a0 : List Int) (a1 : Int) : (Int × Int × (List Int)) → Option R :=
  miter (fun rec => step2 N a0 a1 rec) N
noncomputable def m (N : Nat) (a0 : List Int) (a1 : Int) : Option R :=
  lp2 N a0 a1 (a1, (0:Int), a0)
@[reducible] noncomputable def sp (N : Nat) : Spec E := { ps := [.mut false (.slice 3 (.int .i64)), .val (.int .i64)], rs := [(.int .i64)], own := true, dp := false, R := R, fn := fun x => m N x.1 x.2.1, res := fun r => (r.1, ()), out := fun r => (r.2, (), ()), shut := fun a b => (a.1, b.1), res_shut := fun _ _ => rfl, out_shut := fun _ _ => rfl }
end laws_markIntS
/-! ### laws_markText: loop.example/g00220/laws.markText -/
namespace laws_markText
abbrev R := ByteArray
noncomputable def step4 (N : Nat) (a0 : Int) (rec : (Int × ByteArray) → Option R) : (Int × ByteArray) → Option R
  | (v0, v1) =>
    bif (decide (v0 > (0:Int))) then
      bif (!decide ((10:Int) = 0)) then
      bif (decide ((strOf ([(wu8 (w64 ((48:Int) + (Int.tmod v0 (10:Int)))))])).size + v1.size ≤ 9223372036854775807)) then
      bif (!decide ((10:Int) = 0)) then
      rec ((w64 (Int.tdiv v0 (10:Int))), ((strOf ([(wu8 (w64 ((48:Int) + (Int.tmod v0 (10:Int)))))])) ++ v1))
      else none
      else none
      else none
    else
    bif (decide ((⟨#[109]⟩ : ByteArray).size + v1.size ≤ 9223372036854775807)) then
    some ((⟨#[109]⟩ : ByteArray) ++ v1)
    else none
noncomputable def lp4 (N : Nat) (a0 : Int) : (Int × ByteArray) → Option R :=
  miter (fun rec => step4 N a0 rec) N
noncomputable def m (N : Nat) (a0 : Int) : Option R :=
  bif (decide (a0 ≤ (0:Int))) then
    some (⟨#[109, 48]⟩ : ByteArray)
  else
  lp4 N a0 (a0, ByteArray.empty)
@[reducible] noncomputable def sp (N : Nat) : Spec E := { ps := [.val (.int .i64)], rs := [.str], own := true, dp := false, R := R, fn := fun x => m N x.1, res := fun r => (r, ()), out := fun r => ((), ()), shut := fun a b => a.1, res_shut := fun _ _ => rfl, out_shut := fun _ _ => rfl }
end laws_markText
/-! ### laws_markEntryS: loop.example/g00220/laws.markEntryS -/
namespace laws_markEntryS
abbrev R := Int × (List Entry)
noncomputable def step2 (N : Nat) (a0 : List Entry) (a1 : Int) (rec : (Int × Int × (List Entry)) → Option R) : (Int × Int × (List Entry)) → Option R
  | (v0, v1, v2) =>
    bif (decide (v1 < (v2.length : Int))) then
      bif (decide (0 ≤ v1)) then
      bif (decide (v1 < (v2.length : Int))) then
      bif (decide (0 ≤ v1)) then
      bif (decide (v1 < ((v2.set (Int.toNat v1) (Entry.mk v0 ((v2.getD (Int.toNat v1) Entry.dz).Kind) ((v2.getD (Int.toNat v1) Entry.dz).Data))).length : Int))) then
      (let w1 : Entry := ((v2.set (Int.toNat v1) (Entry.mk v0 ((v2.getD (Int.toNat v1) Entry.dz).Kind) ((v2.getD (Int.toNat v1) Entry.dz).Data))).getD (Int.toNat v1) Entry.dz)
      (let w2 : List Entry := ((v2.set (Int.toNat v1) (Entry.mk v0 ((v2.getD (Int.toNat v1) Entry.dz).Kind) ((v2.getD (Int.toNat v1) Entry.dz).Data))).set (Int.toNat v1) (Entry.mk w1.Term (w64 (v0 + (1:Int))) w1.Data))
      ob (laws_markText.m N (w64 ((w64 (v0 + (1:Int))) + (1:Int)))) fun y3 =>
      bif (decide (0 ≤ v1)) then
      bif (decide (v1 < (w2.length : Int))) then
      rec ((w64 ((w64 ((w64 (v0 + (1:Int))) + (1:Int))) + (1:Int))), (w64 (v1 + (1:Int))), (w2.set (Int.toNat v1) (Entry.mk ((w2.getD (Int.toNat v1) Entry.dz).Term) ((w2.getD (Int.toNat v1) Entry.dz).Kind) y3)))
      else none
      else none))
      else none
      else none
      else none
      else none
    else
    some (v0, v2)
noncomputable def lp2 (N : Nat) (a0 : List Entry) (a1 : Int) : (Int × Int × (List Entry)) → Option R :=
  miter (fun rec => step2 N a0 a1 rec) N
noncomputable def m (N : Nat) (a0 : List Entry) (a1 : Int) : Option R :=
  lp2 N a0 a1 (a1, (0:Int), a0)
@[reducible] noncomputable def sp (N : Nat) : Spec E := { ps := [.mut false (.slice 96 (.st 96)), .val (.int .i64)], rs := [(.int .i64)], own := true, dp := false, R := R, fn := fun x => m N x.1 x.2.1, res := fun r => (r.1, ()), out := fun r => (r.2, (), ()), shut := fun a b => (a.1, b.1), res_shut := fun _ _ => rfl, out_shut := fun _ _ => rfl }
end laws_markEntryS
/-! ### laws_markNode: loop.example/g00220/laws.markNode -/
namespace laws_markNode
abbrev R := Int × Node
noncomputable def m (N : Nat) (a0 : Node) (a1 : Int) : Option R :=
  ob (laws_markEntryS.m N a0.Log a1) fun y1 =>
  ob (laws_markIntS.m N a0.Start y1.1) fun y2 =>
  ob (laws_markIntS.m N a0.Votes y2.1) fun y3 =>
  ob (laws_markIntS.m N a0.Next y3.1) fun y4 =>
  ob (laws_markIntS.m N a0.Match y4.1) fun y5 =>
  some (y5.1, (Node.mk a0.Id a0.Term a0.Vote y1.2 y2.2 a0.Role y3.2 y4.2 y5.2 a0.Commit a0.Elapsed a0.Wait a0.Up))
@[reducible] noncomputable def sp (N : Nat) : Spec E := { ps := [.mut false (.st 25), .val (.int .i64)], rs := [(.int .i64)], own := true, dp := false, R := R, fn := fun x => m N x.1 x.2.1, res := fun r => (r.1, ()), out := fun r => (r.2, (), ()), shut := fun a b => (a.1, b.1), res_shut := fun _ _ => rfl, out_shut := fun _ _ => rfl }
end laws_markNode
/-! ### laws_heldEntryS: loop.example/g00220/laws.heldEntryS -/
namespace laws_heldEntryS
abbrev R := Int
noncomputable def step2 (N : Nat) (a0 : List Entry) (a1 : Int) (rec : (Int × Int) → Option R) : (Int × Int) → Option R
  | (v1, v2) =>
    bif (decide (v2 < (a0.length : Int))) then
      bif (decide (0 ≤ v2)) then
      bif (decide (v2 < (a0.length : Int))) then
      bif ((a0.getD (Int.toNat v2) Entry.dz).Term != v1) then
        some (-1:Int)
      else
      bif (decide (0 ≤ v2)) then
      bif (decide (v2 < (a0.length : Int))) then
      bif ((a0.getD (Int.toNat v2) Entry.dz).Kind != (w64 (v1 + (1:Int)))) then
        some (-1:Int)
      else
      bif (decide (0 ≤ v2)) then
      bif (decide (v2 < (a0.length : Int))) then
      ob (laws_markText.m N (w64 ((w64 (v1 + (1:Int))) + (1:Int)))) fun y1 =>
      bif (!seq ((a0.getD (Int.toNat v2) Entry.dz).Data) y1) then
        some (-1:Int)
      else
      rec ((w64 ((w64 ((w64 (v1 + (1:Int))) + (1:Int))) + (1:Int))), (w64 (v2 + (1:Int))))
      else none
      else none
      else none
      else none
      else none
      else none
    else
    some v1
noncomputable def lp2 (N : Nat) (a0 : List Entry) (a1 : Int) : (Int × Int) → Option R :=
  miter (fun rec => step2 N a0 a1 rec) N
noncomputable def m (N : Nat) (a0 : List Entry) (a1 : Int) : Option R :=
  lp2 N a0 a1 (a1, (0:Int))
@[reducible] noncomputable def sp (N : Nat) : Spec E := { ps := [.val (.slice 96 (.st 96)), .val (.int .i64)], rs := [(.int .i64)], own := true, dp := false, R := R, fn := fun x => m N x.1 x.2.1, res := fun r => (r, ()), out := fun r => ((), (), ()), shut := fun a b => a.1, res_shut := fun _ _ => rfl, out_shut := fun _ _ => rfl }
end laws_heldEntryS
/-! ### laws_heldIntS: loop.example/g00220/laws.heldIntS -/
namespace laws_heldIntS
abbrev R := Int
noncomputable def step2 (N : Nat) (a0 : List Int) (a1 : Int) (rec : (Int × Int) → Option R) : (Int × Int) → Option R
  | (v1, v2) =>
    bif (decide (v2 < (a0.length : Int))) then
      bif (decide (0 ≤ v2)) then
      bif (decide (v2 < (a0.length : Int))) then
      bif ((a0.getD (Int.toNat v2) (0:Int)) != v1) then
        some (-1:Int)
      else
      rec ((w64 (v1 + (1:Int))), (w64 (v2 + (1:Int))))
      else none
      else none
    else
    some v1
noncomputable def lp2 (N : Nat) (a0 : List Int) (a1 : Int) : (Int × Int) → Option R :=
  miter (fun rec => step2 N a0 a1 rec) N
noncomputable def m (N : Nat) (a0 : List Int) (a1 : Int) : Option R :=
  lp2 N a0 a1 (a1, (0:Int))
@[reducible] noncomputable def sp (N : Nat) : Spec E := { ps := [.val (.slice 3 (.int .i64)), .val (.int .i64)], rs := [(.int .i64)], own := true, dp := false, R := R, fn := fun x => m N x.1 x.2.1, res := fun r => (r, ()), out := fun r => ((), (), ()), shut := fun a b => a.1, res_shut := fun _ _ => rfl, out_shut := fun _ _ => rfl }
end laws_heldIntS
/-! ### laws_heldNode: loop.example/g00220/laws.heldNode -/
namespace laws_heldNode
abbrev R := Int
noncomputable def m (N : Nat) (a0 : Node) (a1 : Int) : Option R :=
  ob (laws_heldEntryS.m N a0.Log a1) fun y1 =>
  bif (decide (y1 < (0:Int))) then
    some (-1:Int)
  else
  ob (laws_heldIntS.m N a0.Start y1) fun y2 =>
  bif (decide (y2 < (0:Int))) then
    some (-1:Int)
  else
  ob (laws_heldIntS.m N a0.Votes y2) fun y3 =>
  bif (decide (y3 < (0:Int))) then
    some (-1:Int)
  else
  ob (laws_heldIntS.m N a0.Next y3) fun y4 =>
  bif (decide (y4 < (0:Int))) then
    some (-1:Int)
  else
  ob (laws_heldIntS.m N a0.Match y4) fun y5 =>
  bif (decide (y5 < (0:Int))) then
    some (-1:Int)
  else
  some y5
@[reducible] noncomputable def sp (N : Nat) : Spec E := { ps := [.val (.st 25), .val (.int .i64)], rs := [(.int .i64)], own := true, dp := false, R := R, fn := fun x => m N x.1 x.2.1, res := fun r => (r, ()), out := fun r => ((), (), ()), shut := fun a b => a.1, res_shut := fun _ _ => rfl, out_shut := fun _ _ => rfl }
end laws_heldNode
/-! ### laws_FnExactNewNode: loop.example/g00220/laws.FnExactNewNode -/
namespace laws_FnExactNewNode
abbrev R := Bool
noncomputable def m (N : Nat) (a0 : Int) (a1 : List Int) : Option R :=
  bif (decide ((a1.length : Int) > (1048576:Int))) then
    some true
  else
  ob (laws_toIntS.m N a1) fun y1 =>
  ob (spec_NewNode.m N a0 y1) fun y2 =>
  ob (laws_toIntS.m N a1) fun y3 =>
  ob (impl_NewNode.m N a0 y3) fun y4 =>
  ob (laws_eqNode.m N y4.1 y2.1) fun y5 =>
  bif (!y5) then
    some false
  else
  bif (bif false then true else (y4.2 != y2.2)) then
    some false
  else
  ob (laws_toIntS.m N a1) fun y6 =>
  ob (laws_eqIntS.m N y3 y6) fun y7 =>
  bif (!y7) then
    some false
  else
  ob (laws_markIntS.m N y3 (1:Int)) fun y8 =>
  bif (decide (y8.1 < (0:Int))) then
    some false
  else
  ob (laws_eqNode.m N y4.1 y2.1) fun y9 =>
  bif (bif false then true else (!y9)) then
    some false
  else
  bif (bif false then true else (y4.2 != y2.2)) then
    some false
  else
  ob (laws_markNode.m N y4.1 (1:Int)) fun y10 =>
  ob (laws_heldNode.m N (Node.mk y4.1.Id y4.1.Term y4.1.Vote y10.2.Log y10.2.Start y4.1.Role y10.2.Votes y10.2.Next y10.2.Match y4.1.Commit y4.1.Elapsed y4.1.Wait y4.1.Up) (1:Int)) fun y11 =>
  bif (decide (y11 < (0:Int))) then
    some false
  else
  bif (y11 != y10.1) then
    some false
  else
  ob (laws_toIntS.m N a1) fun y12 =>
  ob (impl_NewNode.m N a0 y12) fun y13 =>
  ob (laws_eqNode.m N y13.1 y2.1) fun y14 =>
  bif (!y14) then
    some false
  else
  bif (bif false then true else (y13.2 != y2.2)) then
    some false
  else
  ob (laws_heldNode.m N (Node.mk y4.1.Id y4.1.Term y4.1.Vote y10.2.Log y10.2.Start y4.1.Role y10.2.Votes y10.2.Next y10.2.Match y4.1.Commit y4.1.Elapsed y4.1.Wait y4.1.Up) (1:Int)) fun y15 =>
  bif (decide (y15 < (0:Int))) then
    some false
  else
  bif (y15 != y10.1) then
    some false
  else
  some true
@[reducible] noncomputable def sp (N : Nat) : Spec E := { ps := [.val (.int .i64), .val (.slice 3 (.int .i64))], rs := [.bool], own := true, dp := false, R := R, fn := fun x => m N x.1 x.2.1, res := fun r => (r, ()), out := fun r => ((), (), ()), shut := fun a b => a.1, res_shut := fun _ _ => rfl, out_shut := fun _ _ => rfl }
end laws_FnExactNewNode
/-! ### laws_szEntry: loop.example/g00220/laws.szEntry -/
namespace laws_szEntry
abbrev R := Int
noncomputable def m (N : Nat) (a0 : Entry) (a1 : Int) : Option R :=
  bif (decide ((w64 (a1 - (a0.Data.size : Int))) < (0:Int))) then
    some (-1:Int)
  else
  some (w64 (a1 - (a0.Data.size : Int)))
@[reducible] noncomputable def sp (N : Nat) : Spec E := { ps := [.val (.st 138), .val (.int .i64)], rs := [(.int .i64)], own := true, dp := false, R := R, fn := fun x => m N x.1 x.2.1, res := fun r => (r, ()), out := fun r => ((), (), ()), shut := fun a b => a.1, res_shut := fun _ _ => rfl, out_shut := fun _ _ => rfl }
end laws_szEntry
/-! ### laws_szEntryS: loop.example/g00220/laws.szEntryS -/
namespace laws_szEntryS
abbrev R := Int
noncomputable def step5 (N : Nat) (a0 : List Entry) (a1 : Int) (rec : (Int × Int) → Option R) : (Int × Int) → Option R
  | (v1, v2) =>
    bif (decide (v2 < (a0.length : Int))) then
      bif (decide (0 ≤ v2)) then
      bif (decide (v2 < (a0.length : Int))) then
      ob (laws_szEntry.m N (a0.getD (Int.toNat v2) Entry.dz) v1) fun y1 =>
      bif (decide (y1 < (0:Int))) then
        some (-1:Int)
      else
      rec (y1, (w64 (v2 + (1:Int))))
      else none
      else none
    else
    some v1
noncomputable def lp5 (N : Nat) (a0 : List Entry) (a1 : Int) : (Int × Int) → Option R :=
  miter (fun rec => step5 N a0 a1 rec) N
noncomputable def m (N : Nat) (a0 : List Entry) (a1 : Int) : Option R :=
  bif (decide ((w64 (a1 - (a0.length : Int))) < (0:Int))) then
    some (-1:Int)
  else
  lp5 N a0 a1 ((w64 (a1 - (a0.length : Int))), (0:Int))
@[reducible] noncomputable def sp (N : Nat) : Spec E := { ps := [.val (.slice 138 (.st 138)), .val (.int .i64)], rs := [(.int .i64)], own := true, dp := false, R := R, fn := fun x => m N x.1 x.2.1, res := fun r => (r, ()), out := fun r => ((), (), ()), shut := fun a b => a.1, res_shut := fun _ _ => rfl, out_shut := fun _ _ => rfl }
end laws_szEntryS
/-! ### laws_szIntS: loop.example/g00220/laws.szIntS -/
namespace laws_szIntS
abbrev R := Int
noncomputable def m (N : Nat) (a0 : List Int) (a1 : Int) : Option R :=
  bif (decide ((w64 (a1 - (a0.length : Int))) < (0:Int))) then
    some (-1:Int)
  else
  some (w64 (a1 - (a0.length : Int)))
@[reducible] noncomputable def sp (N : Nat) : Spec E := { ps := [.val (.slice 3 (.int .i64)), .val (.int .i64)], rs := [(.int .i64)], own := true, dp := false, R := R, fn := fun x => m N x.1 x.2.1, res := fun r => (r, ()), out := fun r => ((), (), ()), shut := fun a b => a.1, res_shut := fun _ _ => rfl, out_shut := fun _ _ => rfl }
end laws_szIntS
/-! ### laws_szNode: loop.example/g00220/laws.szNode -/
namespace laws_szNode
abbrev R := Int
noncomputable def m (N : Nat) (a0 : Node) (a1 : Int) : Option R :=
  ob (laws_szEntryS.m N a0.Log a1) fun y1 =>
  bif (decide (y1 < (0:Int))) then
    some (-1:Int)
  else
  ob (laws_szIntS.m N a0.Start y1) fun y2 =>
  bif (decide (y2 < (0:Int))) then
    some (-1:Int)
  else
  ob (laws_szIntS.m N a0.Votes y2) fun y3 =>
  bif (decide (y3 < (0:Int))) then
    some (-1:Int)
  else
  ob (laws_szIntS.m N a0.Next y3) fun y4 =>
  bif (decide (y4 < (0:Int))) then
    some (-1:Int)
  else
  ob (laws_szIntS.m N a0.Match y4) fun y5 =>
  bif (decide (y5 < (0:Int))) then
    some (-1:Int)
  else
  some y5
@[reducible] noncomputable def sp (N : Nat) : Spec E := { ps := [.val (.st 36), .val (.int .i64)], rs := [(.int .i64)], own := true, dp := false, R := R, fn := fun x => m N x.1 x.2.1, res := fun r => (r, ()), out := fun r => ((), (), ()), shut := fun a b => a.1, res_shut := fun _ _ => rfl, out_shut := fun _ _ => rfl }
end laws_szNode
/-! ### laws_toEntry: loop.example/g00220/laws.toEntry -/
namespace laws_toEntry
abbrev R := Entry
noncomputable def m (N : Nat) (a0 : Entry) : Option R :=
  some a0
@[reducible] noncomputable def sp (N : Nat) : Spec E := { ps := [.val (.st 138)], rs := [(.st 96)], own := true, dp := false, R := R, fn := fun x => m N x.1, res := fun r => (r, ()), out := fun r => ((), ()), shut := fun a b => a.1, res_shut := fun _ _ => rfl, out_shut := fun _ _ => rfl }
end laws_toEntry
/-! ### laws_toEntryS: loop.example/g00220/laws.toEntryS -/
namespace laws_toEntryS
abbrev R := (List Entry)
noncomputable def step3 (N : Nat) (a0 : List Entry) (rec : (Int × (List Entry)) → Option R) : (Int × (List Entry)) → Option R
  | (v1, v2) =>
    bif (decide (v1 < (a0.length : Int))) then
      bif (decide (0 ≤ v1)) then
      bif (decide (v1 < (a0.length : Int))) then
      ob (laws_toEntry.m N (a0.getD (Int.toNat v1) Entry.dz)) fun y1 =>
      bif (decide (0 ≤ v1)) then
      bif (decide (v1 < (v2.length : Int))) then
      rec ((w64 (v1 + (1:Int))), (v2.set (Int.toNat v1) y1))
      else none
      else none
      else none
      else none
    else
    some v2
noncomputable def lp3 (N : Nat) (a0 : List Entry) : (Int × (List Entry)) → Option R :=
  miter (fun rec => step3 N a0 rec) N
noncomputable def m (N : Nat) (a0 : List Entry) : Option R :=
  bif (decide (0 ≤ (a0.length : Int))) then
  bif (room (Int.toNat (a0.length : Int)) 32) then
  lp3 N a0 ((0:Int), (List.replicate (Int.toNat (a0.length : Int)) (Entry.mk (0:Int) (0:Int) ByteArray.empty)))
  else none
  else none
@[reducible] noncomputable def sp (N : Nat) : Spec E := { ps := [.val (.slice 138 (.st 138))], rs := [(.slice 96 (.st 96))], own := true, dp := false, R := R, fn := fun x => m N x.1, res := fun r => (r, ()), out := fun r => ((), ()), shut := fun a b => a.1, res_shut := fun _ _ => rfl, out_shut := fun _ _ => rfl }
end laws_toEntryS
/-! ### laws_toNode: loop.example/g00220/laws.toNode -/
namespace laws_toNode
abbrev R := Node
noncomputable def m (N : Nat) (a0 : Node) : Option R :=
  ob (laws_toEntryS.m N a0.Log) fun y1 =>
  ob (laws_toIntS.m N a0.Start) fun y2 =>
  ob (laws_toIntS.m N a0.Votes) fun y3 =>
  ob (laws_toIntS.m N a0.Next) fun y4 =>
  ob (laws_toIntS.m N a0.Match) fun y5 =>
  some (Node.mk a0.Id a0.Term a0.Vote y1 y2 a0.Role y3 y4 y5 a0.Commit a0.Elapsed a0.Wait a0.Up)
@[reducible] noncomputable def sp (N : Nat) : Spec E := { ps := [.val (.st 36)], rs := [(.st 25)], own := true, dp := false, R := R, fn := fun x => m N x.1, res := fun r => (r, ()), out := fun r => ((), ()), shut := fun a b => a.1, res_shut := fun _ _ => rfl, out_shut := fun _ _ => rfl }
end laws_toNode
/-! ### spec_l02Members: loop.example/g00220/spec.l02Members -/
namespace spec_l02Members
abbrev R := (List Int) × Bool
noncomputable def step3 (N : Nat) (a0 : ByteArray) (rec : (Int × (List Int)) → Option R) : (Int × (List Int)) → Option R
  | (v1, v2) =>
    bif (decide (v1 < (a0.size : Int))) then
      bif (decide (0 ≤ v1)) then
      bif (decide (v1 < (a0.size : Int))) then
      ob (spec_l01In.m N (w64 (sb a0 v1)) (0:Int) (6:Int)) fun y1 =>
      bif (!y1) then
        some (([] : List Int), false)
      else
      bif (decide (v1 > (0:Int))) then
        bif (decide (0 ≤ (w64 (v1 - (1:Int))))) then
        bif (decide ((w64 (v1 - (1:Int))) < (a0.size : Int))) then
        bif (decide (0 ≤ v1)) then
        bif (decide (v1 < (a0.size : Int))) then
        bif (bif false then true else (bif true then (decide ((sb a0 (w64 (v1 - (1:Int)))) ≥ (sb a0 v1))) else false)) then
          some (([] : List Int), false)
        else
        bif (decide (0 ≤ v1)) then
        bif (decide (v1 < (a0.size : Int))) then
        bif (room (v2.length + ([(w64 (sb a0 v1))]).length) 8) then
        rec ((w64 (v1 + (1:Int))), (v2 ++ [(w64 (sb a0 v1))]))
        else none
        else none
        else none
        else none
        else none
        else none
        else none
      else
      bif (bif false then true else false) then
        some (([] : List Int), false)
      else
      bif (decide (0 ≤ v1)) then
      bif (decide (v1 < (a0.size : Int))) then
      bif (room (v2.length + ([(w64 (sb a0 v1))]).length) 8) then
      rec ((w64 (v1 + (1:Int))), (v2 ++ [(w64 (sb a0 v1))]))
      else none
      else none
      else none
      else none
      else none
    else
    some (v2, (decide ((v2.length : Int) > (0:Int))))
noncomputable def lp3 (N : Nat) (a0 : ByteArray) : (Int × (List Int)) → Option R :=
  miter (fun rec => step3 N a0 rec) N
noncomputable def m (N : Nat) (a0 : ByteArray) : Option R :=
  lp3 N a0 ((0:Int), ([] : List Int))
@[reducible] noncomputable def sp (N : Nat) : Spec E := { ps := [.val .str], rs := [(.slice 3 (.int .i64)), .bool], own := true, dp := false, R := R, fn := fun x => m N x.1, res := fun r => (r.1, r.2, ()), out := fun r => ((), ()), shut := fun a b => (a.1, a.2.1), res_shut := fun _ _ => rfl, out_shut := fun _ _ => rfl }
end spec_l02Members
/-! ### spec_l02Entry: loop.example/g00220/spec.l02Entry -/
namespace spec_l02Entry
abbrev R := Bool
noncomputable def m (N : Nat) (a0 : Entry) : Option R :=
  ob (spec_l01In.m N a0.Term (1:Int) (1000000:Int)) fun y1 =>
  bif (!y1) then
    some false
  else
  bif (a0.Kind == (0:Int)) then
    some (seq a0.Data ByteArray.empty)
  else
  bif (a0.Kind == (1:Int)) then
    bif (decide ((a0.Data.size : Int) ≥ (1:Int))) then
      some (bif true then (decide ((a0.Data.size : Int) ≤ (100:Int))) else false)
    else
    some false
  else
  bif (a0.Kind == (2:Int)) then
    ob (spec_l02Members.m N a0.Data) fun y2 =>
    some y2.2
  else
  some false
@[reducible] noncomputable def sp (N : Nat) : Spec E := { ps := [.val (.st 96)], rs := [.bool], own := true, dp := false, R := R, fn := fun x => m N x.1, res := fun r => (r, ()), out := fun r => ((), ()), shut := fun a b => a.1, res_shut := fun _ _ => rfl, out_shut := fun _ _ => rfl }
end spec_l02Entry
/-! ### spec_StateOK: loop.example/g00220/spec.StateOK -/
namespace spec_StateOK
abbrev R := Bool
noncomputable def step4 (N : Nat) (a0 : State) (rec : Int → Option R) : Int → Option R
  | v0 =>
    bif (decide (v0 < (a0.Log.length : Int))) then
      bif (decide (0 ≤ v0)) then
      bif (decide (v0 < (a0.Log.length : Int))) then
      ob (spec_l02Entry.m N (a0.Log.getD (Int.toNat v0) Entry.dz)) fun y3 =>
      bif (!y3) then
        some false
      else
      bif (decide (0 ≤ v0)) then
      bif (decide (v0 < (a0.Log.length : Int))) then
      bif (bif false then true else (decide ((a0.Log.getD (Int.toNat v0) Entry.dz).Term > a0.Term))) then
        some false
      else
      bif (decide (v0 > (0:Int))) then
        bif (decide (0 ≤ (w64 (v0 - (1:Int))))) then
        bif (decide ((w64 (v0 - (1:Int))) < (a0.Log.length : Int))) then
        bif (decide (0 ≤ v0)) then
        bif (decide (v0 < (a0.Log.length : Int))) then
        (let w4 : Bool := (bif true then (decide ((a0.Log.getD (Int.toNat (w64 (v0 - (1:Int)))) Entry.dz).Term > (a0.Log.getD (Int.toNat v0) Entry.dz).Term)) else false)
        bif (bif false then true else w4) then
          some false
        else
        rec (w64 (v0 + (1:Int))))
        else none
        else none
        else none
        else none
      else
      bif (bif false then true else false) then
        some false
      else
      rec (w64 (v0 + (1:Int)))
      else none
      else none
      else none
      else none
    else
    some true
noncomputable def lp4 (N : Nat) (a0 : State) : Int → Option R :=
  miter (fun rec => step4 N a0 rec) N
noncomputable def m (N : Nat) (a0 : State) : Option R :=
  ob (spec_l01In.m N a0.Term (0:Int) (1000000:Int)) fun y1 =>
  bif (!y1) then
    some false
  else
  ob (spec_l01In.m N a0.Vote (-1:Int) (6:Int)) fun y2 =>
  bif (bif false then true else (!y2)) then
    some false
  else
  bif (bif false then true else (decide ((a0.Log.length : Int) > (60:Int)))) then
    some false
  else
  lp4 N a0 (0:Int)
@[reducible] noncomputable def sp (N : Nat) : Spec E := { ps := [.val (.st 86)], rs := [.bool], own := true, dp := false, R := R, fn := fun x => m N x.1, res := fun r => (r, ()), out := fun r => ((), ()), shut := fun a b => a.1, res_shut := fun _ _ => rfl, out_shut := fun _ _ => rfl }
end spec_StateOK
/-! ### spec_NodeOK: loop.example/g00220/spec.NodeOK -/
namespace spec_NodeOK
abbrev R := Bool
noncomputable def step6 (N : Nat) (a0 : Node) (rec : Int → Option R) : Int → Option R
  | v0 =>
    bif (decide (v0 < (7:Int))) then
      bif (decide (0 ≤ v0)) then
      bif (decide (v0 < (a0.Next.length : Int))) then
      ob (spec_l01In.m N (a0.Next.getD (Int.toNat v0) (0:Int)) (1:Int) (w64 ((a0.Log.length : Int) + (1:Int)))) fun y9 =>
      bif (!y9) then
        some false
      else
      bif (decide (0 ≤ v0)) then
      bif (decide (v0 < (a0.Match.length : Int))) then
      bif (decide (0 ≤ v0)) then
      bif (decide (v0 < (a0.Next.length : Int))) then
      ob (spec_l01In.m N (a0.Match.getD (Int.toNat v0) (0:Int)) (0:Int) (w64 ((a0.Next.getD (Int.toNat v0) (0:Int)) - (1:Int)))) fun y10 =>
      bif (bif false then true else (!y10)) then
        some false
      else
      rec (w64 (v0 + (1:Int)))
      else none
      else none
      else none
      else none
      else none
      else none
    else
    bif a0.Up then
      some true
    else
    some (bif false then true else (a0.Role == (0:Int)))
noncomputable def lp6 (N : Nat) (a0 : Node) : Int → Option R :=
  miter (fun rec => step6 N a0 rec) N
noncomputable def m (N : Nat) (a0 : Node) : Option R :=
  ob (spec_l01In.m N a0.Id (0:Int) (6:Int)) fun y1 =>
  bif (!y1) then
    some false
  else
  ob (spec_StateOK.m N (State.mk a0.Term a0.Vote a0.Log)) fun y2 =>
  bif (bif false then true else (!y2)) then
    some false
  else
  ob (spec_l10Ids.m N a0.Start) fun y3 =>
  bif (bif false then true else (!y3)) then
    some false
  else
  bif (bif false then true else ((a0.Start.length : Int) == (0:Int))) then
    some false
  else
  ob (spec_l10Ids.m N a0.Votes) fun y4 =>
  bif (bif false then true else (!y4)) then
    some false
  else
  ob (spec_l01In.m N a0.Role (0:Int) (2:Int)) fun y5 =>
  bif (bif false then true else (!y5)) then
    some false
  else
  bif ((a0.Next.length : Int) != (7:Int)) then
    some false
  else
  bif (bif false then true else ((a0.Match.length : Int) != (7:Int))) then
    some false
  else
  ob (spec_l01In.m N a0.Commit (0:Int) (a0.Log.length : Int)) fun y6 =>
  bif (bif false then true else (!y6)) then
    some false
  else
  ob (spec_l01In.m N a0.Elapsed (0:Int) (1000:Int)) fun y7 =>
  bif (bif false then true else (!y7)) then
    some false
  else
  ob (spec_l01In.m N a0.Wait (5:Int) (100:Int)) fun y8 =>
  bif (bif false then true else (!y8)) then
    some false
  else
  lp6 N a0 (0:Int)
@[reducible] noncomputable def sp (N : Nat) : Spec E := { ps := [.val (.st 25)], rs := [.bool], own := true, dp := false, R := R, fn := fun x => m N x.1, res := fun r => (r, ()), out := fun r => ((), ()), shut := fun a b => a.1, res_shut := fun _ _ => rfl, out_shut := fun _ _ => rfl }
end spec_NodeOK
/-! ### impl_readMembers: loop.example/g00220/impl.readMembers -/
namespace impl_readMembers
abbrev R := (List Int) × Bool
noncomputable def step3 (N : Nat) (a0 : ByteArray) (rec : (Int × Int × (List Int)) → Option R) : (Int × Int × (List Int)) → Option R
  | (v1, v2, v3) =>
    bif (decide (v2 < v1)) then
      bif (decide (0 ≤ v2)) then
      bif (decide (v2 < (a0.size : Int))) then
      bif (room (v3.length + ([(w64 (sb a0 v2))]).length) 8) then
      rec (v1, (w64 (v2 + (1:Int))), (v3 ++ [(w64 (sb a0 v2))]))
      else none
      else none
      else none
    else
    ob (impl_membersOK.m N v3) fun y1 =>
    some (v3, y1)
noncomputable def lp3 (N : Nat) (a0 : ByteArray) : (Int × Int × (List Int)) → Option R :=
  miter (fun rec => step3 N a0 rec) N
noncomputable def m (N : Nat) (a0 : ByteArray) : Option R :=
  lp3 N a0 ((a0.size : Int), (0:Int), ([] : List Int))
@[reducible] noncomputable def sp (N : Nat) : Spec E := { ps := [.val .str], rs := [(.slice 3 (.int .i64)), .bool], own := true, dp := false, R := R, fn := fun x => m N x.1, res := fun r => (r.1, r.2, ()), out := fun r => ((), ()), shut := fun a b => (a.1, a.2.1), res_shut := fun _ _ => rfl, out_shut := fun _ _ => rfl }
end impl_readMembers
/-! ### impl_entryOK: loop.example/g00220/impl.entryOK -/
namespace impl_entryOK
abbrev R := Bool
noncomputable def m (N : Nat) (a0 : Entry) : Option R :=
  ob (impl_within.m N a0.Term (1:Int) (1000000:Int)) fun y1 =>
  bif (!y1) then
    some false
  else
  bif (a0.Kind == (0:Int)) then
    some (seq a0.Data ByteArray.empty)
  else
  bif (a0.Kind == (1:Int)) then
    ob (impl_within.m N (a0.Data.size : Int) (1:Int) (100:Int)) fun y2 =>
    some y2
  else
  bif (a0.Kind == (2:Int)) then
    ob (impl_readMembers.m N a0.Data) fun y3 =>
    some y3.2
  else
  some false
@[reducible] noncomputable def sp (N : Nat) : Spec E := { ps := [.val (.st 96)], rs := [.bool], own := true, dp := false, R := R, fn := fun x => m N x.1, res := fun r => (r, ()), out := fun r => ((), ()), shut := fun a b => a.1, res_shut := fun _ _ => rfl, out_shut := fun _ _ => rfl }
end impl_entryOK
/-! ### impl_logOK: loop.example/g00220/impl.logOK -/
namespace impl_logOK
abbrev R := Bool
noncomputable def step2 (N : Nat) (a0 : List Entry) (a1 : Int) (rec : (Int × Int) → Option R) : (Int × Int) → Option R
  | (v3, v4) =>
    bif (decide (v4 < v3)) then
      bif (decide (0 ≤ v4)) then
      bif (decide (v4 < (a0.length : Int))) then
      ob (impl_entryOK.m N (a0.getD (Int.toNat v4) Entry.dz)) fun y1 =>
      bif (!y1) then
        some false
      else
      bif (bif false then true else (decide ((a0.getD (Int.toNat v4) Entry.dz).Term > a1))) then
        some false
      else
      bif (decide (v4 > (0:Int))) then
        bif (decide (0 ≤ (w64 (v4 - (1:Int))))) then
        bif (decide ((w64 (v4 - (1:Int))) < (a0.length : Int))) then
        (let w2 : Bool := (bif false then true else (bif true then (decide ((a0.getD (Int.toNat (w64 (v4 - (1:Int)))) Entry.dz).Term > (a0.getD (Int.toNat v4) Entry.dz).Term)) else false))
        bif w2 then
          some false
        else
        rec (v3, (w64 (v4 + (1:Int)))))
        else none
        else none
      else
      bif (bif false then true else false) then
        some false
      else
      rec (v3, (w64 (v4 + (1:Int))))
      else none
      else none
    else
    some (decide ((a0.length : Int) ≤ (60:Int)))
noncomputable def lp2 (N : Nat) (a0 : List Entry) (a1 : Int) : (Int × Int) → Option R :=
  miter (fun rec => step2 N a0 a1 rec) N
noncomputable def m (N : Nat) (a0 : List Entry) (a1 : Int) : Option R :=
  lp2 N a0 a1 ((a0.length : Int), (0:Int))
@[reducible] noncomputable def sp (N : Nat) : Spec E := { ps := [.val (.slice 96 (.st 96)), .val (.int .i64)], rs := [.bool], own := true, dp := false, R := R, fn := fun x => m N x.1 x.2.1, res := fun r => (r, ()), out := fun r => ((), (), ()), shut := fun a b => a.1, res_shut := fun _ _ => rfl, out_shut := fun _ _ => rfl }
end impl_logOK
/-! ### impl_StateOK: loop.example/g00220/impl.StateOK -/
namespace impl_StateOK
abbrev R := Bool
noncomputable def m (N : Nat) (a0 : State) : Option R :=
  ob (impl_within.m N a0.Term (0:Int) (1000000:Int)) fun y1 =>
  bif y1 then
    ob (impl_within.m N a0.Vote (-1:Int) (6:Int)) fun y2 =>
    bif (bif true then y2 else false) then
      ob (impl_logOK.m N a0.Log a0.Term) fun y3 =>
      some (bif true then y3 else false)
    else
    some false
  else
  some false
@[reducible] noncomputable def sp (N : Nat) : Spec E := { ps := [.val (.st 86)], rs := [.bool], own := true, dp := false, R := R, fn := fun x => m N x.1, res := fun r => (r, ()), out := fun r => ((), ()), shut := fun a b => a.1, res_shut := fun _ _ => rfl, out_shut := fun _ _ => rfl }
end impl_StateOK
end Mir.Y
