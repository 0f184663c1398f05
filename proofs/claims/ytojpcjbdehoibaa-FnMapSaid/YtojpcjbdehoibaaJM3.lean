/- Models of functions. -/
import Derived.Test.YtojpcjbdehoibaaEngD
import Derived.Test.YtojpcjbdehoibaaJM2
namespace Mir.Y
set_option linter.unusedVariables false
set_option maxRecDepth 10000
open Go Go.Proofs Mir
/-! ### spec_l07New: loop.example/g00220/spec.l07New -/
namespace spec_l07New
abbrev R := Branch
noncomputable def m (N : Nat) (a0 : ByteArray) (a1 : ByteArray) : Option R :=
  some (Branch.mk a0 a1 (256:Int) ([] : List Branch))
@[reducible] noncomputable def sp (N : Nat) : Spec E := { ps := [.val .str, .val .str], rs := [(.st 71)], own := true, dp := false, R := R, fn := fun x => m N x.1 x.2.1, res := fun r => (r, ()), out := fun r => ((), (), ()), shut := fun a b => a.1, res_shut := fun _ _ => rfl, out_shut := fun _ _ => rfl }
end spec_l07New
/-! ### spec_l07Bit: loop.example/g00220/spec.l07Bit -/
namespace spec_l07Bit
abbrev R := Int
noncomputable def m (N : Nat) (a0 : ByteArray) (a1 : Int) : Option R :=
  bif (!decide ((8:Int) = 0)) then
  bif (decide (0 ≤ (w64 (Int.tdiv a1 (8:Int))))) then
  bif (decide ((w64 (Int.tdiv a1 (8:Int))) < (a0.size : Int))) then
  bif (!decide ((8:Int) = 0)) then
  bif (!decide ((wu64 (w64 ((7:Int) - (Int.tmod a1 (8:Int))))) < 0)) then
  (let w1 : Int := (ibit .and .i64 (w64 (Int.fdiv (sb a0 (w64 (Int.tdiv a1 (8:Int)))) (2 ^ (min (Int.toNat (wu64 (w64 ((7:Int) - (Int.tmod a1 (8:Int)))))) 8)))) (1:Int))
  some w1)
  else none
  else none
  else none
  else none
  else none
@[reducible] noncomputable def sp (N : Nat) : Spec E := { ps := [.val .str, .val (.int .i64)], rs := [(.int .i64)], own := true, dp := false, R := R, fn := fun x => m N x.1 x.2.1, res := fun r => (r, ()), out := fun r => ((), (), ()), shut := fun a b => a.1, res_shut := fun _ _ => rfl, out_shut := fun _ _ => rfl }
end spec_l07Bit
/-! ### spec_l07Near: loop.example/g00220/spec.l07Near -/
namespace spec_l07Near
abbrev R := ByteArray
noncomputable def step1 (N : Nat) (a0 : Branch) (a1 : ByteArray) (rec : (ByteArray × ByteArray × Int × (List Branch)) → Option R) : (ByteArray × ByteArray × Int × (List Branch)) → Option R
  | (v1, v2, v3, v4) =>
    ob (spec_l07Leaf.m N (Branch.mk v1 v2 v3 v4)) fun y1 =>
    bif (!y1) then
      ob (spec_l07Bit.m N a1 v3) fun y2 =>
      bif (decide (0 ≤ y2)) then
      bif (decide (y2 < (v4.length : Int))) then
      rec ((v4.getD (Int.toNat y2) Branch.dz).Key, (v4.getD (Int.toNat y2) Branch.dz).Value, (v4.getD (Int.toNat y2) Branch.dz).At, (v4.getD (Int.toNat y2) Branch.dz).Kids)
      else none
      else none
    else
    ob (spec_l07Hash.m N v1) fun y3 =>
    some y3
noncomputable def lp1 (N : Nat) (a0 : Branch) (a1 : ByteArray) : (ByteArray × ByteArray × Int × (List Branch)) → Option R :=
  miter (fun rec => step1 N a0 a1 rec) N
noncomputable def m (N : Nat) (a0 : Branch) (a1 : ByteArray) : Option R :=
  lp1 N a0 a1 (a0.Key, a0.Value, a0.At, a0.Kids)
@[reducible] noncomputable def sp (N : Nat) : Spec E := { ps := [.val (.st 71), .val .str], rs := [.str], own := true, dp := false, R := R, fn := fun x => m N x.1 x.2.1, res := fun r => (r, ()), out := fun r => ((), (), ()), shut := fun a b => a.1, res_shut := fun _ _ => rfl, out_shut := fun _ _ => rfl }
end spec_l07Near
/-! ### spec_l07Differ: loop.example/g00220/spec.l07Differ -/
namespace spec_l07Differ
abbrev R := Int
noncomputable def step2 (N : Nat) (a0 : ByteArray) (a1 : ByteArray) (rec : Int → Option R) : Int → Option R
  | v2 =>
    bif (decide (v2 < (256:Int))) then
      ob (spec_l07Bit.m N a0 v2) fun y1 =>
      ob (spec_l07Bit.m N a1 v2) fun y2 =>
      bif (y1 != y2) then
        some v2
      else
      rec (w64 (v2 + (1:Int)))
    else
    some (256:Int)
noncomputable def lp2 (N : Nat) (a0 : ByteArray) (a1 : ByteArray) : Int → Option R :=
  miter (fun rec => step2 N a0 a1 rec) N
noncomputable def m (N : Nat) (a0 : ByteArray) (a1 : ByteArray) : Option R :=
  lp2 N a0 a1 (0:Int)
@[reducible] noncomputable def sp (N : Nat) : Spec E := { ps := [.val .str, .val .str], rs := [(.int .i64)], own := true, dp := false, R := R, fn := fun x => m N x.1 x.2.1, res := fun r => (r, ()), out := fun r => ((), (), ()), shut := fun a b => a.1, res_shut := fun _ _ => rfl, out_shut := fun _ _ => rfl }
end spec_l07Differ
/-! ### spec_l07Insert: loop.example/g00220/spec.l07Insert -/
namespace spec_l07Insert
abbrev R := Branch
@[reducible] noncomputable def spf (f : Branch → ByteArray → Int → Branch → Option R) : Spec E := { ps := [.val (.st 71), .val .str, .val (.int .i64), .val (.st 71)], rs := [(.st 71)], own := false, dp := false, R := R, fn := fun x => f x.1 x.2.1 x.2.2.1 x.2.2.2.1, res := fun r => (r, ()), out := fun r => ((), (), (), (), ()), shut := fun a b => a.1, res_shut := fun _ _ => rfl, out_shut := fun _ _ => rfl }
end spec_l07Insert
namespace spec_l07Insert
noncomputable def mb (N : Nat) (slf : Branch → ByteArray → Int → Branch → Option R) (a0 : Branch) (a1 : ByteArray) (a2 : Int) (a3 : Branch) : Option R :=
  bif (a2 == (256:Int)) then
    ob (spec_l07Leaf.m N (Branch.mk a0.Key a0.Value a0.At a0.Kids)) fun y1 =>
    bif (bif true then y1 else false) then
      some (Branch.mk a3.Key a3.Value a3.At a3.Kids)
    else
    ob (spec_l07Leaf.m N (Branch.mk a0.Key a0.Value a0.At a0.Kids)) fun y2 =>
    bif y2 then
      ob (spec_l07Bit.m N a1 a2) fun y3 =>
      bif (y3 == (0:Int)) then
        some (Branch.mk ByteArray.empty ByteArray.empty a2 ([(Branch.mk a3.Key a3.Value a3.At a3.Kids), (Branch.mk a0.Key a0.Value a0.At a0.Kids)]))
      else
      some (Branch.mk ByteArray.empty ByteArray.empty a2 ([(Branch.mk a0.Key a0.Value a0.At a0.Kids), (Branch.mk a3.Key a3.Value a3.At a3.Kids)]))
    else
    bif (bif false then true else (decide (a0.At > a2))) then
      ob (spec_l07Bit.m N a1 a2) fun y4 =>
      bif (y4 == (0:Int)) then
        some (Branch.mk ByteArray.empty ByteArray.empty a2 ([(Branch.mk a3.Key a3.Value a3.At a3.Kids), (Branch.mk a0.Key a0.Value a0.At a0.Kids)]))
      else
      some (Branch.mk ByteArray.empty ByteArray.empty a2 ([(Branch.mk a0.Key a0.Value a0.At a0.Kids), (Branch.mk a3.Key a3.Value a3.At a3.Kids)]))
    else
    ob (spec_l07Bit.m N a1 a0.At) fun y5 =>
    bif (room (([] : List Branch).length + a0.Kids.length) 64) then
    bif (decide (0 ≤ y5)) then
    bif (decide (y5 < (a0.Kids.length : Int))) then
    ob (slf (Branch.mk ((a0.Kids.getD (Int.toNat y5) Branch.dz).Key) ((a0.Kids.getD (Int.toNat y5) Branch.dz).Value) ((a0.Kids.getD (Int.toNat y5) Branch.dz).At) ((a0.Kids.getD (Int.toNat y5) Branch.dz).Kids)) a1 a2 (Branch.mk a3.Key a3.Value a3.At a3.Kids)) fun y6 =>
    bif (decide (0 ≤ y5)) then
    bif (decide (y5 < ((([] : List Branch) ++ a0.Kids).length : Int))) then
    some (Branch.mk ByteArray.empty ByteArray.empty a0.At ((([] : List Branch) ++ a0.Kids).set (Int.toNat y5) (Branch.mk y6.Key y6.Value y6.At y6.Kids)))
    else none
    else none
    else none
    else none
    else none
  else
  ob (spec_l07Leaf.m N (Branch.mk a0.Key a0.Value a0.At a0.Kids)) fun y7 =>
  bif y7 then
    ob (spec_l07Bit.m N a1 a2) fun y8 =>
    bif (y8 == (0:Int)) then
      some (Branch.mk ByteArray.empty ByteArray.empty a2 ([(Branch.mk a3.Key a3.Value a3.At a3.Kids), (Branch.mk a0.Key a0.Value a0.At a0.Kids)]))
    else
    some (Branch.mk ByteArray.empty ByteArray.empty a2 ([(Branch.mk a0.Key a0.Value a0.At a0.Kids), (Branch.mk a3.Key a3.Value a3.At a3.Kids)]))
  else
  bif (bif false then true else (decide (a0.At > a2))) then
    ob (spec_l07Bit.m N a1 a2) fun y9 =>
    bif (y9 == (0:Int)) then
      some (Branch.mk ByteArray.empty ByteArray.empty a2 ([(Branch.mk a3.Key a3.Value a3.At a3.Kids), (Branch.mk a0.Key a0.Value a0.At a0.Kids)]))
    else
    some (Branch.mk ByteArray.empty ByteArray.empty a2 ([(Branch.mk a0.Key a0.Value a0.At a0.Kids), (Branch.mk a3.Key a3.Value a3.At a3.Kids)]))
  else
  ob (spec_l07Bit.m N a1 a0.At) fun y10 =>
  bif (room (([] : List Branch).length + a0.Kids.length) 64) then
  bif (decide (0 ≤ y10)) then
  bif (decide (y10 < (a0.Kids.length : Int))) then
  ob (slf (Branch.mk ((a0.Kids.getD (Int.toNat y10) Branch.dz).Key) ((a0.Kids.getD (Int.toNat y10) Branch.dz).Value) ((a0.Kids.getD (Int.toNat y10) Branch.dz).At) ((a0.Kids.getD (Int.toNat y10) Branch.dz).Kids)) a1 a2 (Branch.mk a3.Key a3.Value a3.At a3.Kids)) fun y11 =>
  bif (decide (0 ≤ y10)) then
  bif (decide (y10 < ((([] : List Branch) ++ a0.Kids).length : Int))) then
  some (Branch.mk ByteArray.empty ByteArray.empty a0.At ((([] : List Branch) ++ a0.Kids).set (Int.toNat y10) (Branch.mk y11.Key y11.Value y11.At y11.Kids)))
  else none
  else none
  else none
  else none
  else none
noncomputable def mF (N : Nat) : Nat → Branch → ByteArray → Int → Branch → Option R
  | 0 => fun _ _ _ _ => none
  | n + 1 => fun a0 a1 a2 a3 => mb N (mF N n) a0 a1 a2 a3
noncomputable def m (N : Nat) : Branch → ByteArray → Int → Branch → Option R := mF N N
@[reducible] noncomputable def sp (N : Nat) : Spec E := spf (m N)
end spec_l07Insert
/-! ### spec_l07Put: loop.example/g00220/spec.l07Put -/
namespace spec_l07Put
abbrev R := Branch
noncomputable def m (N : Nat) (a0 : Branch) (a1 : ByteArray) (a2 : ByteArray) : Option R :=
  ob (spec_l07Empty.m N (Branch.mk a0.Key a0.Value a0.At a0.Kids)) fun y1 =>
  bif y1 then
    ob (spec_l07New.m N a1 a2) fun y2 =>
    some (Branch.mk y2.Key y2.Value y2.At y2.Kids)
  else
  ob (spec_l07Hash.m N a1) fun y3 =>
  ob (spec_l07Near.m N (Branch.mk a0.Key a0.Value a0.At a0.Kids) y3) fun y4 =>
  ob (spec_l07Differ.m N y3 y4) fun y5 =>
  ob (spec_l07New.m N a1 a2) fun y6 =>
  ob (spec_l07Insert.m N (Branch.mk a0.Key a0.Value a0.At a0.Kids) y3 y5 (Branch.mk y6.Key y6.Value y6.At y6.Kids)) fun y7 =>
  some (Branch.mk y7.Key y7.Value y7.At y7.Kids)
@[reducible] noncomputable def sp (N : Nat) : Spec E := { ps := [.val (.st 71), .val .str, .val .str], rs := [(.st 71)], own := false, dp := false, R := R, fn := fun x => m N x.1 x.2.1 x.2.2.1, res := fun r => (r, ()), out := fun r => ((), (), (), ()), shut := fun a b => a.1, res_shut := fun _ _ => rfl, out_shut := fun _ _ => rfl }
end spec_l07Put
/-! ### spec_l00Src_chance: (*loop.example/g00220/spec.l00Src).chance -/
namespace spec_l00Src_chance
abbrev R := Bool × l00Src
noncomputable def m (N : Nat) (a0 : l00Src) (a1 : Int) : Option R :=
  ob (spec_l00Src_next_.m N a0 a1) fun y1 =>
  some ((y1.1 == (w64 (a1 - (1:Int)))), y1.2)
@[reducible] noncomputable def sp (N : Nat) : Spec E := { ps := [.box false 179 179, .val (.int .i64)], rs := [.bool], own := true, dp := false, R := R, fn := fun x => m N x.1 x.2.1, res := fun r => (r.1, ()), out := fun r => (r.2, (), ()), shut := fun a b => (a.1, b.1), res_shut := fun _ _ => rfl, out_shut := fun _ _ => rfl }
end spec_l00Src_chance
/-! ### spec_l07Own: loop.example/g00220/spec.l07Own -/
namespace spec_l07Own
abbrev R := Branch
@[reducible] noncomputable def spf (f : Branch → Option R) : Spec E := { ps := [.val (.st 71)], rs := [(.st 71)], own := true, dp := false, R := R, fn := fun x => f x.1, res := fun r => (r, ()), out := fun r => ((), ()), shut := fun a b => a.1, res_shut := fun _ _ => rfl, out_shut := fun _ _ => rfl }
end spec_l07Own
namespace spec_l07Own
inductive A3 where
  | s0 (v0 : Int) (v5 : ByteArray) (v6 : ByteArray) (v7 : Int)
  | s1 (v0 : Int) (v5 : ByteArray) (v6 : ByteArray) (v7 : Int) (v11 : List Branch)
noncomputable def step3 (N : Nat) (slf : Branch → Option R) (a0 : Branch) (rec : A3 → Option R) : A3 → Option R
  | .s0 v0 v5 v6 v7 =>
    bif (decide (v0 < (a0.Kids.length : Int))) then
      bif (decide (0 ≤ v0)) then
      bif (decide (v0 < (a0.Kids.length : Int))) then
      ob (slf (Branch.mk ((a0.Kids.getD (Int.toNat v0) Branch.dz).Key) ((a0.Kids.getD (Int.toNat v0) Branch.dz).Value) ((a0.Kids.getD (Int.toNat v0) Branch.dz).At) ((a0.Kids.getD (Int.toNat v0) Branch.dz).Kids))) fun y1 =>
      bif (room ([(Branch.mk y1.Key y1.Value y1.At y1.Kids)]).length 64) then
      rec (.s1 (w64 (v0 + (1:Int))) v5 v6 v7 ([(Branch.mk y1.Key y1.Value y1.At y1.Kids)]))
      else none
      else none
      else none
    else
    some (Branch.mk a0.Key a0.Value a0.At ([] : List Branch))
  | .s1 v0 v5 v6 v7 v11 =>
    bif (decide (v0 < (a0.Kids.length : Int))) then
      bif (decide (0 ≤ v0)) then
      bif (decide (v0 < (a0.Kids.length : Int))) then
      ob (slf (Branch.mk ((a0.Kids.getD (Int.toNat v0) Branch.dz).Key) ((a0.Kids.getD (Int.toNat v0) Branch.dz).Value) ((a0.Kids.getD (Int.toNat v0) Branch.dz).At) ((a0.Kids.getD (Int.toNat v0) Branch.dz).Kids))) fun y2 =>
      bif (room (v11.length + ([(Branch.mk y2.Key y2.Value y2.At y2.Kids)]).length) 64) then
      rec (.s1 (w64 (v0 + (1:Int))) v5 v6 v7 (v11 ++ [(Branch.mk y2.Key y2.Value y2.At y2.Kids)]))
      else none
      else none
      else none
    else
    some (Branch.mk a0.Key a0.Value a0.At v11)
noncomputable def lp3 (N : Nat) (slf : Branch → Option R) (a0 : Branch) : A3 → Option R :=
  miter (fun rec => step3 N slf a0 rec) N
noncomputable def mb (N : Nat) (slf : Branch → Option R) (a0 : Branch) : Option R :=
  lp3 N slf a0 (.s0 (0:Int) ByteArray.empty ByteArray.empty (0:Int))
noncomputable def mF (N : Nat) : Nat → Branch → Option R
  | 0 => fun _ => none
  | n + 1 => fun a0 => mb N (mF N n) a0
noncomputable def m (N : Nat) : Branch → Option R := mF N N
@[reducible] noncomputable def sp (N : Nat) : Spec E := spf (m N)
end spec_l07Own
/-! ### spec_l00Digits: loop.example/g00220/spec.l00Digits -/
namespace spec_l00Digits
abbrev R := ByteArray
@[reducible] noncomputable def spf (f : Int → Option R) : Spec E := { ps := [.val (.int .i64)], rs := [.str], own := true, dp := false, R := R, fn := fun x => f x.1, res := fun r => (r, ()), out := fun r => ((), ()), shut := fun a b => a.1, res_shut := fun _ _ => rfl, out_shut := fun _ _ => rfl }
end spec_l00Digits
namespace spec_l00Digits
noncomputable def mb (N : Nat) (slf : Int → Option R) (a0 : Int) : Option R :=
  bif (a0 == (-9223372036854775808:Int)) then
    some (⟨#[45, 57, 50, 50, 51, 51, 55, 50, 48, 51, 54, 56, 53, 52, 55, 55, 53, 56, 48, 56]⟩ : ByteArray)
  else
  bif (decide (a0 < (0:Int))) then
    ob (slf (w64 (0 - a0))) fun y1 =>
    bif (decide ((⟨#[45]⟩ : ByteArray).size + y1.size ≤ 9223372036854775807)) then
    some ((⟨#[45]⟩ : ByteArray) ++ y1)
    else none
  else
  bif (decide (a0 < (10:Int))) then
    some (strOf ([(wu8 (w64 ((48:Int) + a0)))]))
  else
  bif (!decide ((10:Int) = 0)) then
  ob (slf (w64 (Int.tdiv a0 (10:Int)))) fun y2 =>
  bif (!decide ((10:Int) = 0)) then
  bif (decide (y2.size + (strOf ([(wu8 (w64 ((48:Int) + (Int.tmod a0 (10:Int)))))])).size ≤ 9223372036854775807)) then
  some (y2 ++ (strOf ([(wu8 (w64 ((48:Int) + (Int.tmod a0 (10:Int)))))])))
  else none
  else none
  else none
noncomputable def mF (N : Nat) : Nat → Int → Option R
  | 0 => fun _ => none
  | n + 1 => fun a0 => mb N (mF N n) a0
noncomputable def m (N : Nat) : Int → Option R := mF N N
@[reducible] noncomputable def sp (N : Nat) : Spec E := spf (m N)
end spec_l00Digits
/-! ### spec_l00Src_branch: (*loop.example/g00220/spec.l00Src).branch -/
namespace spec_l00Src_branch
abbrev R := Branch × l00Src
inductive A3 where
  | s0 (v0 : Int) (v1 : List Int) (v2 : Int) (v3 : Int) (v4 : ByteArray) (v5 : ByteArray) (v6 : Int) (v7 : ByteArray) (v8 : ByteArray) (v9 : Int)
  | s1 (v0 : Int) (v1 : List Int) (v2 : Int) (v3 : Int) (v4 : ByteArray) (v5 : ByteArray) (v6 : Int) (v7 : ByteArray) (v8 : ByteArray) (v9 : Int) (v10 : List Branch)
inductive A8 where
  | s0 (v0 : Int) (v1 : List Int) (v2 : Int) (v3 : Int) (v4 : ByteArray) (v5 : ByteArray) (v6 : Int) (v7 : ByteArray) (v8 : ByteArray) (v9 : Int)
  | s1 (v0 : Int) (v1 : List Int) (v2 : Int) (v3 : Int) (v4 : ByteArray) (v5 : ByteArray) (v6 : Int) (v7 : ByteArray) (v8 : ByteArray) (v9 : Int) (v10 : List Branch)
noncomputable def step3 (N : Nat) (a0 : l00Src) (lp8 : A8 → Option R) (rec : A3 → Option R) : A3 → Option R
  | .s0 v0 v1 v2 v3 v4 v5 v6 v7 v8 v9 =>
    bif (decide (v0 > (0:Int))) then
      ob (spec_l07Size.m N (Branch.mk v7 v8 v9 ([] : List Branch))) fun y3 =>
      bif (bif true then (decide (y3 < (40:Int))) else false) then
        ob (spec_l00Src_mapKey.m N (l00Src.mk v1 v2 v3)) fun y4 =>
        ob (spec_l00Src_datum.m N y4.2) fun y5 =>
        ob (spec_l07Put.m N (Branch.mk v7 v8 v9 ([] : List Branch)) y4.1 y5.1) fun y6 =>
        rec (.s1 (w64 (v0 - (1:Int))) y5.2.code y5.2.«at» y5.2.seed v4 v5 v6 y6.Key y6.Value y6.At y6.Kids)
      else
      ob (spec_l00Src_chance.m N (l00Src.mk v1 v2 v3) (40:Int)) fun y7 =>
      bif y7.1 then
        lp8 (.s0 (0:Int) y7.2.code y7.2.«at» y7.2.seed v4 v5 v6 v7 v8 v9)
      else
      ob (spec_l07Own.m N (Branch.mk v7 v8 v9 ([] : List Branch))) fun y8 =>
      some ((Branch.mk y8.Key y8.Value y8.At y8.Kids), y7.2)
    else
    ob (spec_l00Src_chance.m N (l00Src.mk v1 v2 v3) (40:Int)) fun y9 =>
    bif y9.1 then
      lp8 (.s0 (0:Int) y9.2.code y9.2.«at» y9.2.seed v4 v5 v6 v7 v8 v9)
    else
    ob (spec_l07Own.m N (Branch.mk v7 v8 v9 ([] : List Branch))) fun y10 =>
    some ((Branch.mk y10.Key y10.Value y10.At y10.Kids), y9.2)
  | .s1 v0 v1 v2 v3 v4 v5 v6 v7 v8 v9 v10 =>
    bif (decide (v0 > (0:Int))) then
      ob (spec_l07Size.m N (Branch.mk v7 v8 v9 v10)) fun y11 =>
      bif (bif true then (decide (y11 < (40:Int))) else false) then
        ob (spec_l00Src_mapKey.m N (l00Src.mk v1 v2 v3)) fun y12 =>
        ob (spec_l00Src_datum.m N y12.2) fun y13 =>
        ob (spec_l07Put.m N (Branch.mk v7 v8 v9 v10) y12.1 y13.1) fun y14 =>
        rec (.s1 (w64 (v0 - (1:Int))) y13.2.code y13.2.«at» y13.2.seed v4 v5 v6 y14.Key y14.Value y14.At y14.Kids)
      else
      ob (spec_l00Src_chance.m N (l00Src.mk v1 v2 v3) (40:Int)) fun y15 =>
      bif y15.1 then
        lp8 (.s1 (0:Int) y15.2.code y15.2.«at» y15.2.seed v4 v5 v6 v7 v8 v9 v10)
      else
      ob (spec_l07Own.m N (Branch.mk v7 v8 v9 v10)) fun y16 =>
      some ((Branch.mk y16.Key y16.Value y16.At y16.Kids), y15.2)
    else
    ob (spec_l00Src_chance.m N (l00Src.mk v1 v2 v3) (40:Int)) fun y17 =>
    bif y17.1 then
      lp8 (.s1 (0:Int) y17.2.code y17.2.«at» y17.2.seed v4 v5 v6 v7 v8 v9 v10)
    else
    ob (spec_l07Own.m N (Branch.mk v7 v8 v9 v10)) fun y18 =>
    some ((Branch.mk y18.Key y18.Value y18.At y18.Kids), y17.2)
noncomputable def step8 (N : Nat) (a0 : l00Src) (rec : A8 → Option R) : A8 → Option R
  | .s0 v0 v1 v2 v3 v4 v5 v6 v7 v8 v9 =>
    ob (spec_l07Size.m N (Branch.mk v7 v8 v9 ([] : List Branch))) fun y19 =>
    bif (decide (y19 < (40:Int))) then
      ob (spec_l00Digits.m N v0) fun y20 =>
      bif (decide ((⟨#[107]⟩ : ByteArray).size + y20.size ≤ 9223372036854775807)) then
      ob (spec_l07Put.m N (Branch.mk v7 v8 v9 ([] : List Branch)) ((⟨#[107]⟩ : ByteArray) ++ y20) (⟨#[118]⟩ : ByteArray)) fun y21 =>
      rec (.s1 (w64 (v0 + (1:Int))) v1 v2 v3 v4 v5 v6 y21.Key y21.Value y21.At y21.Kids)
      else none
    else
    ob (spec_l07Own.m N (Branch.mk v7 v8 v9 ([] : List Branch))) fun y22 =>
    some ((Branch.mk y22.Key y22.Value y22.At y22.Kids), (l00Src.mk v1 v2 v3))
  | .s1 v0 v1 v2 v3 v4 v5 v6 v7 v8 v9 v10 =>
    ob (spec_l07Size.m N (Branch.mk v7 v8 v9 v10)) fun y23 =>
    bif (decide (y23 < (40:Int))) then
      ob (spec_l00Digits.m N v0) fun y24 =>
      bif (decide ((⟨#[107]⟩ : ByteArray).size + y24.size ≤ 9223372036854775807)) then
      ob (spec_l07Put.m N (Branch.mk v7 v8 v9 v10) ((⟨#[107]⟩ : ByteArray) ++ y24) (⟨#[118]⟩ : ByteArray)) fun y25 =>
      rec (.s1 (w64 (v0 + (1:Int))) v1 v2 v3 v4 v5 v6 y25.Key y25.Value y25.At y25.Kids)
      else none
    else
    ob (spec_l07Own.m N (Branch.mk v7 v8 v9 v10)) fun y26 =>
    some ((Branch.mk y26.Key y26.Value y26.At y26.Kids), (l00Src.mk v1 v2 v3))
noncomputable def lp8 (N : Nat) (a0 : l00Src) : A8 → Option R :=
  miter (fun rec => step8 N a0 rec) N
noncomputable def lp3 (N : Nat) (a0 : l00Src) : A3 → Option R :=
  miter (fun rec => step3 N a0 (lp8 N a0) rec) N
noncomputable def m (N : Nat) (a0 : l00Src) : Option R :=
  ob (spec_l00Src_size_.m N a0 (12:Int)) fun y1 =>
  ob (spec_l00Src_next_.m N a0 (w64 (y1 + (3:Int)))) fun y2 =>
  lp3 N a0 (.s0 y2.1 y2.2.code y2.2.«at» y2.2.seed ByteArray.empty ByteArray.empty (0:Int) ByteArray.empty ByteArray.empty (0:Int))
@[reducible] noncomputable def sp (N : Nat) : Spec E := { ps := [.box false 179 179], rs := [(.st 71)], own := true, dp := false, R := R, fn := fun x => m N x.1, res := fun r => (r.1, ()), out := fun r => (r.2, ()), shut := fun a b => (a.1, b.1), res_shut := fun _ _ => rfl, out_shut := fun _ _ => rfl }
end spec_l00Src_branch
/-! ### spec_MapOf: loop.example/g00220/spec.MapOf -/
namespace spec_MapOf
abbrev R := Branch
noncomputable def m (N : Nat) (a0 : List Int) : Option R :=
  ob (spec_l00Source.m N a0) fun y1 =>
  ob (spec_l00Src_branch.m N (l00Src.mk y1.code y1.«at» y1.seed)) fun y2 =>
  some (Branch.mk y2.1.Key y2.1.Value y2.1.At y2.1.Kids)
@[reducible] noncomputable def sp (N : Nat) : Spec E := { ps := [.val (.slice 5 (.int .u8))], rs := [(.st 71)], own := true, dp := false, R := R, fn := fun x => m N x.1, res := fun r => (r, ()), out := fun r => ((), ()), shut := fun a b => a.1, res_shut := fun _ _ => rfl, out_shut := fun _ _ => rfl }
end spec_MapOf
/-! ### spec_MapPut: loop.example/g00220/spec.MapPut -/
namespace spec_MapPut
abbrev R := Branch × Int
noncomputable def m (N : Nat) (a0 : Branch) (a1 : ByteArray) (a2 : ByteArray) : Option R :=
  bif (decide ((a1.size : Int) > (65536:Int))) then
    some ((Branch.mk ByteArray.empty ByteArray.empty (0:Int) ([] : List Branch)), (2:Int))
  else
  bif (bif false then true else (decide ((a2.size : Int) > (65536:Int)))) then
    some ((Branch.mk ByteArray.empty ByteArray.empty (0:Int) ([] : List Branch)), (2:Int))
  else
  ob (spec_MapOK.m N (Branch.mk a0.Key a0.Value a0.At a0.Kids)) fun y1 =>
  bif (!y1) then
    some ((Branch.mk ByteArray.empty ByteArray.empty (0:Int) ([] : List Branch)), (1:Int))
  else
  ob (spec_l02Key.m N a1) fun y2 =>
  bif (bif false then true else (!y2)) then
    some ((Branch.mk ByteArray.empty ByteArray.empty (0:Int) ([] : List Branch)), (1:Int))
  else
  bif (bif false then true else (decide ((a2.size : Int) > (60:Int)))) then
    some ((Branch.mk ByteArray.empty ByteArray.empty (0:Int) ([] : List Branch)), (1:Int))
  else
  ob (spec_l07Put.m N (Branch.mk a0.Key a0.Value a0.At a0.Kids) a1 a2) fun y3 =>
  ob (spec_l07Size.m N (Branch.mk y3.Key y3.Value y3.At y3.Kids)) fun y4 =>
  bif (decide (y4 > (40:Int))) then
    some ((Branch.mk ByteArray.empty ByteArray.empty (0:Int) ([] : List Branch)), (7:Int))
  else
  ob (spec_l07Own.m N (Branch.mk y3.Key y3.Value y3.At y3.Kids)) fun y5 =>
  some ((Branch.mk y5.Key y5.Value y5.At y5.Kids), (0:Int))
@[reducible] noncomputable def sp (N : Nat) : Spec E := { ps := [.val (.st 71), .val .str, .val .str], rs := [(.st 71), (.int .i64)], own := true, dp := false, R := R, fn := fun x => m N x.1 x.2.1 x.2.2.1, res := fun r => (r.1, r.2, ()), out := fun r => ((), (), (), ()), shut := fun a b => (a.1, a.2.1), res_shut := fun _ _ => rfl, out_shut := fun _ _ => rfl }
end spec_MapPut
/-! ### slices_Delete_impl_pairOf: slices.Delete[[]impl.pairOf,impl.pairOf], by hand -/
namespace slices_Delete_impl_pairOf
abbrev R := List pairOf
def m (N : Nat) (a0 : List pairOf) (a1 : Int) (a2 : Int) : Option R := delM a0 a1 a2
@[reducible] noncomputable def sp (N : Nat) : Spec E := { ps := [.mov false (.slice 146 (.st 146)), .val (.int .i64), .val (.int .i64)], rs := [(.slice 146 (.st 146))], own := true, dp := false, R := R, fn := fun x => m N x.1 x.2.1 x.2.2.1, res := fun r => (r, ()), out := fun r => ((), (), (), ()), shut := fun a b => a.1, res_shut := fun _ _ => rfl, out_shut := fun _ _ => rfl }
end slices_Delete_impl_pairOf
/-! ### impl_MapDrop: loop.example/g00220/impl.MapDrop -/
namespace impl_MapDrop
abbrev R := Branch × Int
noncomputable def m (N : Nat) (a0 : Branch) (a1 : ByteArray) : Option R :=
  ob (impl_mapCode.m N (Branch.mk a0.Key a0.Value a0.At a0.Kids) a1) fun y1 =>
  bif (y1.2 != (0:Int)) then
    some ((Branch.mk ByteArray.empty ByteArray.empty (0:Int) ([] : List Branch)), y1.2)
  else
  ob (impl_pairAt.m N y1.1 a1) fun y2 =>
  bif (!y2.2) then
    some ((Branch.mk ByteArray.empty ByteArray.empty (0:Int) ([] : List Branch)), (5:Int))
  else
  ob (slices_Delete_impl_pairOf.m N y1.1 y2.1 (w64 (y2.1 + (1:Int)))) fun y3 =>
  ob (impl_mapOf.m N y3 (0:Int)) fun y4 =>
  some ((Branch.mk y4.Key y4.Value y4.At y4.Kids), (0:Int))
@[reducible] noncomputable def sp (N : Nat) : Spec E := { ps := [.val (.st 71), .val .str], rs := [(.st 71), (.int .i64)], own := true, dp := false, R := R, fn := fun x => m N x.1 x.2.1, res := fun r => (r.1, r.2, ()), out := fun r => ((), (), ()), shut := fun a b => (a.1, a.2.1), res_shut := fun _ _ => rfl, out_shut := fun _ _ => rfl }
end impl_MapDrop
/-! ### laws_FnMapDrops: loop.example/g00220/laws.FnMapDrops -/
namespace laws_FnMapDrops
abbrev R := Bool
noncomputable def m (N : Nat) (a0 : List Int) (a1 : List Int) : Option R :=
  bif (decide ((a0.length : Int) > (1048576:Int))) then
    some true
  else
  bif (bif false then true else (decide ((a1.length : Int) > (1048576:Int)))) then
    some true
  else
  ob (spec_MapOf.m N a0) fun y1 =>
  ob (spec_MapKeyOf.m N a1) fun y2 =>
  ob (impl_MapGet.m N (Branch.mk y1.Key y1.Value y1.At y1.Kids) y2) fun y3 =>
  ob (impl_MapRoot.m N (Branch.mk y1.Key y1.Value y1.At y1.Kids)) fun y4 =>
  ob (impl_MapPut.m N (Branch.mk y1.Key y1.Value y1.At y1.Kids) y2 (⟨#[110, 101, 119]⟩ : ByteArray)) fun y5 =>
  ob (spec_MapPut.m N (Branch.mk y1.Key y1.Value y1.At y1.Kids) y2 (⟨#[110, 101, 119]⟩ : ByteArray)) fun y6 =>
  bif (y4.2 != (0:Int)) then
    some false
  else
  bif (bif false then true else (y5.2 != y6.2)) then
    some false
  else
  bif (y5.2 != (0:Int)) then
    some (y5.2 == (7:Int))
  else
  ob (impl_MapDrop.m N (Branch.mk y5.1.Key y5.1.Value y5.1.At y5.1.Kids) y2) fun y7 =>
  ob (impl_MapRoot.m N (Branch.mk y7.1.Key y7.1.Value y7.1.At y7.1.Kids)) fun y8 =>
  ob (impl_MapDrop.m N (Branch.mk y7.1.Key y7.1.Value y7.1.At y7.1.Kids) y2) fun y9 =>
  bif (y7.2 == (0:Int)) then
    bif (bif true then (y8.2 == (0:Int)) else false) then
      bif (bif true then (y9.2 == (5:Int)) else false) then
        ob (impl_MapOK.m N (Branch.mk y7.1.Key y7.1.Value y7.1.At y7.1.Kids)) fun y10 =>
        bif (bif true then y10 else false) then
          bif (y3.2 == (0:Int)) then
            some (bif true then true else false)
          else
          some (bif true then (bif false then true else (seq y8.1 y4.1)) else false)
        else
        some false
      else
      some false
    else
    some false
  else
  some false
@[reducible] noncomputable def sp (N : Nat) : Spec E := { ps := [.val (.slice 5 (.int .u8)), .val (.slice 5 (.int .u8))], rs := [.bool], own := true, dp := false, R := R, fn := fun x => m N x.1 x.2.1, res := fun r => (r, ()), out := fun r => ((), (), ()), shut := fun a b => a.1, res_shut := fun _ _ => rfl, out_shut := fun _ _ => rfl }
end laws_FnMapDrops
end Mir.Y
