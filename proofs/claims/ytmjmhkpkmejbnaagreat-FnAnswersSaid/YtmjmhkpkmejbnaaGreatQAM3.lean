/- Models of functions. -/
import Derived.Test.YtmjmhkpkmejbnaaGreatQAM2
namespace Mir.Y
set_option linter.unusedVariables false
set_option maxRecDepth 10000
open Go Go.Proofs Mir
set_option linter.unusedSectionVars false
variable [UU]
namespace spec_l07Near
abbrev R := ByteArray
noncomputable def step1 (N : Nat) (a0 : Branch) (a1 : ByteArray) (rec : (ByteArray × ByteArray × Int × (List Branch)) → Option R) : (ByteArray × ByteArray × Int × (List Branch)) → Option R
  | (v1, v2, v3, v4) =>
    ob (spec_l07Leaf.m N (Branch.mk v1 v2 v3 v4)) fun y1 =>
    bif (!y1) then
      ob (spec_l07Bit.m N a1 v3) fun y2 =>
      bif (decide (0 ≤ y2)) then
      bif (decide (y2 < (v4.length : Int))) then
      rec ((v4.getD (Int.toNat y2) Branch.dz).Key, (v4.getD (Int.toNat y2) Branch.dz).Value, (v4.getD (Int.toNat y2) Branch.dz).At, (v4.getD (Int.toNat y2) Branch.dz).Kids)
      else none
      else none
    else
    ob (spec_l07Hash.m N v1) fun y3 =>
    some y3
noncomputable def lp1 (N : Nat) (a0 : Branch) (a1 : ByteArray) : (ByteArray × ByteArray × Int × (List Branch)) → Option R :=
  miter (fun rec => step1 N a0 a1 rec) N
noncomputable def m0 (N : Nat) (a0 : Branch) (a1 : ByteArray) (lp1 : ByteArray × ByteArray × Int × (List Branch) → Option R) : Option R :=
  lp1 (a0.Key, a0.Value, a0.At, a0.Kids)
@[reducible] noncomputable def m (N : Nat) (a0 : Branch) (a1 : ByteArray) : Option R := m0 N a0 a1 (lp1 N a0 a1)
@[reducible] noncomputable def sp (N : Nat) : Spec E := ⟨[.val (.st 36), .val .str], [.str], true, false, R, fun x => m N x.1 x.2.1, fun r => (r, ()), fun r => ((), (), ()), fun a b => a.1, fun _ _ => rfl, fun _ _ => rfl⟩
end spec_l07Near
namespace spec_l07Differ
abbrev R := Int
noncomputable def step2 (N : Nat) (a0 : ByteArray) (a1 : ByteArray) (rec : Int → Option R) : Int → Option R
  | v2 =>
    bif (decide (v2 < (256:Int))) then
      ob (spec_l07Bit.m N a0 v2) fun y1 =>
      ob (spec_l07Bit.m N a1 v2) fun y2 =>
      bif (y1 != y2) then
        some v2
      else
      rec (w64 (v2 + (1:Int)))
    else
    some (256:Int)
noncomputable def lp2 (N : Nat) (a0 : ByteArray) (a1 : ByteArray) : Int → Option R :=
  miter (fun rec => step2 N a0 a1 rec) N
noncomputable def m0 (N : Nat) (a0 : ByteArray) (a1 : ByteArray) (lp2 : Int → Option R) : Option R :=
  lp2 (0:Int)
@[reducible] noncomputable def m (N : Nat) (a0 : ByteArray) (a1 : ByteArray) : Option R := m0 N a0 a1 (lp2 N a0 a1)
@[reducible] noncomputable def sp (N : Nat) : Spec E := ⟨[.val .str, .val .str], [(.int .i64)], true, false, R, fun x => m N x.1 x.2.1, fun r => (r, ()), fun r => ((), (), ()), fun a b => a.1, fun _ _ => rfl, fun _ _ => rfl⟩
end spec_l07Differ
namespace spec_l07Insert
abbrev R := Branch
@[reducible] noncomputable def spf (f : Branch → ByteArray → Int → Branch → Option R) : Spec E := ⟨[.val (.st 36), .val .str, .val (.int .i64), .val (.st 36)], [(.st 36)], false, false, R, fun x => f x.1 x.2.1 x.2.2.1 x.2.2.2.1, fun r => (r, ()), fun r => ((), (), (), (), ()), fun a b => a.1, fun _ _ => rfl, fun _ _ => rfl⟩
end spec_l07Insert
namespace spec_l07Insert
noncomputable def mb (N : Nat) (slf : Branch → ByteArray → Int → Branch → Option R) (a0 : Branch) (a1 : ByteArray) (a2 : Int) (a3 : Branch) : Option R :=
  bif (a2 == (256:Int)) then
    ob (spec_l07Leaf.m N (Branch.mk a0.Key a0.Value a0.At a0.Kids)) fun y1 =>
    bif (bif true then y1 else false) then
      some (Branch.mk a3.Key a3.Value a3.At a3.Kids)
    else
    ob (spec_l07Leaf.m N (Branch.mk a0.Key a0.Value a0.At a0.Kids)) fun y2 =>
    bif y2 then
      ob (spec_l07Bit.m N a1 a2) fun y3 =>
      bif (y3 == (0:Int)) then
        some (Branch.mk ByteArray.empty ByteArray.empty a2 ([(Branch.mk a3.Key a3.Value a3.At a3.Kids), (Branch.mk a0.Key a0.Value a0.At a0.Kids)]))
      else
      some (Branch.mk ByteArray.empty ByteArray.empty a2 ([(Branch.mk a0.Key a0.Value a0.At a0.Kids), (Branch.mk a3.Key a3.Value a3.At a3.Kids)]))
    else
    bif (bif false then true else (decide (a0.At > a2))) then
      ob (spec_l07Bit.m N a1 a2) fun y4 =>
      bif (y4 == (0:Int)) then
        some (Branch.mk ByteArray.empty ByteArray.empty a2 ([(Branch.mk a3.Key a3.Value a3.At a3.Kids), (Branch.mk a0.Key a0.Value a0.At a0.Kids)]))
      else
      some (Branch.mk ByteArray.empty ByteArray.empty a2 ([(Branch.mk a0.Key a0.Value a0.At a0.Kids), (Branch.mk a3.Key a3.Value a3.At a3.Kids)]))
    else
    ob (spec_l07Bit.m N a1 a0.At) fun y5 =>
    bif (room (([] : List Branch).length + a0.Kids.length) 64) then
    bif (decide (0 ≤ y5)) then
    bif (decide (y5 < (a0.Kids.length : Int))) then
    ob (slf (Branch.mk ((a0.Kids.getD (Int.toNat y5) Branch.dz).Key) ((a0.Kids.getD (Int.toNat y5) Branch.dz).Value) ((a0.Kids.getD (Int.toNat y5) Branch.dz).At) ((a0.Kids.getD (Int.toNat y5) Branch.dz).Kids)) a1 a2 (Branch.mk a3.Key a3.Value a3.At a3.Kids)) fun y6 =>
    bif (decide (0 ≤ y5)) then
    bif (decide (y5 < ((([] : List Branch) ++ a0.Kids).length : Int))) then
    some (Branch.mk ByteArray.empty ByteArray.empty a0.At ((([] : List Branch) ++ a0.Kids).set (Int.toNat y5) (Branch.mk y6.Key y6.Value y6.At y6.Kids)))
    else none
    else none
    else none
    else none
    else none
  else
  ob (spec_l07Leaf.m N (Branch.mk a0.Key a0.Value a0.At a0.Kids)) fun y7 =>
  bif y7 then
    ob (spec_l07Bit.m N a1 a2) fun y8 =>
    bif (y8 == (0:Int)) then
      some (Branch.mk ByteArray.empty ByteArray.empty a2 ([(Branch.mk a3.Key a3.Value a3.At a3.Kids), (Branch.mk a0.Key a0.Value a0.At a0.Kids)]))
    else
    some (Branch.mk ByteArray.empty ByteArray.empty a2 ([(Branch.mk a0.Key a0.Value a0.At a0.Kids), (Branch.mk a3.Key a3.Value a3.At a3.Kids)]))
  else
  bif (bif false then true else (decide (a0.At > a2))) then
    ob (spec_l07Bit.m N a1 a2) fun y9 =>
    bif (y9 == (0:Int)) then
      some (Branch.mk ByteArray.empty ByteArray.empty a2 ([(Branch.mk a3.Key a3.Value a3.At a3.Kids), (Branch.mk a0.Key a0.Value a0.At a0.Kids)]))
    else
    some (Branch.mk ByteArray.empty ByteArray.empty a2 ([(Branch.mk a0.Key a0.Value a0.At a0.Kids), (Branch.mk a3.Key a3.Value a3.At a3.Kids)]))
  else
  ob (spec_l07Bit.m N a1 a0.At) fun y10 =>
  bif (room (([] : List Branch).length + a0.Kids.length) 64) then
  bif (decide (0 ≤ y10)) then
  bif (decide (y10 < (a0.Kids.length : Int))) then
  ob (slf (Branch.mk ((a0.Kids.getD (Int.toNat y10) Branch.dz).Key) ((a0.Kids.getD (Int.toNat y10) Branch.dz).Value) ((a0.Kids.getD (Int.toNat y10) Branch.dz).At) ((a0.Kids.getD (Int.toNat y10) Branch.dz).Kids)) a1 a2 (Branch.mk a3.Key a3.Value a3.At a3.Kids)) fun y11 =>
  bif (decide (0 ≤ y10)) then
  bif (decide (y10 < ((([] : List Branch) ++ a0.Kids).length : Int))) then
  some (Branch.mk ByteArray.empty ByteArray.empty a0.At ((([] : List Branch) ++ a0.Kids).set (Int.toNat y10) (Branch.mk y11.Key y11.Value y11.At y11.Kids)))
  else none
  else none
  else none
  else none
  else none
noncomputable def mF (N : Nat) : Nat → Branch → ByteArray → Int → Branch → Option R
  | 0 => fun _ _ _ _ => none
  | n + 1 => fun a0 a1 a2 a3 => mb N (mF N n) a0 a1 a2 a3
noncomputable def m (N : Nat) : Branch → ByteArray → Int → Branch → Option R := mF N N
@[reducible] noncomputable def sp (N : Nat) : Spec E := spf (m N)
end spec_l07Insert
namespace spec_l07Put
abbrev R := Branch
noncomputable def m (N : Nat) (a0 : Branch) (a1 : ByteArray) (a2 : ByteArray) : Option R :=
  ob (spec_l07Empty.m N (Branch.mk a0.Key a0.Value a0.At a0.Kids)) fun y1 =>
  bif y1 then
    ob (spec_l07New.m N a1 a2) fun y2 =>
    some (Branch.mk y2.Key y2.Value y2.At y2.Kids)
  else
  ob (spec_l07Hash.m N a1) fun y3 =>
  ob (spec_l07Near.m N (Branch.mk a0.Key a0.Value a0.At a0.Kids) y3) fun y4 =>
  ob (spec_l07Differ.m N y3 y4) fun y5 =>
  ob (spec_l07New.m N a1 a2) fun y6 =>
  ob (spec_l07Insert.m N (Branch.mk a0.Key a0.Value a0.At a0.Kids) y3 y5 (Branch.mk y6.Key y6.Value y6.At y6.Kids)) fun y7 =>
  some (Branch.mk y7.Key y7.Value y7.At y7.Kids)
@[reducible] noncomputable def sp (N : Nat) : Spec E := ⟨[.val (.st 36), .val .str, .val .str], [(.st 36)], false, false, R, fun x => m N x.1 x.2.1 x.2.2.1, fun r => (r, ()), fun r => ((), (), (), ()), fun a b => a.1, fun _ _ => rfl, fun _ _ => rfl⟩
end spec_l07Put
namespace spec_l09Change
abbrev R := Ledger × Reply
noncomputable def m (N : Nat) (a0 : Ledger) (a1 : Command) : Option R :=
  ob (spec_l07Get.m N (Branch.mk a0.Map.Key a0.Map.Value a0.Map.At a0.Map.Kids) a1.Key) fun y1 =>
  bif (a1.Kind == (2:Int)) then
    bif (bif true then y1.2 else false) then
      bif (decide (y1.1.Value.size + a1.Value.size ≤ 9223372036854775807)) then
      bif (a1.Kind == (3:Int)) then
        bif (bif true then (!y1.2) else false) then
          some ((Ledger.mk a0.Leaves (Branch.mk a0.Map.Key a0.Map.Value a0.Map.At a0.Map.Kids) a0.Sessions), (Reply.mk (2:Int) (0:Int) ByteArray.empty))
        else
        bif ((a0.Leaves.length : Int) == (50:Int)) then
          some ((Ledger.mk a0.Leaves (Branch.mk a0.Map.Key a0.Map.Value a0.Map.At a0.Map.Kids) a0.Sessions), (Reply.mk (6:Int) (0:Int) ByteArray.empty))
        else
        bif (bif false then true else (decide (((y1.1.Value ++ a1.Value).size : Int) > (60:Int)))) then
          some ((Ledger.mk a0.Leaves (Branch.mk a0.Map.Key a0.Map.Value a0.Map.At a0.Map.Kids) a0.Sessions), (Reply.mk (6:Int) (0:Int) ByteArray.empty))
        else
        bif (a1.Kind != (3:Int)) then
          bif (bif true then (!y1.2) else false) then
            ob (spec_l07Size.m N (Branch.mk a0.Map.Key a0.Map.Value a0.Map.At a0.Map.Kids)) fun y2 =>
            bif (bif false then true else (bif true then (y2 == (40:Int)) else false)) then
              some ((Ledger.mk a0.Leaves (Branch.mk a0.Map.Key a0.Map.Value a0.Map.At a0.Map.Kids) a0.Sessions), (Reply.mk (6:Int) (0:Int) ByteArray.empty))
            else
            bif (a1.Kind == (3:Int)) then
              ob (spec_l07Hash.m N a1.Key) fun y3 =>
              ob (spec_l07Drop.m N (Branch.mk a0.Map.Key a0.Map.Value a0.Map.At a0.Map.Kids) y3 a1.Key) fun y4 =>
              bif (room (([] : List ByteArray).length + a0.Leaves.length) 16) then
              ob (spec_l02Bytes.m N a1) fun y5 =>
              ob (spec_l06Leaf.m N (strOf y5)) fun y6 =>
              bif (room ((([] : List ByteArray) ++ a0.Leaves).length + ([y6]).length) 16) then
              some ((Ledger.mk ((([] : List ByteArray) ++ a0.Leaves) ++ [y6]) (Branch.mk y4.Key y4.Value y4.At y4.Kids) a0.Sessions), (Reply.mk (1:Int) (((([] : List ByteArray) ++ a0.Leaves) ++ [y6]).length : Int) y1.1.Value))
              else none
              else none
            else
            ob (spec_l07Put.m N (Branch.mk a0.Map.Key a0.Map.Value a0.Map.At a0.Map.Kids) a1.Key (y1.1.Value ++ a1.Value)) fun y7 =>
            bif (room (([] : List ByteArray).length + a0.Leaves.length) 16) then
            ob (spec_l02Bytes.m N a1) fun y8 =>
            ob (spec_l06Leaf.m N (strOf y8)) fun y9 =>
            bif (room ((([] : List ByteArray) ++ a0.Leaves).length + ([y9]).length) 16) then
            some ((Ledger.mk ((([] : List ByteArray) ++ a0.Leaves) ++ [y9]) (Branch.mk y7.Key y7.Value y7.At y7.Kids) a0.Sessions), (Reply.mk (1:Int) (((([] : List ByteArray) ++ a0.Leaves) ++ [y9]).length : Int) (y1.1.Value ++ a1.Value)))
            else none
            else none
          else
          bif (bif false then true else false) then
            some ((Ledger.mk a0.Leaves (Branch.mk a0.Map.Key a0.Map.Value a0.Map.At a0.Map.Kids) a0.Sessions), (Reply.mk (6:Int) (0:Int) ByteArray.empty))
          else
          bif (a1.Kind == (3:Int)) then
            ob (spec_l07Hash.m N a1.Key) fun y10 =>
            ob (spec_l07Drop.m N (Branch.mk a0.Map.Key a0.Map.Value a0.Map.At a0.Map.Kids) y10 a1.Key) fun y11 =>
            bif (room (([] : List ByteArray).length + a0.Leaves.length) 16) then
            ob (spec_l02Bytes.m N a1) fun y12 =>
            ob (spec_l06Leaf.m N (strOf y12)) fun y13 =>
            bif (room ((([] : List ByteArray) ++ a0.Leaves).length + ([y13]).length) 16) then
            some ((Ledger.mk ((([] : List ByteArray) ++ a0.Leaves) ++ [y13]) (Branch.mk y11.Key y11.Value y11.At y11.Kids) a0.Sessions), (Reply.mk (1:Int) (((([] : List ByteArray) ++ a0.Leaves) ++ [y13]).length : Int) y1.1.Value))
            else none
            else none
          else
          ob (spec_l07Put.m N (Branch.mk a0.Map.Key a0.Map.Value a0.Map.At a0.Map.Kids) a1.Key (y1.1.Value ++ a1.Value)) fun y14 =>
          bif (room (([] : List ByteArray).length + a0.Leaves.length) 16) then
          ob (spec_l02Bytes.m N a1) fun y15 =>
          ob (spec_l06Leaf.m N (strOf y15)) fun y16 =>
          bif (room ((([] : List ByteArray) ++ a0.Leaves).length + ([y16]).length) 16) then
          some ((Ledger.mk ((([] : List ByteArray) ++ a0.Leaves) ++ [y16]) (Branch.mk y14.Key y14.Value y14.At y14.Kids) a0.Sessions), (Reply.mk (1:Int) (((([] : List ByteArray) ++ a0.Leaves) ++ [y16]).length : Int) (y1.1.Value ++ a1.Value)))
          else none
          else none
        else
        bif (bif false then true else false) then
          some ((Ledger.mk a0.Leaves (Branch.mk a0.Map.Key a0.Map.Value a0.Map.At a0.Map.Kids) a0.Sessions), (Reply.mk (6:Int) (0:Int) ByteArray.empty))
        else
        bif (a1.Kind == (3:Int)) then
          ob (spec_l07Hash.m N a1.Key) fun y17 =>
          ob (spec_l07Drop.m N (Branch.mk a0.Map.Key a0.Map.Value a0.Map.At a0.Map.Kids) y17 a1.Key) fun y18 =>
          bif (room (([] : List ByteArray).length + a0.Leaves.length) 16) then
          ob (spec_l02Bytes.m N a1) fun y19 =>
          ob (spec_l06Leaf.m N (strOf y19)) fun y20 =>
          bif (room ((([] : List ByteArray) ++ a0.Leaves).length + ([y20]).length) 16) then
          some ((Ledger.mk ((([] : List ByteArray) ++ a0.Leaves) ++ [y20]) (Branch.mk y18.Key y18.Value y18.At y18.Kids) a0.Sessions), (Reply.mk (1:Int) (((([] : List ByteArray) ++ a0.Leaves) ++ [y20]).length : Int) y1.1.Value))
          else none
          else none
        else
        ob (spec_l07Put.m N (Branch.mk a0.Map.Key a0.Map.Value a0.Map.At a0.Map.Kids) a1.Key (y1.1.Value ++ a1.Value)) fun y21 =>
        bif (room (([] : List ByteArray).length + a0.Leaves.length) 16) then
        ob (spec_l02Bytes.m N a1) fun y22 =>
        ob (spec_l06Leaf.m N (strOf y22)) fun y23 =>
        bif (room ((([] : List ByteArray) ++ a0.Leaves).length + ([y23]).length) 16) then
        some ((Ledger.mk ((([] : List ByteArray) ++ a0.Leaves) ++ [y23]) (Branch.mk y21.Key y21.Value y21.At y21.Kids) a0.Sessions), (Reply.mk (1:Int) (((([] : List ByteArray) ++ a0.Leaves) ++ [y23]).length : Int) (y1.1.Value ++ a1.Value)))
        else none
        else none
      else
      bif ((a0.Leaves.length : Int) == (50:Int)) then
        some ((Ledger.mk a0.Leaves (Branch.mk a0.Map.Key a0.Map.Value a0.Map.At a0.Map.Kids) a0.Sessions), (Reply.mk (6:Int) (0:Int) ByteArray.empty))
      else
      bif (bif false then true else (decide (((y1.1.Value ++ a1.Value).size : Int) > (60:Int)))) then
        some ((Ledger.mk a0.Leaves (Branch.mk a0.Map.Key a0.Map.Value a0.Map.At a0.Map.Kids) a0.Sessions), (Reply.mk (6:Int) (0:Int) ByteArray.empty))
      else
      bif (a1.Kind != (3:Int)) then
        bif (bif true then (!y1.2) else false) then
          ob (spec_l07Size.m N (Branch.mk a0.Map.Key a0.Map.Value a0.Map.At a0.Map.Kids)) fun y24 =>
          bif (bif false then true else (bif true then (y24 == (40:Int)) else false)) then
            some ((Ledger.mk a0.Leaves (Branch.mk a0.Map.Key a0.Map.Value a0.Map.At a0.Map.Kids) a0.Sessions), (Reply.mk (6:Int) (0:Int) ByteArray.empty))
          else
          bif (a1.Kind == (3:Int)) then
            ob (spec_l07Hash.m N a1.Key) fun y25 =>
            ob (spec_l07Drop.m N (Branch.mk a0.Map.Key a0.Map.Value a0.Map.At a0.Map.Kids) y25 a1.Key) fun y26 =>
            bif (room (([] : List ByteArray).length + a0.Leaves.length) 16) then
            ob (spec_l02Bytes.m N a1) fun y27 =>
            ob (spec_l06Leaf.m N (strOf y27)) fun y28 =>
            bif (room ((([] : List ByteArray) ++ a0.Leaves).length + ([y28]).length) 16) then
            some ((Ledger.mk ((([] : List ByteArray) ++ a0.Leaves) ++ [y28]) (Branch.mk y26.Key y26.Value y26.At y26.Kids) a0.Sessions), (Reply.mk (1:Int) (((([] : List ByteArray) ++ a0.Leaves) ++ [y28]).length : Int) y1.1.Value))
            else none
            else none
          else
          ob (spec_l07Put.m N (Branch.mk a0.Map.Key a0.Map.Value a0.Map.At a0.Map.Kids) a1.Key (y1.1.Value ++ a1.Value)) fun y29 =>
          bif (room (([] : List ByteArray).length + a0.Leaves.length) 16) then
          ob (spec_l02Bytes.m N a1) fun y30 =>
          ob (spec_l06Leaf.m N (strOf y30)) fun y31 =>
          bif (room ((([] : List ByteArray) ++ a0.Leaves).length + ([y31]).length) 16) then
          some ((Ledger.mk ((([] : List ByteArray) ++ a0.Leaves) ++ [y31]) (Branch.mk y29.Key y29.Value y29.At y29.Kids) a0.Sessions), (Reply.mk (1:Int) (((([] : List ByteArray) ++ a0.Leaves) ++ [y31]).length : Int) (y1.1.Value ++ a1.Value)))
          else none
          else none
        else
        bif (bif false then true else false) then
          some ((Ledger.mk a0.Leaves (Branch.mk a0.Map.Key a0.Map.Value a0.Map.At a0.Map.Kids) a0.Sessions), (Reply.mk (6:Int) (0:Int) ByteArray.empty))
        else
        bif (a1.Kind == (3:Int)) then
          ob (spec_l07Hash.m N a1.Key) fun y32 =>
          ob (spec_l07Drop.m N (Branch.mk a0.Map.Key a0.Map.Value a0.Map.At a0.Map.Kids) y32 a1.Key) fun y33 =>
          bif (room (([] : List ByteArray).length + a0.Leaves.length) 16) then
          ob (spec_l02Bytes.m N a1) fun y34 =>
          ob (spec_l06Leaf.m N (strOf y34)) fun y35 =>
          bif (room ((([] : List ByteArray) ++ a0.Leaves).length + ([y35]).length) 16) then
          some ((Ledger.mk ((([] : List ByteArray) ++ a0.Leaves) ++ [y35]) (Branch.mk y33.Key y33.Value y33.At y33.Kids) a0.Sessions), (Reply.mk (1:Int) (((([] : List ByteArray) ++ a0.Leaves) ++ [y35]).length : Int) y1.1.Value))
          else none
          else none
        else
        ob (spec_l07Put.m N (Branch.mk a0.Map.Key a0.Map.Value a0.Map.At a0.Map.Kids) a1.Key (y1.1.Value ++ a1.Value)) fun y36 =>
        bif (room (([] : List ByteArray).length + a0.Leaves.length) 16) then
        ob (spec_l02Bytes.m N a1) fun y37 =>
        ob (spec_l06Leaf.m N (strOf y37)) fun y38 =>
        bif (room ((([] : List ByteArray) ++ a0.Leaves).length + ([y38]).length) 16) then
        some ((Ledger.mk ((([] : List ByteArray) ++ a0.Leaves) ++ [y38]) (Branch.mk y36.Key y36.Value y36.At y36.Kids) a0.Sessions), (Reply.mk (1:Int) (((([] : List ByteArray) ++ a0.Leaves) ++ [y38]).length : Int) (y1.1.Value ++ a1.Value)))
        else none
        else none
      else
      bif (bif false then true else false) then
        some ((Ledger.mk a0.Leaves (Branch.mk a0.Map.Key a0.Map.Value a0.Map.At a0.Map.Kids) a0.Sessions), (Reply.mk (6:Int) (0:Int) ByteArray.empty))
      else
      bif (a1.Kind == (3:Int)) then
        ob (spec_l07Hash.m N a1.Key) fun y39 =>
        ob (spec_l07Drop.m N (Branch.mk a0.Map.Key a0.Map.Value a0.Map.At a0.Map.Kids) y39 a1.Key) fun y40 =>
        bif (room (([] : List ByteArray).length + a0.Leaves.length) 16) then
        ob (spec_l02Bytes.m N a1) fun y41 =>
        ob (spec_l06Leaf.m N (strOf y41)) fun y42 =>
        bif (room ((([] : List ByteArray) ++ a0.Leaves).length + ([y42]).length) 16) then
        some ((Ledger.mk ((([] : List ByteArray) ++ a0.Leaves) ++ [y42]) (Branch.mk y40.Key y40.Value y40.At y40.Kids) a0.Sessions), (Reply.mk (1:Int) (((([] : List ByteArray) ++ a0.Leaves) ++ [y42]).length : Int) y1.1.Value))
        else none
        else none
      else
      ob (spec_l07Put.m N (Branch.mk a0.Map.Key a0.Map.Value a0.Map.At a0.Map.Kids) a1.Key (y1.1.Value ++ a1.Value)) fun y43 =>
      bif (room (([] : List ByteArray).length + a0.Leaves.length) 16) then
      ob (spec_l02Bytes.m N a1) fun y44 =>
      ob (spec_l06Leaf.m N (strOf y44)) fun y45 =>
      bif (room ((([] : List ByteArray) ++ a0.Leaves).length + ([y45]).length) 16) then
      some ((Ledger.mk ((([] : List ByteArray) ++ a0.Leaves) ++ [y45]) (Branch.mk y43.Key y43.Value y43.At y43.Kids) a0.Sessions), (Reply.mk (1:Int) (((([] : List ByteArray) ++ a0.Leaves) ++ [y45]).length : Int) (y1.1.Value ++ a1.Value)))
      else none
      else none
      else none
    else
    bif (a1.Kind == (3:Int)) then
      bif (bif true then (!y1.2) else false) then
        some ((Ledger.mk a0.Leaves (Branch.mk a0.Map.Key a0.Map.Value a0.Map.At a0.Map.Kids) a0.Sessions), (Reply.mk (2:Int) (0:Int) ByteArray.empty))
      else
      bif ((a0.Leaves.length : Int) == (50:Int)) then
        some ((Ledger.mk a0.Leaves (Branch.mk a0.Map.Key a0.Map.Value a0.Map.At a0.Map.Kids) a0.Sessions), (Reply.mk (6:Int) (0:Int) ByteArray.empty))
      else
      bif (bif false then true else (decide ((a1.Value.size : Int) > (60:Int)))) then
        some ((Ledger.mk a0.Leaves (Branch.mk a0.Map.Key a0.Map.Value a0.Map.At a0.Map.Kids) a0.Sessions), (Reply.mk (6:Int) (0:Int) ByteArray.empty))
      else
      bif (a1.Kind != (3:Int)) then
        bif (bif true then (!y1.2) else false) then
          ob (spec_l07Size.m N (Branch.mk a0.Map.Key a0.Map.Value a0.Map.At a0.Map.Kids)) fun y46 =>
          bif (bif false then true else (bif true then (y46 == (40:Int)) else false)) then
            some ((Ledger.mk a0.Leaves (Branch.mk a0.Map.Key a0.Map.Value a0.Map.At a0.Map.Kids) a0.Sessions), (Reply.mk (6:Int) (0:Int) ByteArray.empty))
          else
          bif (a1.Kind == (3:Int)) then
            ob (spec_l07Hash.m N a1.Key) fun y47 =>
            ob (spec_l07Drop.m N (Branch.mk a0.Map.Key a0.Map.Value a0.Map.At a0.Map.Kids) y47 a1.Key) fun y48 =>
            bif (room (([] : List ByteArray).length + a0.Leaves.length) 16) then
            ob (spec_l02Bytes.m N a1) fun y49 =>
            ob (spec_l06Leaf.m N (strOf y49)) fun y50 =>
            bif (room ((([] : List ByteArray) ++ a0.Leaves).length + ([y50]).length) 16) then
            some ((Ledger.mk ((([] : List ByteArray) ++ a0.Leaves) ++ [y50]) (Branch.mk y48.Key y48.Value y48.At y48.Kids) a0.Sessions), (Reply.mk (1:Int) (((([] : List ByteArray) ++ a0.Leaves) ++ [y50]).length : Int) y1.1.Value))
            else none
            else none
          else
          ob (spec_l07Put.m N (Branch.mk a0.Map.Key a0.Map.Value a0.Map.At a0.Map.Kids) a1.Key a1.Value) fun y51 =>
          bif (room (([] : List ByteArray).length + a0.Leaves.length) 16) then
          ob (spec_l02Bytes.m N a1) fun y52 =>
          ob (spec_l06Leaf.m N (strOf y52)) fun y53 =>
          bif (room ((([] : List ByteArray) ++ a0.Leaves).length + ([y53]).length) 16) then
          some ((Ledger.mk ((([] : List ByteArray) ++ a0.Leaves) ++ [y53]) (Branch.mk y51.Key y51.Value y51.At y51.Kids) a0.Sessions), (Reply.mk (1:Int) (((([] : List ByteArray) ++ a0.Leaves) ++ [y53]).length : Int) a1.Value))
          else none
          else none
        else
        bif (bif false then true else false) then
          some ((Ledger.mk a0.Leaves (Branch.mk a0.Map.Key a0.Map.Value a0.Map.At a0.Map.Kids) a0.Sessions), (Reply.mk (6:Int) (0:Int) ByteArray.empty))
        else
        bif (a1.Kind == (3:Int)) then
          ob (spec_l07Hash.m N a1.Key) fun y54 =>
          ob (spec_l07Drop.m N (Branch.mk a0.Map.Key a0.Map.Value a0.Map.At a0.Map.Kids) y54 a1.Key) fun y55 =>
          bif (room (([] : List ByteArray).length + a0.Leaves.length) 16) then
          ob (spec_l02Bytes.m N a1) fun y56 =>
          ob (spec_l06Leaf.m N (strOf y56)) fun y57 =>
          bif (room ((([] : List ByteArray) ++ a0.Leaves).length + ([y57]).length) 16) then
          some ((Ledger.mk ((([] : List ByteArray) ++ a0.Leaves) ++ [y57]) (Branch.mk y55.Key y55.Value y55.At y55.Kids) a0.Sessions), (Reply.mk (1:Int) (((([] : List ByteArray) ++ a0.Leaves) ++ [y57]).length : Int) y1.1.Value))
          else none
          else none
        else
        ob (spec_l07Put.m N (Branch.mk a0.Map.Key a0.Map.Value a0.Map.At a0.Map.Kids) a1.Key a1.Value) fun y58 =>
        bif (room (([] : List ByteArray).length + a0.Leaves.length) 16) then
        ob (spec_l02Bytes.m N a1) fun y59 =>
        ob (spec_l06Leaf.m N (strOf y59)) fun y60 =>
        bif (room ((([] : List ByteArray) ++ a0.Leaves).length + ([y60]).length) 16) then
        some ((Ledger.mk ((([] : List ByteArray) ++ a0.Leaves) ++ [y60]) (Branch.mk y58.Key y58.Value y58.At y58.Kids) a0.Sessions), (Reply.mk (1:Int) (((([] : List ByteArray) ++ a0.Leaves) ++ [y60]).length : Int) a1.Value))
        else none
        else none
      else
      bif (bif false then true else false) then
        some ((Ledger.mk a0.Leaves (Branch.mk a0.Map.Key a0.Map.Value a0.Map.At a0.Map.Kids) a0.Sessions), (Reply.mk (6:Int) (0:Int) ByteArray.empty))
      else
      bif (a1.Kind == (3:Int)) then
        ob (spec_l07Hash.m N a1.Key) fun y61 =>
        ob (spec_l07Drop.m N (Branch.mk a0.Map.Key a0.Map.Value a0.Map.At a0.Map.Kids) y61 a1.Key) fun y62 =>
        bif (room (([] : List ByteArray).length + a0.Leaves.length) 16) then
        ob (spec_l02Bytes.m N a1) fun y63 =>
        ob (spec_l06Leaf.m N (strOf y63)) fun y64 =>
        bif (room ((([] : List ByteArray) ++ a0.Leaves).length + ([y64]).length) 16) then
        some ((Ledger.mk ((([] : List ByteArray) ++ a0.Leaves) ++ [y64]) (Branch.mk y62.Key y62.Value y62.At y62.Kids) a0.Sessions), (Reply.mk (1:Int) (((([] : List ByteArray) ++ a0.Leaves) ++ [y64]).length : Int) y1.1.Value))
        else none
        else none
      else
      ob (spec_l07Put.m N (Branch.mk a0.Map.Key a0.Map.Value a0.Map.At a0.Map.Kids) a1.Key a1.Value) fun y65 =>
      bif (room (([] : List ByteArray).length + a0.Leaves.length) 16) then
      ob (spec_l02Bytes.m N a1) fun y66 =>
      ob (spec_l06Leaf.m N (strOf y66)) fun y67 =>
      bif (room ((([] : List ByteArray) ++ a0.Leaves).length + ([y67]).length) 16) then
      some ((Ledger.mk ((([] : List ByteArray) ++ a0.Leaves) ++ [y67]) (Branch.mk y65.Key y65.Value y65.At y65.Kids) a0.Sessions), (Reply.mk (1:Int) (((([] : List ByteArray) ++ a0.Leaves) ++ [y67]).length : Int) a1.Value))
      else none
      else none
    else
    bif ((a0.Leaves.length : Int) == (50:Int)) then
      some ((Ledger.mk a0.Leaves (Branch.mk a0.Map.Key a0.Map.Value a0.Map.At a0.Map.Kids) a0.Sessions), (Reply.mk (6:Int) (0:Int) ByteArray.empty))
    else
    bif (bif false then true else (decide ((a1.Value.size : Int) > (60:Int)))) then
      some ((Ledger.mk a0.Leaves (Branch.mk a0.Map.Key a0.Map.Value a0.Map.At a0.Map.Kids) a0.Sessions), (Reply.mk (6:Int) (0:Int) ByteArray.empty))
    else
    bif (a1.Kind != (3:Int)) then
      bif (bif true then (!y1.2) else false) then
        ob (spec_l07Size.m N (Branch.mk a0.Map.Key a0.Map.Value a0.Map.At a0.Map.Kids)) fun y68 =>
        bif (bif false then true else (bif true then (y68 == (40:Int)) else false)) then
          some ((Ledger.mk a0.Leaves (Branch.mk a0.Map.Key a0.Map.Value a0.Map.At a0.Map.Kids) a0.Sessions), (Reply.mk (6:Int) (0:Int) ByteArray.empty))
        else
        bif (a1.Kind == (3:Int)) then
          ob (spec_l07Hash.m N a1.Key) fun y69 =>
          ob (spec_l07Drop.m N (Branch.mk a0.Map.Key a0.Map.Value a0.Map.At a0.Map.Kids) y69 a1.Key) fun y70 =>
          bif (room (([] : List ByteArray).length + a0.Leaves.length) 16) then
          ob (spec_l02Bytes.m N a1) fun y71 =>
          ob (spec_l06Leaf.m N (strOf y71)) fun y72 =>
          bif (room ((([] : List ByteArray) ++ a0.Leaves).length + ([y72]).length) 16) then
          some ((Ledger.mk ((([] : List ByteArray) ++ a0.Leaves) ++ [y72]) (Branch.mk y70.Key y70.Value y70.At y70.Kids) a0.Sessions), (Reply.mk (1:Int) (((([] : List ByteArray) ++ a0.Leaves) ++ [y72]).length : Int) y1.1.Value))
          else none
          else none
        else
        ob (spec_l07Put.m N (Branch.mk a0.Map.Key a0.Map.Value a0.Map.At a0.Map.Kids) a1.Key a1.Value) fun y73 =>
        bif (room (([] : List ByteArray).length + a0.Leaves.length) 16) then
        ob (spec_l02Bytes.m N a1) fun y74 =>
        ob (spec_l06Leaf.m N (strOf y74)) fun y75 =>
        bif (room ((([] : List ByteArray) ++ a0.Leaves).length + ([y75]).length) 16) then
        some ((Ledger.mk ((([] : List ByteArray) ++ a0.Leaves) ++ [y75]) (Branch.mk y73.Key y73.Value y73.At y73.Kids) a0.Sessions), (Reply.mk (1:Int) (((([] : List ByteArray) ++ a0.Leaves) ++ [y75]).length : Int) a1.Value))
        else none
        else none
      else
      bif (bif false then true else false) then
        some ((Ledger.mk a0.Leaves (Branch.mk a0.Map.Key a0.Map.Value a0.Map.At a0.Map.Kids) a0.Sessions), (Reply.mk (6:Int) (0:Int) ByteArray.empty))
      else
      bif (a1.Kind == (3:Int)) then
        ob (spec_l07Hash.m N a1.Key) fun y76 =>
        ob (spec_l07Drop.m N (Branch.mk a0.Map.Key a0.Map.Value a0.Map.At a0.Map.Kids) y76 a1.Key) fun y77 =>
        bif (room (([] : List ByteArray).length + a0.Leaves.length) 16) then
        ob (spec_l02Bytes.m N a1) fun y78 =>
        ob (spec_l06Leaf.m N (strOf y78)) fun y79 =>
        bif (room ((([] : List ByteArray) ++ a0.Leaves).length + ([y79]).length) 16) then
        some ((Ledger.mk ((([] : List ByteArray) ++ a0.Leaves) ++ [y79]) (Branch.mk y77.Key y77.Value y77.At y77.Kids) a0.Sessions), (Reply.mk (1:Int) (((([] : List ByteArray) ++ a0.Leaves) ++ [y79]).length : Int) y1.1.Value))
        else none
        else none
      else
      ob (spec_l07Put.m N (Branch.mk a0.Map.Key a0.Map.Value a0.Map.At a0.Map.Kids) a1.Key a1.Value) fun y80 =>
      bif (room (([] : List ByteArray).length + a0.Leaves.length) 16) then
      ob (spec_l02Bytes.m N a1) fun y81 =>
      ob (spec_l06Leaf.m N (strOf y81)) fun y82 =>
      bif (room ((([] : List ByteArray) ++ a0.Leaves).length + ([y82]).length) 16) then
      some ((Ledger.mk ((([] : List ByteArray) ++ a0.Leaves) ++ [y82]) (Branch.mk y80.Key y80.Value y80.At y80.Kids) a0.Sessions), (Reply.mk (1:Int) (((([] : List ByteArray) ++ a0.Leaves) ++ [y82]).length : Int) a1.Value))
      else none
      else none
    else
    bif (bif false then true else false) then
      some ((Ledger.mk a0.Leaves (Branch.mk a0.Map.Key a0.Map.Value a0.Map.At a0.Map.Kids) a0.Sessions), (Reply.mk (6:Int) (0:Int) ByteArray.empty))
    else
    bif (a1.Kind == (3:Int)) then
      ob (spec_l07Hash.m N a1.Key) fun y83 =>
      ob (spec_l07Drop.m N (Branch.mk a0.Map.Key a0.Map.Value a0.Map.At a0.Map.Kids) y83 a1.Key) fun y84 =>
      bif (room (([] : List ByteArray).length + a0.Leaves.length) 16) then
      ob (spec_l02Bytes.m N a1) fun y85 =>
      ob (spec_l06Leaf.m N (strOf y85)) fun y86 =>
      bif (room ((([] : List ByteArray) ++ a0.Leaves).length + ([y86]).length) 16) then
      some ((Ledger.mk ((([] : List ByteArray) ++ a0.Leaves) ++ [y86]) (Branch.mk y84.Key y84.Value y84.At y84.Kids) a0.Sessions), (Reply.mk (1:Int) (((([] : List ByteArray) ++ a0.Leaves) ++ [y86]).length : Int) y1.1.Value))
      else none
      else none
    else
    ob (spec_l07Put.m N (Branch.mk a0.Map.Key a0.Map.Value a0.Map.At a0.Map.Kids) a1.Key a1.Value) fun y87 =>
    bif (room (([] : List ByteArray).length + a0.Leaves.length) 16) then
    ob (spec_l02Bytes.m N a1) fun y88 =>
    ob (spec_l06Leaf.m N (strOf y88)) fun y89 =>
    bif (room ((([] : List ByteArray) ++ a0.Leaves).length + ([y89]).length) 16) then
    some ((Ledger.mk ((([] : List ByteArray) ++ a0.Leaves) ++ [y89]) (Branch.mk y87.Key y87.Value y87.At y87.Kids) a0.Sessions), (Reply.mk (1:Int) (((([] : List ByteArray) ++ a0.Leaves) ++ [y89]).length : Int) a1.Value))
    else none
    else none
  else
  bif (a1.Kind == (3:Int)) then
    bif (bif true then (!y1.2) else false) then
      some ((Ledger.mk a0.Leaves (Branch.mk a0.Map.Key a0.Map.Value a0.Map.At a0.Map.Kids) a0.Sessions), (Reply.mk (2:Int) (0:Int) ByteArray.empty))
    else
    bif ((a0.Leaves.length : Int) == (50:Int)) then
      some ((Ledger.mk a0.Leaves (Branch.mk a0.Map.Key a0.Map.Value a0.Map.At a0.Map.Kids) a0.Sessions), (Reply.mk (6:Int) (0:Int) ByteArray.empty))
    else
    bif (bif false then true else (decide ((a1.Value.size : Int) > (60:Int)))) then
      some ((Ledger.mk a0.Leaves (Branch.mk a0.Map.Key a0.Map.Value a0.Map.At a0.Map.Kids) a0.Sessions), (Reply.mk (6:Int) (0:Int) ByteArray.empty))
    else
    bif (a1.Kind != (3:Int)) then
      bif (bif true then (!y1.2) else false) then
        ob (spec_l07Size.m N (Branch.mk a0.Map.Key a0.Map.Value a0.Map.At a0.Map.Kids)) fun y90 =>
        bif (bif false then true else (bif true then (y90 == (40:Int)) else false)) then
          some ((Ledger.mk a0.Leaves (Branch.mk a0.Map.Key a0.Map.Value a0.Map.At a0.Map.Kids) a0.Sessions), (Reply.mk (6:Int) (0:Int) ByteArray.empty))
        else
        bif (a1.Kind == (3:Int)) then
          ob (spec_l07Hash.m N a1.Key) fun y91 =>
          ob (spec_l07Drop.m N (Branch.mk a0.Map.Key a0.Map.Value a0.Map.At a0.Map.Kids) y91 a1.Key) fun y92 =>
          bif (room (([] : List ByteArray).length + a0.Leaves.length) 16) then
          ob (spec_l02Bytes.m N a1) fun y93 =>
          ob (spec_l06Leaf.m N (strOf y93)) fun y94 =>
          bif (room ((([] : List ByteArray) ++ a0.Leaves).length + ([y94]).length) 16) then
          some ((Ledger.mk ((([] : List ByteArray) ++ a0.Leaves) ++ [y94]) (Branch.mk y92.Key y92.Value y92.At y92.Kids) a0.Sessions), (Reply.mk (1:Int) (((([] : List ByteArray) ++ a0.Leaves) ++ [y94]).length : Int) y1.1.Value))
          else none
          else none
        else
        ob (spec_l07Put.m N (Branch.mk a0.Map.Key a0.Map.Value a0.Map.At a0.Map.Kids) a1.Key a1.Value) fun y95 =>
        bif (room (([] : List ByteArray).length + a0.Leaves.length) 16) then
        ob (spec_l02Bytes.m N a1) fun y96 =>
        ob (spec_l06Leaf.m N (strOf y96)) fun y97 =>
        bif (room ((([] : List ByteArray) ++ a0.Leaves).length + ([y97]).length) 16) then
        some ((Ledger.mk ((([] : List ByteArray) ++ a0.Leaves) ++ [y97]) (Branch.mk y95.Key y95.Value y95.At y95.Kids) a0.Sessions), (Reply.mk (1:Int) (((([] : List ByteArray) ++ a0.Leaves) ++ [y97]).length : Int) a1.Value))
        else none
        else none
      else
      bif (bif false then true else false) then
        some ((Ledger.mk a0.Leaves (Branch.mk a0.Map.Key a0.Map.Value a0.Map.At a0.Map.Kids) a0.Sessions), (Reply.mk (6:Int) (0:Int) ByteArray.empty))
      else
      bif (a1.Kind == (3:Int)) then
        ob (spec_l07Hash.m N a1.Key) fun y98 =>
        ob (spec_l07Drop.m N (Branch.mk a0.Map.Key a0.Map.Value a0.Map.At a0.Map.Kids) y98 a1.Key) fun y99 =>
        bif (room (([] : List ByteArray).length + a0.Leaves.length) 16) then
        ob (spec_l02Bytes.m N a1) fun y100 =>
        ob (spec_l06Leaf.m N (strOf y100)) fun y101 =>
        bif (room ((([] : List ByteArray) ++ a0.Leaves).length + ([y101]).length) 16) then
        some ((Ledger.mk ((([] : List ByteArray) ++ a0.Leaves) ++ [y101]) (Branch.mk y99.Key y99.Value y99.At y99.Kids) a0.Sessions), (Reply.mk (1:Int) (((([] : List ByteArray) ++ a0.Leaves) ++ [y101]).length : Int) y1.1.Value))
        else none
        else none
      else
      ob (spec_l07Put.m N (Branch.mk a0.Map.Key a0.Map.Value a0.Map.At a0.Map.Kids) a1.Key a1.Value) fun y102 =>
      bif (room (([] : List ByteArray).length + a0.Leaves.length) 16) then
      ob (spec_l02Bytes.m N a1) fun y103 =>
      ob (spec_l06Leaf.m N (strOf y103)) fun y104 =>
      bif (room ((([] : List ByteArray) ++ a0.Leaves).length + ([y104]).length) 16) then
      some ((Ledger.mk ((([] : List ByteArray) ++ a0.Leaves) ++ [y104]) (Branch.mk y102.Key y102.Value y102.At y102.Kids) a0.Sessions), (Reply.mk (1:Int) (((([] : List ByteArray) ++ a0.Leaves) ++ [y104]).length : Int) a1.Value))
      else none
      else none
    else
    bif (bif false then true else false) then
      some ((Ledger.mk a0.Leaves (Branch.mk a0.Map.Key a0.Map.Value a0.Map.At a0.Map.Kids) a0.Sessions), (Reply.mk (6:Int) (0:Int) ByteArray.empty))
    else
    bif (a1.Kind == (3:Int)) then
      ob (spec_l07Hash.m N a1.Key) fun y105 =>
      ob (spec_l07Drop.m N (Branch.mk a0.Map.Key a0.Map.Value a0.Map.At a0.Map.Kids) y105 a1.Key) fun y106 =>
      bif (room (([] : List ByteArray).length + a0.Leaves.length) 16) then
      ob (spec_l02Bytes.m N a1) fun y107 =>
      ob (spec_l06Leaf.m N (strOf y107)) fun y108 =>
      bif (room ((([] : List ByteArray) ++ a0.Leaves).length + ([y108]).length) 16) then
      some ((Ledger.mk ((([] : List ByteArray) ++ a0.Leaves) ++ [y108]) (Branch.mk y106.Key y106.Value y106.At y106.Kids) a0.Sessions), (Reply.mk (1:Int) (((([] : List ByteArray) ++ a0.Leaves) ++ [y108]).length : Int) y1.1.Value))
      else none
      else none
    else
    ob (spec_l07Put.m N (Branch.mk a0.Map.Key a0.Map.Value a0.Map.At a0.Map.Kids) a1.Key a1.Value) fun y109 =>
    bif (room (([] : List ByteArray).length + a0.Leaves.length) 16) then
    ob (spec_l02Bytes.m N a1) fun y110 =>
    ob (spec_l06Leaf.m N (strOf y110)) fun y111 =>
    bif (room ((([] : List ByteArray) ++ a0.Leaves).length + ([y111]).length) 16) then
    some ((Ledger.mk ((([] : List ByteArray) ++ a0.Leaves) ++ [y111]) (Branch.mk y109.Key y109.Value y109.At y109.Kids) a0.Sessions), (Reply.mk (1:Int) (((([] : List ByteArray) ++ a0.Leaves) ++ [y111]).length : Int) a1.Value))
    else none
    else none
  else
  bif ((a0.Leaves.length : Int) == (50:Int)) then
    some ((Ledger.mk a0.Leaves (Branch.mk a0.Map.Key a0.Map.Value a0.Map.At a0.Map.Kids) a0.Sessions), (Reply.mk (6:Int) (0:Int) ByteArray.empty))
  else
  bif (bif false then true else (decide ((a1.Value.size : Int) > (60:Int)))) then
    some ((Ledger.mk a0.Leaves (Branch.mk a0.Map.Key a0.Map.Value a0.Map.At a0.Map.Kids) a0.Sessions), (Reply.mk (6:Int) (0:Int) ByteArray.empty))
  else
  bif (a1.Kind != (3:Int)) then
    bif (bif true then (!y1.2) else false) then
      ob (spec_l07Size.m N (Branch.mk a0.Map.Key a0.Map.Value a0.Map.At a0.Map.Kids)) fun y112 =>
      bif (bif false then true else (bif true then (y112 == (40:Int)) else false)) then
        some ((Ledger.mk a0.Leaves (Branch.mk a0.Map.Key a0.Map.Value a0.Map.At a0.Map.Kids) a0.Sessions), (Reply.mk (6:Int) (0:Int) ByteArray.empty))
      else
      bif (a1.Kind == (3:Int)) then
        ob (spec_l07Hash.m N a1.Key) fun y113 =>
        ob (spec_l07Drop.m N (Branch.mk a0.Map.Key a0.Map.Value a0.Map.At a0.Map.Kids) y113 a1.Key) fun y114 =>
        bif (room (([] : List ByteArray).length + a0.Leaves.length) 16) then
        ob (spec_l02Bytes.m N a1) fun y115 =>
        ob (spec_l06Leaf.m N (strOf y115)) fun y116 =>
        bif (room ((([] : List ByteArray) ++ a0.Leaves).length + ([y116]).length) 16) then
        some ((Ledger.mk ((([] : List ByteArray) ++ a0.Leaves) ++ [y116]) (Branch.mk y114.Key y114.Value y114.At y114.Kids) a0.Sessions), (Reply.mk (1:Int) (((([] : List ByteArray) ++ a0.Leaves) ++ [y116]).length : Int) y1.1.Value))
        else none
        else none
      else
      ob (spec_l07Put.m N (Branch.mk a0.Map.Key a0.Map.Value a0.Map.At a0.Map.Kids) a1.Key a1.Value) fun y117 =>
      bif (room (([] : List ByteArray).length + a0.Leaves.length) 16) then
      ob (spec_l02Bytes.m N a1) fun y118 =>
      ob (spec_l06Leaf.m N (strOf y118)) fun y119 =>
      bif (room ((([] : List ByteArray) ++ a0.Leaves).length + ([y119]).length) 16) then
      some ((Ledger.mk ((([] : List ByteArray) ++ a0.Leaves) ++ [y119]) (Branch.mk y117.Key y117.Value y117.At y117.Kids) a0.Sessions), (Reply.mk (1:Int) (((([] : List ByteArray) ++ a0.Leaves) ++ [y119]).length : Int) a1.Value))
      else none
      else none
    else
    bif (bif false then true else false) then
      some ((Ledger.mk a0.Leaves (Branch.mk a0.Map.Key a0.Map.Value a0.Map.At a0.Map.Kids) a0.Sessions), (Reply.mk (6:Int) (0:Int) ByteArray.empty))
    else
    bif (a1.Kind == (3:Int)) then
      ob (spec_l07Hash.m N a1.Key) fun y120 =>
      ob (spec_l07Drop.m N (Branch.mk a0.Map.Key a0.Map.Value a0.Map.At a0.Map.Kids) y120 a1.Key) fun y121 =>
      bif (room (([] : List ByteArray).length + a0.Leaves.length) 16) then
      ob (spec_l02Bytes.m N a1) fun y122 =>
      ob (spec_l06Leaf.m N (strOf y122)) fun y123 =>
      bif (room ((([] : List ByteArray) ++ a0.Leaves).length + ([y123]).length) 16) then
      some ((Ledger.mk ((([] : List ByteArray) ++ a0.Leaves) ++ [y123]) (Branch.mk y121.Key y121.Value y121.At y121.Kids) a0.Sessions), (Reply.mk (1:Int) (((([] : List ByteArray) ++ a0.Leaves) ++ [y123]).length : Int) y1.1.Value))
      else none
      else none
    else
    ob (spec_l07Put.m N (Branch.mk a0.Map.Key a0.Map.Value a0.Map.At a0.Map.Kids) a1.Key a1.Value) fun y124 =>
    bif (room (([] : List ByteArray).length + a0.Leaves.length) 16) then
    ob (spec_l02Bytes.m N a1) fun y125 =>
    ob (spec_l06Leaf.m N (strOf y125)) fun y126 =>
    bif (room ((([] : List ByteArray) ++ a0.Leaves).length + ([y126]).length) 16) then
    some ((Ledger.mk ((([] : List ByteArray) ++ a0.Leaves) ++ [y126]) (Branch.mk y124.Key y124.Value y124.At y124.Kids) a0.Sessions), (Reply.mk (1:Int) (((([] : List ByteArray) ++ a0.Leaves) ++ [y126]).length : Int) a1.Value))
    else none
    else none
  else
  bif (bif false then true else false) then
    some ((Ledger.mk a0.Leaves (Branch.mk a0.Map.Key a0.Map.Value a0.Map.At a0.Map.Kids) a0.Sessions), (Reply.mk (6:Int) (0:Int) ByteArray.empty))
  else
  bif (a1.Kind == (3:Int)) then
    ob (spec_l07Hash.m N a1.Key) fun y127 =>
    ob (spec_l07Drop.m N (Branch.mk a0.Map.Key a0.Map.Value a0.Map.At a0.Map.Kids) y127 a1.Key) fun y128 =>
    bif (room (([] : List ByteArray).length + a0.Leaves.length) 16) then
    ob (spec_l02Bytes.m N a1) fun y129 =>
    ob (spec_l06Leaf.m N (strOf y129)) fun y130 =>
    bif (room ((([] : List ByteArray) ++ a0.Leaves).length + ([y130]).length) 16) then
    some ((Ledger.mk ((([] : List ByteArray) ++ a0.Leaves) ++ [y130]) (Branch.mk y128.Key y128.Value y128.At y128.Kids) a0.Sessions), (Reply.mk (1:Int) (((([] : List ByteArray) ++ a0.Leaves) ++ [y130]).length : Int) y1.1.Value))
    else none
    else none
  else
  ob (spec_l07Put.m N (Branch.mk a0.Map.Key a0.Map.Value a0.Map.At a0.Map.Kids) a1.Key a1.Value) fun y131 =>
  bif (room (([] : List ByteArray).length + a0.Leaves.length) 16) then
  ob (spec_l02Bytes.m N a1) fun y132 =>
  ob (spec_l06Leaf.m N (strOf y132)) fun y133 =>
  bif (room ((([] : List ByteArray) ++ a0.Leaves).length + ([y133]).length) 16) then
  some ((Ledger.mk ((([] : List ByteArray) ++ a0.Leaves) ++ [y133]) (Branch.mk y131.Key y131.Value y131.At y131.Kids) a0.Sessions), (Reply.mk (1:Int) (((([] : List ByteArray) ++ a0.Leaves) ++ [y133]).length : Int) a1.Value))
  else none
  else none
@[reducible] noncomputable def sp (N : Nat) : Spec E := ⟨[.val (.st 39), .val (.st 31)], [(.st 39), (.st 27)], false, false, R, fun x => m N x.1 x.2.1, fun r => (r.1, r.2, ()), fun r => ((), (), ()), fun a b => (a.1, a.2.1), fun _ _ => rfl, fun _ _ => rfl⟩
end spec_l09Change
namespace spec_l09Apply
abbrev R := Ledger × Reply
noncomputable def m (N : Nat) (a0 : Ledger) (a1 : Command) : Option R :=
  bif (decide (a1.Kind ≥ (4:Int))) then
    ob (spec_l09Open.m N (Ledger.mk a0.Leaves (Branch.mk a0.Map.Key a0.Map.Value a0.Map.At a0.Map.Kids) a0.Sessions) a1) fun y1 =>
    some ((Ledger.mk y1.1.Leaves (Branch.mk y1.1.Map.Key y1.1.Map.Value y1.1.Map.At y1.1.Map.Kids) y1.1.Sessions), y1.2)
  else
  ob (spec_l09Session.m N a0.Sessions a1.Session) fun y2 =>
  bif (decide (y2 < (0:Int))) then
    some ((Ledger.mk a0.Leaves (Branch.mk a0.Map.Key a0.Map.Value a0.Map.At a0.Map.Kids) a0.Sessions), (Reply.mk (4:Int) (0:Int) ByteArray.empty))
  else
  bif (decide (0 ≤ y2)) then
  bif (decide (y2 < (a0.Sessions.length : Int))) then
  bif (a1.Seq == (a0.Sessions.getD (Int.toNat y2) Session.dz).Seq) then
    bif (decide (0 ≤ y2)) then
    bif (decide (y2 < (a0.Sessions.length : Int))) then
    bif (bif true then (decide ((a0.Sessions.getD (Int.toNat y2) Session.dz).Last.Kind > (0:Int))) else false) then
      bif (decide (0 ≤ y2)) then
      bif (decide (y2 < (a0.Sessions.length : Int))) then
      some ((Ledger.mk a0.Leaves (Branch.mk a0.Map.Key a0.Map.Value a0.Map.At a0.Map.Kids) a0.Sessions), (Reply.mk ((a0.Sessions.getD (Int.toNat y2) Session.dz).Last.Kind) ((a0.Sessions.getD (Int.toNat y2) Session.dz).Last.Place) ((a0.Sessions.getD (Int.toNat y2) Session.dz).Last.Value)))
      else none
      else none
    else
    bif (decide (0 ≤ y2)) then
    bif (decide (y2 < (a0.Sessions.length : Int))) then
    bif (decide (a1.Seq ≤ (a0.Sessions.getD (Int.toNat y2) Session.dz).Seq)) then
      some ((Ledger.mk a0.Leaves (Branch.mk a0.Map.Key a0.Map.Value a0.Map.At a0.Map.Kids) a0.Sessions), (Reply.mk (3:Int) (0:Int) ByteArray.empty))
    else
    ob (spec_l09Change.m N (Ledger.mk a0.Leaves (Branch.mk a0.Map.Key a0.Map.Value a0.Map.At a0.Map.Kids) a0.Sessions) a1) fun y3 =>
    bif (room (([] : List Session).length + a0.Sessions.length) 48) then
    bif (decide (0 ≤ y2)) then
    bif (decide (y2 < ((([] : List Session) ++ a0.Sessions).length : Int))) then
    (let w4 : List Session := ((([] : List Session) ++ a0.Sessions).set (Int.toNat y2) (Session.mk (((([] : List Session) ++ a0.Sessions).getD (Int.toNat y2) Session.dz).Id) a1.Seq (Reply.mk (((([] : List Session) ++ a0.Sessions).getD (Int.toNat y2) Session.dz).Last.Kind) (((([] : List Session) ++ a0.Sessions).getD (Int.toNat y2) Session.dz).Last.Place) (((([] : List Session) ++ a0.Sessions).getD (Int.toNat y2) Session.dz).Last.Value))))
    bif (decide (0 ≤ y2)) then
    bif (decide (y2 < (w4.length : Int))) then
    some ((Ledger.mk y3.1.Leaves (Branch.mk y3.1.Map.Key y3.1.Map.Value y3.1.Map.At y3.1.Map.Kids) (w4.set (Int.toNat y2) (Session.mk ((w4.getD (Int.toNat y2) Session.dz).Id) ((w4.getD (Int.toNat y2) Session.dz).Seq) y3.2))), y3.2)
    else none
    else none)
    else none
    else none
    else none
    else none
    else none
    else none
    else none
  else
  bif (decide (0 ≤ y2)) then
  bif (decide (y2 < (a0.Sessions.length : Int))) then
  bif (decide (a1.Seq ≤ (a0.Sessions.getD (Int.toNat y2) Session.dz).Seq)) then
    some ((Ledger.mk a0.Leaves (Branch.mk a0.Map.Key a0.Map.Value a0.Map.At a0.Map.Kids) a0.Sessions), (Reply.mk (3:Int) (0:Int) ByteArray.empty))
  else
  ob (spec_l09Change.m N (Ledger.mk a0.Leaves (Branch.mk a0.Map.Key a0.Map.Value a0.Map.At a0.Map.Kids) a0.Sessions) a1) fun y5 =>
  bif (room (([] : List Session).length + a0.Sessions.length) 48) then
  bif (decide (0 ≤ y2)) then
  bif (decide (y2 < ((([] : List Session) ++ a0.Sessions).length : Int))) then
  (let w6 : List Session := ((([] : List Session) ++ a0.Sessions).set (Int.toNat y2) (Session.mk (((([] : List Session) ++ a0.Sessions).getD (Int.toNat y2) Session.dz).Id) a1.Seq (Reply.mk (((([] : List Session) ++ a0.Sessions).getD (Int.toNat y2) Session.dz).Last.Kind) (((([] : List Session) ++ a0.Sessions).getD (Int.toNat y2) Session.dz).Last.Place) (((([] : List Session) ++ a0.Sessions).getD (Int.toNat y2) Session.dz).Last.Value))))
  bif (decide (0 ≤ y2)) then
  bif (decide (y2 < (w6.length : Int))) then
  some ((Ledger.mk y5.1.Leaves (Branch.mk y5.1.Map.Key y5.1.Map.Value y5.1.Map.At y5.1.Map.Kids) (w6.set (Int.toNat y2) (Session.mk ((w6.getD (Int.toNat y2) Session.dz).Id) ((w6.getD (Int.toNat y2) Session.dz).Seq) y5.2))), y5.2)
  else none
  else none)
  else none
  else none
  else none
  else none
  else none
  else none
  else none
@[reducible] noncomputable def sp (N : Nat) : Spec E := ⟨[.val (.st 39), .val (.st 31)], [(.st 39), (.st 27)], false, false, R, fun x => m N x.1 x.2.1, fun r => (r.1, r.2, ()), fun r => ((), (), ()), fun a b => (a.1, a.2.1), fun _ _ => rfl, fun _ _ => rfl⟩
end spec_l09Apply
namespace spec_l13Answer
abbrev R := Reply × Int × Bool
inductive A3 where
  | s0 (v1 : Int) (v7 : Int) (v8 : Int) (v9 : ByteArray) (v10 : ByteArray) (v11 : ByteArray) (v12 : Int)
  | s1 (v1 : Int) (v7 : Int) (v8 : Int) (v9 : ByteArray) (v10 : List ByteArray) (v11 : ByteArray) (v12 : ByteArray) (v13 : Int) (v14 : List Branch) (v15 : List Session)
noncomputable def step3 (N : Nat) (a0 : List Command) (a1 : Command) (rec : A3 → Option R) : A3 → Option R
  | .s0 v1 v7 v8 v9 v10 v11 v12 =>
    bif (decide (v1 < (a0.length : Int))) then
      bif (decide (0 ≤ v1)) then
      bif (decide (v1 < (a0.length : Int))) then
      ob (spec_l09Apply.m N (Ledger.mk ([] : List ByteArray) (Branch.mk v10 v11 v12 ([] : List Branch)) ([] : List Session)) (a0.getD (Int.toNat v1) Command.dz)) fun y1 =>
      bif (decide (0 ≤ v1)) then
      bif (decide (v1 < (a0.length : Int))) then
      (let w2 : Bool := (((a0.getD (Int.toNat v1) Command.dz).Kind == a1.Kind) && (((a0.getD (Int.toNat v1) Command.dz).Session == a1.Session) && (((a0.getD (Int.toNat v1) Command.dz).Seq == a1.Seq) && ((seq ((a0.getD (Int.toNat v1) Command.dz).Key) a1.Key) && (seq ((a0.getD (Int.toNat v1) Command.dz).Value) a1.Value)))))
      bif w2 then
        some (y1.2, v1, true)
      else
      rec (.s1 (w64 (v1 + (1:Int))) v7 v8 v9 y1.1.Leaves y1.1.Map.Key y1.1.Map.Value y1.1.Map.At y1.1.Map.Kids y1.1.Sessions))
      else none
      else none
      else none
      else none
    else
    some ((Reply.mk (0:Int) (0:Int) ByteArray.empty), (0:Int), false)
  | .s1 v1 v7 v8 v9 v10 v11 v12 v13 v14 v15 =>
    bif (decide (v1 < (a0.length : Int))) then
      bif (decide (0 ≤ v1)) then
      bif (decide (v1 < (a0.length : Int))) then
      ob (spec_l09Apply.m N (Ledger.mk v10 (Branch.mk v11 v12 v13 v14) v15) (a0.getD (Int.toNat v1) Command.dz)) fun y3 =>
      bif (decide (0 ≤ v1)) then
      bif (decide (v1 < (a0.length : Int))) then
      (let w4 : Bool := (((a0.getD (Int.toNat v1) Command.dz).Kind == a1.Kind) && (((a0.getD (Int.toNat v1) Command.dz).Session == a1.Session) && (((a0.getD (Int.toNat v1) Command.dz).Seq == a1.Seq) && ((seq ((a0.getD (Int.toNat v1) Command.dz).Key) a1.Key) && (seq ((a0.getD (Int.toNat v1) Command.dz).Value) a1.Value)))))
      bif w4 then
        some (y3.2, v1, true)
      else
      rec (.s1 (w64 (v1 + (1:Int))) v7 v8 v9 y3.1.Leaves y3.1.Map.Key y3.1.Map.Value y3.1.Map.At y3.1.Map.Kids y3.1.Sessions))
      else none
      else none
      else none
      else none
    else
    some ((Reply.mk (0:Int) (0:Int) ByteArray.empty), (0:Int), false)
noncomputable def lp3 (N : Nat) (a0 : List Command) (a1 : Command) : A3 → Option R :=
  miter (fun rec => step3 N a0 a1 rec) N
noncomputable def m0 (N : Nat) (a0 : List Command) (a1 : Command) (lp3 : A3 → Option R) : Option R :=
  lp3 (.s0 (0:Int) (0:Int) (0:Int) ByteArray.empty ByteArray.empty ByteArray.empty (0:Int))
@[reducible] noncomputable def m (N : Nat) (a0 : List Command) (a1 : Command) : Option R := m0 N a0 a1 (lp3 N a0 a1)
@[reducible] noncomputable def sp (N : Nat) : Spec E := ⟨[.val (.slice 31 (.st 31)), .val (.st 31)], [(.st 27), (.int .i64), .bool], true, false, R, fun x => m N x.1 x.2.1, fun r => (r.1, r.2.1, r.2.2, ()), fun r => ((), (), ()), fun a b => (a.1, a.2.1, a.2.2.1), fun _ _ => rfl, fun _ _ => rfl⟩
end spec_l13Answer
namespace spec_AnswerIn
abbrev R := Reply × Int × Int
noncomputable def step8 (N : Nat) (a0 : List Command) (a1 : Command) (rec : (Int × Int × Int × ByteArray) → Option R) : (Int × Int × Int × ByteArray) → Option R
  | (v1, v7, v8, v9) =>
    bif (decide (v1 < (a0.length : Int))) then
      bif (decide (0 ≤ v1)) then
      bif (decide (v1 < (a0.length : Int))) then
      ob (spec_CommandOK.m N (a0.getD (Int.toNat v1) Command.dz)) fun y2 =>
      bif (!y2) then
        some ((Reply.mk (0:Int) (0:Int) ByteArray.empty), (0:Int), (1:Int))
      else
      rec ((w64 (v1 + (1:Int))), v7, v8, v9)
      else none
      else none
    else
    ob (spec_l13Answer.m N a0 a1) fun y3 =>
    bif (!y3.2.2) then
      some ((Reply.mk (0:Int) (0:Int) ByteArray.empty), (0:Int), (5:Int))
    else
    some (y3.1, y3.2.1, (0:Int))
noncomputable def lp8 (N : Nat) (a0 : List Command) (a1 : Command) : (Int × Int × Int × ByteArray) → Option R :=
  miter (fun rec => step8 N a0 a1 rec) N
noncomputable def m0 (N : Nat) (a0 : List Command) (a1 : Command) (lp8 : Int × Int × Int × ByteArray → Option R) : Option R :=
  bif (decide ((a0.length : Int) > (4096:Int))) then
    some ((Reply.mk (0:Int) (0:Int) ByteArray.empty), (0:Int), (2:Int))
  else
  bif (decide ((a0.length : Int) > (120:Int))) then
    some ((Reply.mk (0:Int) (0:Int) ByteArray.empty), (0:Int), (6:Int))
  else
  ob (spec_CommandOK.m N a1) fun y1 =>
  bif (!y1) then
    some ((Reply.mk (0:Int) (0:Int) ByteArray.empty), (0:Int), (1:Int))
  else
  lp8 ((0:Int), (0:Int), (0:Int), ByteArray.empty)
@[reducible] noncomputable def m (N : Nat) (a0 : List Command) (a1 : Command) : Option R := m0 N a0 a1 (lp8 N a0 a1)
@[reducible] noncomputable def sp (N : Nat) : Spec E := ⟨[.val (.slice 31 (.st 31)), .val (.st 31)], [(.st 27), (.int .i64), (.int .i64)], true, false, R, fun x => m N x.1 x.2.1, fun r => (r.1, r.2.1, r.2.2, ()), fun r => ((), (), ()), fun a b => (a.1, a.2.1, a.2.2.1), fun _ _ => rfl, fun _ _ => rfl⟩
end spec_AnswerIn
namespace laws_FnAnswers
abbrev R := Bool
noncomputable def m (N : Nat) (a0 : List Int) (a1 : List Int) : Option R :=
  bif (decide ((a0.length : Int) > (1048576:Int))) then
    some true
  else
  bif (bif false then true else (decide ((a1.length : Int) > (1048576:Int)))) then
    some true
  else
  ob (spec_CommandsOf.m N a0) fun y1 =>
  ob (laws_at.m N a1 (0:Int) (y1.length : Int)) fun y2 =>
  bif (decide (0 ≤ y2)) then
  bif (decide (y2 < (y1.length : Int))) then
  ob (impl_AnswerIn.m N y1 (y1.getD (Int.toNat y2) Command.dz)) fun y3 =>
  bif (decide (0 ≤ y2)) then
  bif (decide (y2 < (y1.length : Int))) then
  ob (spec_AnswerIn.m N y1 (y1.getD (Int.toNat y2) Command.dz)) fun y4 =>
  bif (decide (0 ≤ (w64 (y2 + (1:Int))))) then
  bif (decide ((w64 (y2 + (1:Int))) ≤ ((y1.length : Nat) : Int))) then
  bif (decide (0 ≤ y2)) then
  bif (decide (y2 < (y1.length : Int))) then
  bif (decide (0 + ((Int.toNat (w64 (y2 + (1:Int)))) - 0) ≤ y1.length)) then
  ob (impl_AnswerIn.m N ((y1.drop 0).take ((Int.toNat (w64 (y2 + (1:Int)))) - 0)) (y1.getD (Int.toNat y2) Command.dz)) fun y5 =>
  bif (y3.2.2 == (0:Int)) then
    bif (bif true then ((y3.1.Kind == y4.1.Kind) && ((y3.1.Place == y4.1.Place) && (seq y3.1.Value y4.1.Value))) else false) then
      bif (bif true then (y3.2.1 == y4.2.1) else false) then
        bif (bif true then (decide (y3.2.1 ≤ y2)) else false) then
          bif (bif true then (y5.2.2 == (0:Int)) else false) then
            bif (bif true then ((y5.1.Kind == y3.1.Kind) && ((y5.1.Place == y3.1.Place) && (seq y5.1.Value y3.1.Value))) else false) then
              some (bif true then (y5.2.1 == y3.2.1) else false)
            else
            some false
          else
          some false
        else
        some false
      else
      some false
    else
    some false
  else
  some false
  else none
  else none
  else none
  else none
  else none
  else none
  else none
  else none
  else none
@[reducible] noncomputable def sp (N : Nat) : Spec E := ⟨[.val (.slice 5 (.int .u8)), .val (.slice 5 (.int .u8))], [.bool], true, false, R, fun x => m N x.1 x.2.1, fun r => (r, ()), fun r => ((), (), ()), fun a b => a.1, fun _ _ => rfl, fun _ _ => rfl⟩
end laws_FnAnswers
end Mir.Y
