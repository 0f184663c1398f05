/- Models of functions. -/
import Derived.Test.YtigmgeablmomnaaVE
namespace Mir.Y
set_option linter.unusedVariables false
set_option maxRecDepth 10000
open Go Go.Proofs Mir
/-! ### laws_szEntry: loop.example/g00220/laws.szEntry -/
namespace laws_szEntry
abbrev R := Int
noncomputable def m (N : Nat) (a0 : Entry) (a1 : Int) : Option R :=
  bif (decide ((w64 (a1 - (a0.Data.size : Int))) < (0:Int))) then
    some (-1:Int)
  else
  some (w64 (a1 - (a0.Data.size : Int)))
@[reducible] noncomputable def sp (N : Nat) : Spec E := { ps := [.val (.st 138), .val (.int .i64)], rs := [(.int .i64)], own := true, dp := false, R := R, fn := fun x => m N x.1 x.2.1, res := fun r => (r, ()), out := fun r => ((), (), ()), shut := fun a b => a.1, res_shut := fun _ _ => rfl, out_shut := fun _ _ => rfl }
end laws_szEntry
/-! ### laws_szEntryS: loop.example/g00220/laws.szEntryS -/
namespace laws_szEntryS
abbrev R := Int
noncomputable def step5 (N : Nat) (a0 : List Entry) (a1 : Int) (rec : (Int × Int) → Option R) : (Int × Int) → Option R
  | (v1, v2) =>
    bif (decide (v2 < (a0.length : Int))) then
      bif (decide (0 ≤ v2)) then
      bif (decide (v2 < (a0.length : Int))) then
      ob (laws_szEntry.m N (a0.getD (Int.toNat v2) Entry.dz) v1) fun y1 =>
      bif (decide (y1 < (0:Int))) then
        some (-1:Int)
      else
      rec (y1, (w64 (v2 + (1:Int))))
      else none
      else none
    else
    some v1
noncomputable def lp5 (N : Nat) (a0 : List Entry) (a1 : Int) : (Int × Int) → Option R :=
  miter (fun rec => step5 N a0 a1 rec) N
noncomputable def m (N : Nat) (a0 : List Entry) (a1 : Int) : Option R :=
  bif (decide ((w64 (a1 - (a0.length : Int))) < (0:Int))) then
    some (-1:Int)
  else
  lp5 N a0 a1 ((w64 (a1 - (a0.length : Int))), (0:Int))
@[reducible] noncomputable def sp (N : Nat) : Spec E := { ps := [.val (.slice 138 (.st 138)), .val (.int .i64)], rs := [(.int .i64)], own := true, dp := false, R := R, fn := fun x => m N x.1 x.2.1, res := fun r => (r, ()), out := fun r => ((), (), ()), shut := fun a b => a.1, res_shut := fun _ _ => rfl, out_shut := fun _ _ => rfl }
end laws_szEntryS
/-! ### laws_szIntS: loop.example/g00220/laws.szIntS -/
namespace laws_szIntS
abbrev R := Int
noncomputable def m (N : Nat) (a0 : List Int) (a1 : Int) : Option R :=
  bif (decide ((w64 (a1 - (a0.length : Int))) < (0:Int))) then
    some (-1:Int)
  else
  some (w64 (a1 - (a0.length : Int)))
@[reducible] noncomputable def sp (N : Nat) : Spec E := { ps := [.val (.slice 3 (.int .i64)), .val (.int .i64)], rs := [(.int .i64)], own := true, dp := false, R := R, fn := fun x => m N x.1 x.2.1, res := fun r => (r, ()), out := fun r => ((), (), ()), shut := fun a b => a.1, res_shut := fun _ _ => rfl, out_shut := fun _ _ => rfl }
end laws_szIntS
/-! ### laws_szNode: loop.example/g00220/laws.szNode -/
namespace laws_szNode
abbrev R := Int
noncomputable def m (N : Nat) (a0 : Node) (a1 : Int) : Option R :=
  ob (laws_szEntryS.m N a0.Log a1) fun y1 =>
  bif (decide (y1 < (0:Int))) then
    some (-1:Int)
  else
  ob (laws_szIntS.m N a0.Start y1) fun y2 =>
  bif (decide (y2 < (0:Int))) then
    some (-1:Int)
  else
  ob (laws_szIntS.m N a0.Votes y2) fun y3 =>
  bif (decide (y3 < (0:Int))) then
    some (-1:Int)
  else
  ob (laws_szIntS.m N a0.Next y3) fun y4 =>
  bif (decide (y4 < (0:Int))) then
    some (-1:Int)
  else
  ob (laws_szIntS.m N a0.Match y4) fun y5 =>
  bif (decide (y5 < (0:Int))) then
    some (-1:Int)
  else
  some y5
@[reducible] noncomputable def sp (N : Nat) : Spec E := { ps := [.val (.st 36), .val (.int .i64)], rs := [(.int .i64)], own := true, dp := false, R := R, fn := fun x => m N x.1 x.2.1, res := fun r => (r, ()), out := fun r => ((), (), ()), shut := fun a b => a.1, res_shut := fun _ _ => rfl, out_shut := fun _ _ => rfl }
end laws_szNode
/-! ### laws_toEntry: loop.example/g00220/laws.toEntry -/
namespace laws_toEntry
abbrev R := Entry
noncomputable def m (N : Nat) (a0 : Entry) : Option R :=
  some a0
@[reducible] noncomputable def sp (N : Nat) : Spec E := { ps := [.val (.st 138)], rs := [(.st 96)], own := true, dp := false, R := R, fn := fun x => m N x.1, res := fun r => (r, ()), out := fun r => ((), ()), shut := fun a b => a.1, res_shut := fun _ _ => rfl, out_shut := fun _ _ => rfl }
end laws_toEntry
/-! ### laws_toEntryS: loop.example/g00220/laws.toEntryS -/
namespace laws_toEntryS
abbrev R := (List Entry)
noncomputable def step3 (N : Nat) (a0 : List Entry) (rec : (Int × (List Entry)) → Option R) : (Int × (List Entry)) → Option R
  | (v1, v2) =>
    bif (decide (v1 < (a0.length : Int))) then
      bif (decide (0 ≤ v1)) then
      bif (decide (v1 < (a0.length : Int))) then
      ob (laws_toEntry.m N (a0.getD (Int.toNat v1) Entry.dz)) fun y1 =>
      bif (decide (0 ≤ v1)) then
      bif (decide (v1 < (v2.length : Int))) then
      rec ((w64 (v1 + (1:Int))), (v2.set (Int.toNat v1) y1))
      else none
      else none
      else none
      else none
    else
    some v2
noncomputable def lp3 (N : Nat) (a0 : List Entry) : (Int × (List Entry)) → Option R :=
  miter (fun rec => step3 N a0 rec) N
noncomputable def m (N : Nat) (a0 : List Entry) : Option R :=
  bif (decide (0 ≤ (a0.length : Int))) then
  bif (room (Int.toNat (a0.length : Int)) 32) then
  lp3 N a0 ((0:Int), (List.replicate (Int.toNat (a0.length : Int)) (Entry.mk (0:Int) (0:Int) ByteArray.empty)))
  else none
  else none
@[reducible] noncomputable def sp (N : Nat) : Spec E := { ps := [.val (.slice 138 (.st 138))], rs := [(.slice 96 (.st 96))], own := true, dp := false, R := R, fn := fun x => m N x.1, res := fun r => (r, ()), out := fun r => ((), ()), shut := fun a b => a.1, res_shut := fun _ _ => rfl, out_shut := fun _ _ => rfl }
end laws_toEntryS
/-! ### laws_toIntS: loop.example/g00220/laws.toIntS -/
namespace laws_toIntS
abbrev R := (List Int)
noncomputable def step3 (N : Nat) (a0 : List Int) (rec : (Int × (List Int)) → Option R) : (Int × (List Int)) → Option R
  | (v1, v2) =>
    bif (decide (v1 < (a0.length : Int))) then
      bif (decide (0 ≤ v1)) then
      bif (decide (v1 < (a0.length : Int))) then
      bif (decide (0 ≤ v1)) then
      bif (decide (v1 < (v2.length : Int))) then
      rec ((w64 (v1 + (1:Int))), (v2.set (Int.toNat v1) (a0.getD (Int.toNat v1) (0:Int))))
      else none
      else none
      else none
      else none
    else
    some v2
noncomputable def lp3 (N : Nat) (a0 : List Int) : (Int × (List Int)) → Option R :=
  miter (fun rec => step3 N a0 rec) N
noncomputable def m (N : Nat) (a0 : List Int) : Option R :=
  bif (decide (0 ≤ (a0.length : Int))) then
  bif (room (Int.toNat (a0.length : Int)) 8) then
  lp3 N a0 ((0:Int), (List.replicate (Int.toNat (a0.length : Int)) (0:Int)))
  else none
  else none
@[reducible] noncomputable def sp (N : Nat) : Spec E := { ps := [.val (.slice 3 (.int .i64))], rs := [(.slice 3 (.int .i64))], own := true, dp := false, R := R, fn := fun x => m N x.1, res := fun r => (r, ()), out := fun r => ((), ()), shut := fun a b => a.1, res_shut := fun _ _ => rfl, out_shut := fun _ _ => rfl }
end laws_toIntS
/-! ### laws_toNode: loop.example/g00220/laws.toNode -/
namespace laws_toNode
abbrev R := Node
noncomputable def m (N : Nat) (a0 : Node) : Option R :=
  ob (laws_toEntryS.m N a0.Log) fun y1 =>
  ob (laws_toIntS.m N a0.Start) fun y2 =>
  ob (laws_toIntS.m N a0.Votes) fun y3 =>
  ob (laws_toIntS.m N a0.Next) fun y4 =>
  ob (laws_toIntS.m N a0.Match) fun y5 =>
  some (Node.mk a0.Id a0.Term a0.Vote y1 y2 a0.Role y3 y4 y5 a0.Commit a0.Elapsed a0.Wait a0.Up)
@[reducible] noncomputable def sp (N : Nat) : Spec E := { ps := [.val (.st 36)], rs := [(.st 25)], own := true, dp := false, R := R, fn := fun x => m N x.1, res := fun r => (r, ()), out := fun r => ((), ()), shut := fun a b => a.1, res_shut := fun _ _ => rfl, out_shut := fun _ _ => rfl }
end laws_toNode
/-! ### spec_l01In: loop.example/g00220/spec.l01In -/
namespace spec_l01In
abbrev R := Bool
noncomputable def m (N : Nat) (a0 : Int) (a1 : Int) (a2 : Int) : Option R :=
  bif (decide (a0 ≥ a1)) then
    some (bif true then (decide (a0 ≤ a2)) else false)
  else
  some false
@[reducible] noncomputable def sp (N : Nat) : Spec E := { ps := [.val (.int .i64), .val (.int .i64), .val (.int .i64)], rs := [.bool], own := true, dp := false, R := R, fn := fun x => m N x.1 x.2.1 x.2.2.1, res := fun r => (r, ()), out := fun r => ((), (), (), ()), shut := fun a b => a.1, res_shut := fun _ _ => rfl, out_shut := fun _ _ => rfl }
end spec_l01In
/-! ### spec_l02Members: loop.example/g00220/spec.l02Members -/
namespace spec_l02Members
abbrev R := (List Int) × Bool
noncomputable def step3 (N : Nat) (a0 : ByteArray) (rec : (Int × (List Int)) → Option R) : (Int × (List Int)) → Option R
  | (v1, v2) =>
    bif (decide (v1 < (a0.size : Int))) then
      bif (decide (0 ≤ v1)) then
      bif (decide (v1 < (a0.size : Int))) then
      ob (spec_l01In.m N (w64 (sb a0 v1)) (0:Int) (6:Int)) fun y1 =>
      bif (!y1) then
        some (([] : List Int), false)
      else
      bif (decide (v1 > (0:Int))) then
        bif (decide (0 ≤ (w64 (v1 - (1:Int))))) then
        bif (decide ((w64 (v1 - (1:Int))) < (a0.size : Int))) then
        bif (decide (0 ≤ v1)) then
        bif (decide (v1 < (a0.size : Int))) then
        bif (bif false then true else (bif true then (decide ((sb a0 (w64 (v1 - (1:Int)))) ≥ (sb a0 v1))) else false)) then
          some (([] : List Int), false)
        else
        bif (decide (0 ≤ v1)) then
        bif (decide (v1 < (a0.size : Int))) then
        bif (room (v2.length + ([(w64 (sb a0 v1))]).length) 8) then
        rec ((w64 (v1 + (1:Int))), (v2 ++ [(w64 (sb a0 v1))]))
        else none
        else none
        else none
        else none
        else none
        else none
        else none
      else
      bif (bif false then true else false) then
        some (([] : List Int), false)
      else
      bif (decide (0 ≤ v1)) then
      bif (decide (v1 < (a0.size : Int))) then
      bif (room (v2.length + ([(w64 (sb a0 v1))]).length) 8) then
      rec ((w64 (v1 + (1:Int))), (v2 ++ [(w64 (sb a0 v1))]))
      else none
      else none
      else none
      else none
      else none
    else
    some (v2, (decide ((v2.length : Int) > (0:Int))))
noncomputable def lp3 (N : Nat) (a0 : ByteArray) : (Int × (List Int)) → Option R :=
  miter (fun rec => step3 N a0 rec) N
noncomputable def m (N : Nat) (a0 : ByteArray) : Option R :=
  lp3 N a0 ((0:Int), ([] : List Int))
@[reducible] noncomputable def sp (N : Nat) : Spec E := { ps := [.val .str], rs := [(.slice 3 (.int .i64)), .bool], own := true, dp := false, R := R, fn := fun x => m N x.1, res := fun r => (r.1, r.2, ()), out := fun r => ((), ()), shut := fun a b => (a.1, a.2.1), res_shut := fun _ _ => rfl, out_shut := fun _ _ => rfl }
end spec_l02Members
/-! ### spec_l02Entry: loop.example/g00220/spec.l02Entry -/
namespace spec_l02Entry
abbrev R := Bool
noncomputable def m (N : Nat) (a0 : Entry) : Option R :=
  ob (spec_l01In.m N a0.Term (1:Int) (1000000:Int)) fun y1 =>
  bif (!y1) then
    some false
  else
  bif (a0.Kind == (0:Int)) then
    some (seq a0.Data ByteArray.empty)
  else
  bif (a0.Kind == (1:Int)) then
    bif (decide ((a0.Data.size : Int) ≥ (1:Int))) then
      some (bif true then (decide ((a0.Data.size : Int) ≤ (100:Int))) else false)
    else
    some false
  else
  bif (a0.Kind == (2:Int)) then
    ob (spec_l02Members.m N a0.Data) fun y2 =>
    some y2.2
  else
  some false
@[reducible] noncomputable def sp (N : Nat) : Spec E := { ps := [.val (.st 96)], rs := [.bool], own := true, dp := false, R := R, fn := fun x => m N x.1, res := fun r => (r, ()), out := fun r => ((), ()), shut := fun a b => a.1, res_shut := fun _ _ => rfl, out_shut := fun _ _ => rfl }
end spec_l02Entry
/-! ### spec_StateOK: loop.example/g00220/spec.StateOK -/
namespace spec_StateOK
abbrev R := Bool
noncomputable def step4 (N : Nat) (a0 : State) (rec : Int → Option R) : Int → Option R
  | v0 =>
    bif (decide (v0 < (a0.Log.length : Int))) then
      bif (decide (0 ≤ v0)) then
      bif (decide (v0 < (a0.Log.length : Int))) then
      ob (spec_l02Entry.m N (a0.Log.getD (Int.toNat v0) Entry.dz)) fun y3 =>
      bif (!y3) then
        some false
      else
      bif (decide (0 ≤ v0)) then
      bif (decide (v0 < (a0.Log.length : Int))) then
      bif (bif false then true else (decide ((a0.Log.getD (Int.toNat v0) Entry.dz).Term > a0.Term))) then
        some false
      else
      bif (decide (v0 > (0:Int))) then
        bif (decide (0 ≤ (w64 (v0 - (1:Int))))) then
        bif (decide ((w64 (v0 - (1:Int))) < (a0.Log.length : Int))) then
        bif (decide (0 ≤ v0)) then
        bif (decide (v0 < (a0.Log.length : Int))) then
        (let w4 : Bool := (bif true then (decide ((a0.Log.getD (Int.toNat (w64 (v0 - (1:Int)))) Entry.dz).Term > (a0.Log.getD (Int.toNat v0) Entry.dz).Term)) else false)
        bif (bif false then true else w4) then
          some false
        else
        rec (w64 (v0 + (1:Int))))
        else none
        else none
        else none
        else none
      else
      bif (bif false then true else false) then
        some false
      else
      rec (w64 (v0 + (1:Int)))
      else none
      else none
      else none
      else none
    else
    some true
noncomputable def lp4 (N : Nat) (a0 : State) : Int → Option R :=
  miter (fun rec => step4 N a0 rec) N
noncomputable def m (N : Nat) (a0 : State) : Option R :=
  ob (spec_l01In.m N a0.Term (0:Int) (1000000:Int)) fun y1 =>
  bif (!y1) then
    some false
  else
  ob (spec_l01In.m N a0.Vote (-1:Int) (6:Int)) fun y2 =>
  bif (bif false then true else (!y2)) then
    some false
  else
  bif (bif false then true else (decide ((a0.Log.length : Int) > (60:Int)))) then
    some false
  else
  lp4 N a0 (0:Int)
@[reducible] noncomputable def sp (N : Nat) : Spec E := { ps := [.val (.st 86)], rs := [.bool], own := true, dp := false, R := R, fn := fun x => m N x.1, res := fun r => (r, ()), out := fun r => ((), ()), shut := fun a b => a.1, res_shut := fun _ _ => rfl, out_shut := fun _ _ => rfl }
end spec_StateOK
/-! ### spec_l10Ids: loop.example/g00220/spec.l10Ids -/
namespace spec_l10Ids
abbrev R := Bool
noncomputable def step2 (N : Nat) (a0 : List Int) (rec : Int → Option R) : Int → Option R
  | v1 =>
    bif (decide (v1 < (a0.length : Int))) then
      bif (decide (0 ≤ v1)) then
      bif (decide (v1 < (a0.length : Int))) then
      ob (spec_l01In.m N (a0.getD (Int.toNat v1) (0:Int)) (0:Int) (6:Int)) fun y1 =>
      bif (!y1) then
        some false
      else
      bif (decide (v1 > (0:Int))) then
        bif (decide (0 ≤ (w64 (v1 - (1:Int))))) then
        bif (decide ((w64 (v1 - (1:Int))) < (a0.length : Int))) then
        bif (decide (0 ≤ v1)) then
        bif (decide (v1 < (a0.length : Int))) then
        (let w2 : Bool := (bif false then true else (bif true then (decide ((a0.getD (Int.toNat (w64 (v1 - (1:Int)))) (0:Int)) ≥ (a0.getD (Int.toNat v1) (0:Int)))) else false))
        bif w2 then
          some false
        else
        rec (w64 (v1 + (1:Int))))
        else none
        else none
        else none
        else none
      else
      bif (bif false then true else false) then
        some false
      else
      rec (w64 (v1 + (1:Int)))
      else none
      else none
    else
    some true
noncomputable def lp2 (N : Nat) (a0 : List Int) : Int → Option R :=
  miter (fun rec => step2 N a0 rec) N
noncomputable def m (N : Nat) (a0 : List Int) : Option R :=
  lp2 N a0 (0:Int)
@[reducible] noncomputable def sp (N : Nat) : Spec E := { ps := [.val (.slice 3 (.int .i64))], rs := [.bool], own := true, dp := false, R := R, fn := fun x => m N x.1, res := fun r => (r, ()), out := fun r => ((), ()), shut := fun a b => a.1, res_shut := fun _ _ => rfl, out_shut := fun _ _ => rfl }
end spec_l10Ids
/-! ### spec_NodeOK: loop.example/g00220/spec.NodeOK -/
namespace spec_NodeOK
abbrev R := Bool
noncomputable def step6 (N : Nat) (a0 : Node) (rec : Int → Option R) : Int → Option R
  | v0 =>
    bif (decide (v0 < (7:Int))) then
      bif (decide (0 ≤ v0)) then
      bif (decide (v0 < (a0.Next.length : Int))) then
      ob (spec_l01In.m N (a0.Next.getD (Int.toNat v0) (0:Int)) (1:Int) (w64 ((a0.Log.length : Int) + (1:Int)))) fun y9 =>
      bif (!y9) then
        some false
      else
      bif (decide (0 ≤ v0)) then
      bif (decide (v0 < (a0.Match.length : Int))) then
      bif (decide (0 ≤ v0)) then
      bif (decide (v0 < (a0.Next.length : Int))) then
      ob (spec_l01In.m N (a0.Match.getD (Int.toNat v0) (0:Int)) (0:Int) (w64 ((a0.Next.getD (Int.toNat v0) (0:Int)) - (1:Int)))) fun y10 =>
      bif (bif false then true else (!y10)) then
        some false
      else
      rec (w64 (v0 + (1:Int)))
      else none
      else none
      else none
      else none
      else none
      else none
    else
    bif a0.Up then
      some true
    else
    some (bif false then true else (a0.Role == (0:Int)))
noncomputable def lp6 (N : Nat) (a0 : Node) : Int → Option R :=
  miter (fun rec => step6 N a0 rec) N
noncomputable def m (N : Nat) (a0 : Node) : Option R :=
  ob (spec_l01In.m N a0.Id (0:Int) (6:Int)) fun y1 =>
  bif (!y1) then
    some false
  else
  ob (spec_StateOK.m N (State.mk a0.Term a0.Vote a0.Log)) fun y2 =>
  bif (bif false then true else (!y2)) then
    some false
  else
  ob (spec_l10Ids.m N a0.Start) fun y3 =>
  bif (bif false then true else (!y3)) then
    some false
  else
  bif (bif false then true else ((a0.Start.length : Int) == (0:Int))) then
    some false
  else
  ob (spec_l10Ids.m N a0.Votes) fun y4 =>
  bif (bif false then true else (!y4)) then
    some false
  else
  ob (spec_l01In.m N a0.Role (0:Int) (2:Int)) fun y5 =>
  bif (bif false then true else (!y5)) then
    some false
  else
  bif ((a0.Next.length : Int) != (7:Int)) then
    some false
  else
  bif (bif false then true else ((a0.Match.length : Int) != (7:Int))) then
    some false
  else
  ob (spec_l01In.m N a0.Commit (0:Int) (a0.Log.length : Int)) fun y6 =>
  bif (bif false then true else (!y6)) then
    some false
  else
  ob (spec_l01In.m N a0.Elapsed (0:Int) (1000:Int)) fun y7 =>
  bif (bif false then true else (!y7)) then
    some false
  else
  ob (spec_l01In.m N a0.Wait (5:Int) (100:Int)) fun y8 =>
  bif (bif false then true else (!y8)) then
    some false
  else
  lp6 N a0 (0:Int)
@[reducible] noncomputable def sp (N : Nat) : Spec E := { ps := [.val (.st 25)], rs := [.bool], own := true, dp := false, R := R, fn := fun x => m N x.1, res := fun r => (r, ()), out := fun r => ((), ()), shut := fun a b => a.1, res_shut := fun _ _ => rfl, out_shut := fun _ _ => rfl }
end spec_NodeOK
/-! ### spec_l10Members: loop.example/g00220/spec.l10Members -/
namespace spec_l10Members
abbrev R := (List Int)
noncomputable def step2 (N : Nat) (a0 : Node) (rec : Int → Option R) : Int → Option R
  | v0 =>
    bif (decide (v0 ≥ (0:Int))) then
      bif (decide (0 ≤ v0)) then
      bif (decide (v0 < (a0.Log.length : Int))) then
      bif ((a0.Log.getD (Int.toNat v0) Entry.dz).Kind == (2:Int)) then
        bif (decide (0 ≤ v0)) then
        bif (decide (v0 < (a0.Log.length : Int))) then
        ob (spec_l02Members.m N ((a0.Log.getD (Int.toNat v0) Entry.dz).Data)) fun y1 =>
        some y1.1
        else none
        else none
      else
      rec (w64 (v0 - (1:Int)))
      else none
      else none
    else
    some a0.Start
noncomputable def lp2 (N : Nat) (a0 : Node) : Int → Option R :=
  miter (fun rec => step2 N a0 rec) N
noncomputable def m (N : Nat) (a0 : Node) : Option R :=
  lp2 N a0 (w64 ((a0.Log.length : Int) - (1:Int)))
@[reducible] noncomputable def sp (N : Nat) : Spec E := { ps := [.val (.st 25)], rs := [(.slice 3 (.int .i64))], own := false, dp := false, R := R, fn := fun x => m N x.1, res := fun r => (r, ()), out := fun r => ((), ()), shut := fun a b => a.1, res_shut := fun _ _ => rfl, out_shut := fun _ _ => rfl }
end spec_l10Members
/-! ### spec_MembersOf: loop.example/g00220/spec.MembersOf -/
namespace spec_MembersOf
abbrev R := (List Int) × Int
noncomputable def m (N : Nat) (a0 : Node) : Option R :=
  ob (spec_NodeOK.m N a0) fun y1 =>
  bif (!y1) then
    some (([] : List Int), (1:Int))
  else
  ob (spec_l10Members.m N a0) fun y2 =>
  bif (room (([] : List Int).length + y2.length) 8) then
  some ((([] : List Int) ++ y2), (0:Int))
  else none
@[reducible] noncomputable def sp (N : Nat) : Spec E := { ps := [.val (.st 25)], rs := [(.slice 3 (.int .i64)), (.int .i64)], own := true, dp := false, R := R, fn := fun x => m N x.1, res := fun r => (r.1, r.2, ()), out := fun r => ((), ()), shut := fun a b => (a.1, a.2.1), res_shut := fun _ _ => rfl, out_shut := fun _ _ => rfl }
end spec_MembersOf
/-! ### impl_within: loop.example/g00220/impl.within -/
namespace impl_within
abbrev R := Bool
noncomputable def m (N : Nat) (a0 : Int) (a1 : Int) (a2 : Int) : Option R :=
  bif (decide (a0 ≥ a1)) then
    some (bif true then (decide (a0 ≤ a2)) else false)
  else
  some false
@[reducible] noncomputable def sp (N : Nat) : Spec E := { ps := [.val (.int .i64), .val (.int .i64), .val (.int .i64)], rs := [.bool], own := true, dp := false, R := R, fn := fun x => m N x.1 x.2.1 x.2.2.1, res := fun r => (r, ()), out := fun r => ((), (), (), ()), shut := fun a b => a.1, res_shut := fun _ _ => rfl, out_shut := fun _ _ => rfl }
end impl_within
/-! ### impl_isNumber: loop.example/g00220/impl.isNumber -/
namespace impl_isNumber
abbrev R := Bool
noncomputable def m (N : Nat) (a0 : Int) : Option R :=
  ob (impl_within.m N a0 (0:Int) (6:Int)) fun y1 =>
  some y1
@[reducible] noncomputable def sp (N : Nat) : Spec E := { ps := [.val (.int .i64)], rs := [.bool], own := true, dp := false, R := R, fn := fun x => m N x.1, res := fun r => (r, ()), out := fun r => ((), ()), shut := fun a b => a.1, res_shut := fun _ _ => rfl, out_shut := fun _ _ => rfl }
end impl_isNumber
/-! ### impl_areNumbers_1: loop.example/g00220/impl.areNumbers$1 -/
namespace impl_areNumbers_1
abbrev R := Bool
noncomputable def m (N : Nat) (a0 : Int) : Option R :=
  ob (impl_within.m N a0 (0:Int) (6:Int)) fun y1 =>
  some (!y1)
@[reducible] noncomputable def sp (N : Nat) : Spec E := { ps := [.val (.int .i64)], rs := [.bool], own := true, dp := false, R := R, fn := fun x => m N x.1, res := fun r => (r, ()), out := fun r => ((), ()), shut := fun a b => a.1, res_shut := fun _ _ => rfl, out_shut := fun _ _ => rfl }
end impl_areNumbers_1
/-! ### slices_IndexFunc_int_int__impl_areNumbers_1: slices.IndexFunc[[]int,int] -/
namespace slices_IndexFunc_int_int__impl_areNumbers_1
abbrev R := Int
noncomputable def step2 (N : Nat) (a0 : List Int) (rec : (Int × Int) → Option R) : (Int × Int) → Option R
  | (v1, v2) =>
    bif (decide (v2 < v1)) then
      bif (decide (0 ≤ v2)) then
      bif (decide (v2 < (a0.length : Int))) then
      ob (impl_areNumbers_1.m N (a0.getD (Int.toNat v2) (0:Int))) fun y1 =>
      bif y1 then
        some v2
      else
      rec (v1, (w64 (v2 + (1:Int))))
      else none
      else none
    else
    some (-1:Int)
noncomputable def lp2 (N : Nat) (a0 : List Int) : (Int × Int) → Option R :=
  miter (fun rec => step2 N a0 rec) N
noncomputable def m (N : Nat) (a0 : List Int) : Option R :=
  lp2 N a0 ((a0.length : Int), (0:Int))
@[reducible] noncomputable def sp (N : Nat) : Spec E := { ps := [.val (.slice 3 (.int .i64)), .clo 125 []], rs := [(.int .i64)], own := true, dp := false, R := R, fn := fun x => m N x.1, res := fun r => (r, ()), out := fun r => ((), (), ()), shut := fun a b => a.1, res_shut := fun _ _ => rfl, out_shut := fun _ _ => rfl }
end slices_IndexFunc_int_int__impl_areNumbers_1
/-! ### slices_ContainsFunc_int_int__impl_areNumbers_1: slices.ContainsFunc[[]int,int] -/
namespace slices_ContainsFunc_int_int__impl_areNumbers_1
abbrev R := Bool
noncomputable def m (N : Nat) (a0 : List Int) : Option R :=
  ob (slices_IndexFunc_int_int__impl_areNumbers_1.m N a0) fun y1 =>
  some (decide (y1 ≥ (0:Int)))
@[reducible] noncomputable def sp (N : Nat) : Spec E := { ps := [.val (.slice 3 (.int .i64)), .clo 125 []], rs := [.bool], own := true, dp := false, R := R, fn := fun x => m N x.1, res := fun r => (r, ()), out := fun r => ((), (), ()), shut := fun a b => a.1, res_shut := fun _ _ => rfl, out_shut := fun _ _ => rfl }
end slices_ContainsFunc_int_int__impl_areNumbers_1
/-! ### impl_areNumbers: loop.example/g00220/impl.areNumbers -/
namespace impl_areNumbers
abbrev R := Bool
noncomputable def m (N : Nat) (a0 : List Int) : Option R :=
  ob (slices_ContainsFunc_int_int__impl_areNumbers_1.m N a0) fun y1 =>
  some (!y1)
@[reducible] noncomputable def sp (N : Nat) : Spec E := { ps := [.val (.slice 3 (.int .i64))], rs := [.bool], own := true, dp := false, R := R, fn := fun x => m N x.1, res := fun r => (r, ()), out := fun r => ((), ()), shut := fun a b => a.1, res_shut := fun _ _ => rfl, out_shut := fun _ _ => rfl }
end impl_areNumbers
/-! ### impl_areRising: loop.example/g00220/impl.areRising -/
namespace impl_areRising
abbrev R := Bool
noncomputable def step2 (N : Nat) (a0 : List Int) (rec : Int → Option R) : Int → Option R
  | v1 =>
    bif (decide (v1 < (a0.length : Int))) then
      bif (decide (0 ≤ (w64 (v1 - (1:Int))))) then
      bif (decide ((w64 (v1 - (1:Int))) < (a0.length : Int))) then
      bif (decide (0 ≤ v1)) then
      bif (decide (v1 < (a0.length : Int))) then
      bif (decide ((a0.getD (Int.toNat (w64 (v1 - (1:Int)))) (0:Int)) ≥ (a0.getD (Int.toNat v1) (0:Int)))) then
        some false
      else
      rec (w64 (v1 + (1:Int)))
      else none
      else none
      else none
      else none
    else
    some true
noncomputable def lp2 (N : Nat) (a0 : List Int) : Int → Option R :=
  miter (fun rec => step2 N a0 rec) N
noncomputable def m (N : Nat) (a0 : List Int) : Option R :=
  lp2 N a0 (1:Int)
@[reducible] noncomputable def sp (N : Nat) : Spec E := { ps := [.val (.slice 3 (.int .i64))], rs := [.bool], own := true, dp := false, R := R, fn := fun x => m N x.1, res := fun r => (r, ()), out := fun r => ((), ()), shut := fun a b => a.1, res_shut := fun _ _ => rfl, out_shut := fun _ _ => rfl }
end impl_areRising
/-! ### impl_membersOK: loop.example/g00220/impl.membersOK -/
namespace impl_membersOK
abbrev R := Bool
noncomputable def m (N : Nat) (a0 : List Int) : Option R :=
  bif (decide ((a0.length : Int) > (0:Int))) then
    ob (impl_areNumbers.m N a0) fun y1 =>
    bif (bif true then y1 else false) then
      ob (impl_areRising.m N a0) fun y2 =>
      some (bif true then y2 else false)
    else
    some false
  else
  some false
@[reducible] noncomputable def sp (N : Nat) : Spec E := { ps := [.val (.slice 3 (.int .i64))], rs := [.bool], own := true, dp := false, R := R, fn := fun x => m N x.1, res := fun r => (r, ()), out := fun r => ((), ()), shut := fun a b => a.1, res_shut := fun _ _ => rfl, out_shut := fun _ _ => rfl }
end impl_membersOK
/-! ### impl_readMembers: loop.example/g00220/impl.readMembers -/
namespace impl_readMembers
abbrev R := (List Int) × Bool
noncomputable def step3 (N : Nat) (a0 : ByteArray) (rec : (Int × Int × (List Int)) → Option R) : (Int × Int × (List Int)) → Option R
  | (v1, v2, v3) =>
    bif (decide (v2 < v1)) then
      bif (decide (0 ≤ v2)) then
      bif (decide (v2 < (a0.size : Int))) then
      bif (room (v3.length + ([(w64 (sb a0 v2))]).length) 8) then
      rec (v1, (w64 (v2 + (1:Int))), (v3 ++ [(w64 (sb a0 v2))]))
      else none
      else none
      else none
    else
    ob (impl_membersOK.m N v3) fun y1 =>
    some (v3, y1)
noncomputable def lp3 (N : Nat) (a0 : ByteArray) : (Int × Int × (List Int)) → Option R :=
  miter (fun rec => step3 N a0 rec) N
noncomputable def m (N : Nat) (a0 : ByteArray) : Option R :=
  lp3 N a0 ((a0.size : Int), (0:Int), ([] : List Int))
@[reducible] noncomputable def sp (N : Nat) : Spec E := { ps := [.val .str], rs := [(.slice 3 (.int .i64)), .bool], own := true, dp := false, R := R, fn := fun x => m N x.1, res := fun r => (r.1, r.2, ()), out := fun r => ((), ()), shut := fun a b => (a.1, a.2.1), res_shut := fun _ _ => rfl, out_shut := fun _ _ => rfl }
end impl_readMembers
/-! ### impl_entryOK: loop.example/g00220/impl.entryOK -/
namespace impl_entryOK
abbrev R := Bool
noncomputable def m (N : Nat) (a0 : Entry) : Option R :=
  ob (impl_within.m N a0.Term (1:Int) (1000000:Int)) fun y1 =>
  bif (!y1) then
    some false
  else
  bif (a0.Kind == (0:Int)) then
    some (seq a0.Data ByteArray.empty)
  else
  bif (a0.Kind == (1:Int)) then
    ob (impl_within.m N (a0.Data.size : Int) (1:Int) (100:Int)) fun y2 =>
    some y2
  else
  bif (a0.Kind == (2:Int)) then
    ob (impl_readMembers.m N a0.Data) fun y3 =>
    some y3.2
  else
  some false
@[reducible] noncomputable def sp (N : Nat) : Spec E := { ps := [.val (.st 96)], rs := [.bool], own := true, dp := false, R := R, fn := fun x => m N x.1, res := fun r => (r, ()), out := fun r => ((), ()), shut := fun a b => a.1, res_shut := fun _ _ => rfl, out_shut := fun _ _ => rfl }
end impl_entryOK
/-! ### impl_logOK: loop.example/g00220/impl.logOK -/
namespace impl_logOK
abbrev R := Bool
noncomputable def step2 (N : Nat) (a0 : List Entry) (a1 : Int) (rec : (Int × Int) → Option R) : (Int × Int) → Option R
  | (v3, v4) =>
    bif (decide (v4 < v3)) then
      bif (decide (0 ≤ v4)) then
      bif (decide (v4 < (a0.length : Int))) then
      ob (impl_entryOK.m N (a0.getD (Int.toNat v4) Entry.dz)) fun y1 =>
      bif (!y1) then
        some false
      else
      bif (bif false then true else (decide ((a0.getD (Int.toNat v4) Entry.dz).Term > a1))) then
        some false
      else
      bif (decide (v4 > (0:Int))) then
        bif (decide (0 ≤ (w64 (v4 - (1:Int))))) then
        bif (decide ((w64 (v4 - (1:Int))) < (a0.length : Int))) then
        (let w2 : Bool := (bif false then true else (bif true then (decide ((a0.getD (Int.toNat (w64 (v4 - (1:Int)))) Entry.dz).Term > (a0.getD (Int.toNat v4) Entry.dz).Term)) else false))
        bif w2 then
          some false
        else
        rec (v3, (w64 (v4 + (1:Int)))))
        else none
        else none
      else
      bif (bif false then true else false) then
        some false
      else
      rec (v3, (w64 (v4 + (1:Int))))
      else none
      else none
    else
    some (decide ((a0.length : Int) ≤ (60:Int)))
noncomputable def lp2 (N : Nat) (a0 : List Entry) (a1 : Int) : (Int × Int) → Option R :=
  miter (fun rec => step2 N a0 a1 rec) N
noncomputable def m (N : Nat) (a0 : List Entry) (a1 : Int) : Option R :=
  lp2 N a0 a1 ((a0.length : Int), (0:Int))
@[reducible] noncomputable def sp (N : Nat) : Spec E := { ps := [.val (.slice 96 (.st 96)), .val (.int .i64)], rs := [.bool], own := true, dp := false, R := R, fn := fun x => m N x.1 x.2.1, res := fun r => (r, ()), out := fun r => ((), (), ()), shut := fun a b => a.1, res_shut := fun _ _ => rfl, out_shut := fun _ _ => rfl }
end impl_logOK
/-! ### impl_StateOK: loop.example/g00220/impl.StateOK -/
namespace impl_StateOK
abbrev R := Bool
noncomputable def m (N : Nat) (a0 : State) : Option R :=
  ob (impl_within.m N a0.Term (0:Int) (1000000:Int)) fun y1 =>
  bif y1 then
    ob (impl_within.m N a0.Vote (-1:Int) (6:Int)) fun y2 =>
    bif (bif true then y2 else false) then
      ob (impl_logOK.m N a0.Log a0.Term) fun y3 =>
      some (bif true then y3 else false)
    else
    some false
  else
  some false
@[reducible] noncomputable def sp (N : Nat) : Spec E := { ps := [.val (.st 86)], rs := [.bool], own := true, dp := false, R := R, fn := fun x => m N x.1, res := fun r => (r, ()), out := fun r => ((), ()), shut := fun a b => a.1, res_shut := fun _ _ => rfl, out_shut := fun _ _ => rfl }
end impl_StateOK
/-! ### impl_reachOK: loop.example/g00220/impl.reachOK -/
namespace impl_reachOK
abbrev R := Bool
noncomputable def step4 (N : Nat) (a0 : List Int) (a1 : List Int) (a2 : Int) (rec : (Int × Int) → Option R) : (Int × Int) → Option R
  | (v3, v4) =>
    bif (decide (v4 < v3)) then
      bif (decide (0 ≤ v4)) then
      bif (decide (v4 < (a0.length : Int))) then
      ob (impl_within.m N (a0.getD (Int.toNat v4) (0:Int)) (1:Int) (w64 (a2 + (1:Int)))) fun y1 =>
      bif (!y1) then
        some false
      else
      bif (decide (0 ≤ v4)) then
      bif (decide (v4 < (a1.length : Int))) then
      bif (decide (0 ≤ v4)) then
      bif (decide (v4 < (a0.length : Int))) then
      ob (impl_within.m N (a1.getD (Int.toNat v4) (0:Int)) (0:Int) (w64 ((a0.getD (Int.toNat v4) (0:Int)) - (1:Int)))) fun y2 =>
      bif (bif false then true else (!y2)) then
        some false
      else
      rec (v3, (w64 (v4 + (1:Int))))
      else none
      else none
      else none
      else none
      else none
      else none
    else
    some true
noncomputable def lp4 (N : Nat) (a0 : List Int) (a1 : List Int) (a2 : Int) : (Int × Int) → Option R :=
  miter (fun rec => step4 N a0 a1 a2 rec) N
noncomputable def m (N : Nat) (a0 : List Int) (a1 : List Int) (a2 : Int) : Option R :=
  bif ((a0.length : Int) != (7:Int)) then
    some false
  else
  bif (bif false then true else ((a1.length : Int) != (7:Int))) then
    some false
  else
  lp4 N a0 a1 a2 ((a0.length : Int), (0:Int))
@[reducible] noncomputable def sp (N : Nat) : Spec E := { ps := [.val (.slice 3 (.int .i64)), .val (.slice 3 (.int .i64)), .val (.int .i64)], rs := [.bool], own := true, dp := false, R := R, fn := fun x => m N x.1 x.2.1 x.2.2.1, res := fun r => (r, ()), out := fun r => ((), (), (), ()), shut := fun a b => a.1, res_shut := fun _ _ => rfl, out_shut := fun _ _ => rfl }
end impl_reachOK
/-! ### impl_NodeOK: loop.example/g00220/impl.NodeOK -/
namespace impl_NodeOK
abbrev R := Bool
noncomputable def m (N : Nat) (a0 : Node) : Option R :=
  ob (impl_isNumber.m N a0.Id) fun y1 =>
  bif (!y1) then
    some false
  else
  ob (impl_StateOK.m N (State.mk a0.Term a0.Vote a0.Log)) fun y2 =>
  bif (bif false then true else (!y2)) then
    some false
  else
  ob (impl_membersOK.m N a0.Start) fun y3 =>
  bif (bif false then true else (!y3)) then
    some false
  else
  ob (impl_areNumbers.m N a0.Votes) fun y4 =>
  bif (bif false then true else (!y4)) then
    some false
  else
  ob (impl_areRising.m N a0.Votes) fun y5 =>
  bif (bif false then true else (!y5)) then
    some false
  else
  ob (impl_within.m N a0.Role (0:Int) (2:Int)) fun y6 =>
  bif (!y6) then
    some false
  else
  bif (!a0.Up) then
    bif (bif false then true else (bif true then (a0.Role != (0:Int)) else false)) then
      some false
    else
    ob (impl_reachOK.m N a0.Next a0.Match (a0.Log.length : Int)) fun y7 =>
    bif (bif false then true else (!y7)) then
      some false
    else
    ob (impl_within.m N a0.Commit (0:Int) (a0.Log.length : Int)) fun y8 =>
    bif y8 then
      ob (impl_within.m N a0.Elapsed (0:Int) (1000:Int)) fun y9 =>
      bif (bif true then y9 else false) then
        ob (impl_within.m N a0.Wait (5:Int) (100:Int)) fun y10 =>
        some (bif true then y10 else false)
      else
      some false
    else
    some false
  else
  bif (bif false then true else false) then
    some false
  else
  ob (impl_reachOK.m N a0.Next a0.Match (a0.Log.length : Int)) fun y11 =>
  bif (bif false then true else (!y11)) then
    some false
  else
  ob (impl_within.m N a0.Commit (0:Int) (a0.Log.length : Int)) fun y12 =>
  bif y12 then
    ob (impl_within.m N a0.Elapsed (0:Int) (1000:Int)) fun y13 =>
    bif (bif true then y13 else false) then
      ob (impl_within.m N a0.Wait (5:Int) (100:Int)) fun y14 =>
      some (bif true then y14 else false)
    else
    some false
  else
  some false
@[reducible] noncomputable def sp (N : Nat) : Spec E := { ps := [.val (.st 25)], rs := [.bool], own := true, dp := false, R := R, fn := fun x => m N x.1, res := fun r => (r, ()), out := fun r => ((), ()), shut := fun a b => a.1, res_shut := fun _ _ => rfl, out_shut := fun _ _ => rfl }
end impl_NodeOK
/-! ### slices_Clone_int_int: slices.Clone[[]int,int] -/
namespace slices_Clone_int_int
abbrev R := (List Int)
noncomputable def m (N : Nat) (a0 : List Int) : Option R :=
  amb (a0.isEmpty) true
    (some ([] : List Int))
    (bif (room (([] : List Int).length + a0.length) 8) then
    some (([] : List Int) ++ a0)
    else none)
@[reducible] noncomputable def sp (N : Nat) : Spec E := { ps := [.val (.slice 3 (.int .i64))], rs := [(.slice 3 (.int .i64))], own := true, dp := false, R := R, fn := fun x => m N x.1, res := fun r => (r, ()), out := fun r => ((), ()), shut := fun a b => a.1, res_shut := fun _ _ => rfl, out_shut := fun _ _ => rfl }
end slices_Clone_int_int
/-! ### impl_Node_members: (impl.Node).members, by hand -/
namespace impl_Node_members
abbrev R := List Int
noncomputable def m (N : Nat) (a0 : Node) : Option R :=
  bif decide (a0.Log.length ≤ 1048576000) && a0.Log.all (fun e => !(e.Kind == 2) || (impl_readMembers.m N e.Data).isSome) then
    match a0.Log.reverse.find? (fun e => e.Kind == 2) with
    | some e => (impl_readMembers.m N e.Data).map (·.1)
    | none => slices_Clone_int_int.m N a0.Start
  else none
@[reducible] noncomputable def sp (N : Nat) : Spec E := { ps := [.val (.st 25)], rs := [(.slice 3 (.int .i64))], own := true, dp := false, R := R, fn := fun x => m N x.1, res := fun r => (r, ()), out := fun r => ((), ()), shut := fun a b => a.1, res_shut := fun _ _ => rfl, out_shut := fun _ _ => rfl }
end impl_Node_members
/-! ### impl_MembersOf: loop.example/g00220/impl.MembersOf -/
namespace impl_MembersOf
abbrev R := (List Int) × Int
noncomputable def m (N : Nat) (a0 : Node) : Option R :=
  ob (impl_NodeOK.m N (Node.mk a0.Id a0.Term a0.Vote a0.Log a0.Start a0.Role a0.Votes a0.Next a0.Match a0.Commit a0.Elapsed a0.Wait a0.Up)) fun y1 =>
  bif (!y1) then
    some (([] : List Int), (1:Int))
  else
  ob (impl_Node_members.m N (Node.mk a0.Id a0.Term a0.Vote a0.Log a0.Start a0.Role a0.Votes a0.Next a0.Match a0.Commit a0.Elapsed a0.Wait a0.Up)) fun y2 =>
  some (y2, (0:Int))
@[reducible] noncomputable def sp (N : Nat) : Spec E := { ps := [.val (.st 25)], rs := [(.slice 3 (.int .i64)), (.int .i64)], own := true, dp := false, R := R, fn := fun x => m N x.1, res := fun r => (r.1, r.2, ()), out := fun r => ((), ()), shut := fun a b => (a.1, a.2.1), res_shut := fun _ _ => rfl, out_shut := fun _ _ => rfl }
end impl_MembersOf
/-! ### laws_eqIntS: loop.example/g00220/laws.eqIntS -/
namespace laws_eqIntS
abbrev R := Bool
noncomputable def step4 (N : Nat) (a0 : List Int) (a1 : List Int) (rec : Int → Option R) : Int → Option R
  | v2 =>
    bif (decide (v2 < (a0.length : Int))) then
      bif (decide (0 ≤ v2)) then
      bif (decide (v2 < (a0.length : Int))) then
      bif (decide (0 ≤ v2)) then
      bif (decide (v2 < (a1.length : Int))) then
      bif ((a0.getD (Int.toNat v2) (0:Int)) != (a1.getD (Int.toNat v2) (0:Int))) then
        some false
      else
      rec (w64 (v2 + (1:Int)))
      else none
      else none
      else none
      else none
    else
    some true
noncomputable def lp4 (N : Nat) (a0 : List Int) (a1 : List Int) : Int → Option R :=
  miter (fun rec => step4 N a0 a1 rec) N
noncomputable def m (N : Nat) (a0 : List Int) (a1 : List Int) : Option R :=
  bif ((a0.length : Int) != (a1.length : Int)) then
    some false
  else
  lp4 N a0 a1 (0:Int)
@[reducible] noncomputable def sp (N : Nat) : Spec E := { ps := [.val (.slice 3 (.int .i64)), .val (.slice 3 (.int .i64))], rs := [.bool], own := true, dp := false, R := R, fn := fun x => m N x.1 x.2.1, res := fun r => (r, ()), out := fun r => ((), (), ()), shut := fun a b => a.1, res_shut := fun _ _ => rfl, out_shut := fun _ _ => rfl }
end laws_eqIntS
/-! ### laws_eqEntry: loop.example/g00220/laws.eqEntry -/
namespace laws_eqEntry
abbrev R := Bool
noncomputable def m (N : Nat) (a0 : Entry) (a1 : Entry) : Option R :=
  bif (a0.Term != a1.Term) then
    some false
  else
  bif (a0.Kind != a1.Kind) then
    some false
  else
  bif (!seq a0.Data a1.Data) then
    some false
  else
  some true
@[reducible] noncomputable def sp (N : Nat) : Spec E := { ps := [.val (.st 96), .val (.st 96)], rs := [.bool], own := true, dp := false, R := R, fn := fun x => m N x.1 x.2.1, res := fun r => (r, ()), out := fun r => ((), (), ()), shut := fun a b => a.1, res_shut := fun _ _ => rfl, out_shut := fun _ _ => rfl }
end laws_eqEntry
/-! ### laws_eqEntryS: loop.example/g00220/laws.eqEntryS -/
namespace laws_eqEntryS
abbrev R := Bool
noncomputable def step4 (N : Nat) (a0 : List Entry) (a1 : List Entry) (rec : Int → Option R) : Int → Option R
  | v2 =>
    bif (decide (v2 < (a0.length : Int))) then
      bif (decide (0 ≤ v2)) then
      bif (decide (v2 < (a0.length : Int))) then
      bif (decide (0 ≤ v2)) then
      bif (decide (v2 < (a1.length : Int))) then
      ob (laws_eqEntry.m N (a0.getD (Int.toNat v2) Entry.dz) (a1.getD (Int.toNat v2) Entry.dz)) fun y1 =>
      bif (!y1) then
        some false
      else
      rec (w64 (v2 + (1:Int)))
      else none
      else none
      else none
      else none
    else
    some true
noncomputable def lp4 (N : Nat) (a0 : List Entry) (a1 : List Entry) : Int → Option R :=
  miter (fun rec => step4 N a0 a1 rec) N
noncomputable def m (N : Nat) (a0 : List Entry) (a1 : List Entry) : Option R :=
  bif ((a0.length : Int) != (a1.length : Int)) then
    some false
  else
  lp4 N a0 a1 (0:Int)
@[reducible] noncomputable def sp (N : Nat) : Spec E := { ps := [.val (.slice 96 (.st 96)), .val (.slice 96 (.st 96))], rs := [.bool], own := true, dp := false, R := R, fn := fun x => m N x.1 x.2.1, res := fun r => (r, ()), out := fun r => ((), (), ()), shut := fun a b => a.1, res_shut := fun _ _ => rfl, out_shut := fun _ _ => rfl }
end laws_eqEntryS
/-! ### laws_eqNode: loop.example/g00220/laws.eqNode -/
namespace laws_eqNode
abbrev R := Bool
noncomputable def m (N : Nat) (a0 : Node) (a1 : Node) : Option R :=
  bif (a0.Id != a1.Id) then
    some false
  else
  bif (a0.Term != a1.Term) then
    some false
  else
  bif (a0.Vote != a1.Vote) then
    some false
  else
  ob (laws_eqEntryS.m N a0.Log a1.Log) fun y1 =>
  bif (!y1) then
    some false
  else
  ob (laws_eqIntS.m N a0.Start a1.Start) fun y2 =>
  bif (!y2) then
    some false
  else
  bif (a0.Role != a1.Role) then
    some false
  else
  ob (laws_eqIntS.m N a0.Votes a1.Votes) fun y3 =>
  bif (!y3) then
    some false
  else
  ob (laws_eqIntS.m N a0.Next a1.Next) fun y4 =>
  bif (!y4) then
    some false
  else
  ob (laws_eqIntS.m N a0.Match a1.Match) fun y5 =>
  bif (!y5) then
    some false
  else
  bif (a0.Commit != a1.Commit) then
    some false
  else
  bif (a0.Elapsed != a1.Elapsed) then
    some false
  else
  bif (a0.Wait != a1.Wait) then
    some false
  else
  bif (!(a0.Up == a1.Up)) then
    some false
  else
  some true
@[reducible] noncomputable def sp (N : Nat) : Spec E := { ps := [.val (.st 25), .val (.st 25)], rs := [.bool], own := true, dp := false, R := R, fn := fun x => m N x.1 x.2.1, res := fun r => (r, ()), out := fun r => ((), (), ()), shut := fun a b => a.1, res_shut := fun _ _ => rfl, out_shut := fun _ _ => rfl }
end laws_eqNode
/-! ### laws_markText: loop.example/g00220/laws.markText -/
namespace laws_markText
abbrev R := ByteArray
noncomputable def step4 (N : Nat) (a0 : Int) (rec : (Int × ByteArray) → Option R) : (Int × ByteArray) → Option R
  | (v0, v1) =>
    bif (decide (v0 > (0:Int))) then
      bif (!decide ((10:Int) = 0)) then
      bif (decide ((strOf ([(wu8 (w64 ((48:Int) + (Int.tmod v0 (10:Int)))))])).size + v1.size ≤ 9223372036854775807)) then
      bif (!decide ((10:Int) = 0)) then
      rec ((w64 (Int.tdiv v0 (10:Int))), ((strOf ([(wu8 (w64 ((48:Int) + (Int.tmod v0 (10:Int)))))])) ++ v1))
      else none
      else none
      else none
    else
    bif (decide ((⟨#[109]⟩ : ByteArray).size + v1.size ≤ 9223372036854775807)) then
    some ((⟨#[109]⟩ : ByteArray) ++ v1)
    else none
noncomputable def lp4 (N : Nat) (a0 : Int) : (Int × ByteArray) → Option R :=
  miter (fun rec => step4 N a0 rec) N
noncomputable def m (N : Nat) (a0 : Int) : Option R :=
  bif (decide (a0 ≤ (0:Int))) then
    some (⟨#[109, 48]⟩ : ByteArray)
  else
  lp4 N a0 (a0, ByteArray.empty)
@[reducible] noncomputable def sp (N : Nat) : Spec E := { ps := [.val (.int .i64)], rs := [.str], own := true, dp := false, R := R, fn := fun x => m N x.1, res := fun r => (r, ()), out := fun r => ((), ()), shut := fun a b => a.1, res_shut := fun _ _ => rfl, out_shut := fun _ _ => rfl }
end laws_markText
/-! ### laws_markEntryS: loop.example/g00220/laws.markEntryS -/
namespace laws_markEntryS
abbrev R := Int × (List Entry)
noncomputable def step2 (N : Nat) (a0 : List Entry) (a1 : Int) (rec : (Int × Int × (List Entry)) → Option R) : (Int × Int × (List Entry)) → Option R
  | (v0, v1, v2) =>
    bif (decide (v1 < (v2.length : Int))) then
      bif (decide (0 ≤ v1)) then
      bif (decide (v1 < (v2.length : Int))) then
      bif (decide (0 ≤ v1)) then
      bif (decide (v1 < ((v2.set (Int.toNat v1) (Entry.mk v0 ((v2.getD (Int.toNat v1) Entry.dz).Kind) ((v2.getD (Int.toNat v1) Entry.dz).Data))).length : Int))) then
      (let w1 : Entry := ((v2.set (Int.toNat v1) (Entry.mk v0 ((v2.getD (Int.toNat v1) Entry.dz).Kind) ((v2.getD (Int.toNat v1) Entry.dz).Data))).getD (Int.toNat v1) Entry.dz)
      (let w2 : List Entry := ((v2.set (Int.toNat v1) (Entry.mk v0 ((v2.getD (Int.toNat v1) Entry.dz).Kind) ((v2.getD (Int.toNat v1) Entry.dz).Data))).set (Int.toNat v1) (Entry.mk w1.Term (w64 (v0 + (1:Int))) w1.Data))
      ob (laws_markText.m N (w64 ((w64 (v0 + (1:Int))) + (1:Int)))) fun y3 =>
      bif (decide (0 ≤ v1)) then
      bif (decide (v1 < (w2.length : Int))) then
      rec ((w64 ((w64 ((w64 (v0 + (1:Int))) + (1:Int))) + (1:Int))), (w64 (v1 + (1:Int))), (w2.set (Int.toNat v1) (Entry.mk ((w2.getD (Int.toNat v1) Entry.dz).Term) ((w2.getD (Int.toNat v1) Entry.dz).Kind) y3)))
      else none
      else none))
      else none
      else none
      else none
      else none
    else
    some (v0, v2)
noncomputable def lp2 (N : Nat) (a0 : List Entry) (a1 : Int) : (Int × Int × (List Entry)) → Option R :=
  miter (fun rec => step2 N a0 a1 rec) N
noncomputable def m (N : Nat) (a0 : List Entry) (a1 : Int) : Option R :=
  lp2 N a0 a1 (a1, (0:Int), a0)
@[reducible] noncomputable def sp (N : Nat) : Spec E := { ps := [.mut false (.slice 96 (.st 96)), .val (.int .i64)], rs := [(.int .i64)], own := true, dp := false, R := R, fn := fun x => m N x.1 x.2.1, res := fun r => (r.1, ()), out := fun r => (r.2, (), ()), shut := fun a b => (a.1, b.1), res_shut := fun _ _ => rfl, out_shut := fun _ _ => rfl }
end laws_markEntryS
/-! ### laws_markIntS: loop.example/g00220/laws.markIntS -/
namespace laws_markIntS
abbrev R := Int × (List Int)
noncomputable def step2 (N : Nat) (a0 : List Int) (a1 : Int) (rec : (Int × Int × (List Int)) → Option R) : (Int × Int × (List Int)) → Option R
  | (v0, v1, v2) =>
    bif (decide (v1 < (v2.length : Int))) then
      bif (decide (0 ≤ v1)) then
      bif (decide (v1 < (v2.length : Int))) then
      rec ((w64 (v0 + (1:Int))), (w64 (v1 + (1:Int))), (v2.set (Int.toNat v1) v0))
      else none
      else none
    else
    some (v0, v2)
noncomputable def lp2 (N : Nat) (a0 : List Int) (a1 : Int) : (Int × Int × (List Int)) → Option R :=
  miter (fun rec => step2 N a0 a1 rec) N
noncomputable def m (N : Nat) (a0 : List Int) (a1 : Int) : Option R :=
  lp2 N a0 a1 (a1, (0:Int), a0)
@[reducible] noncomputable def sp (N : Nat) : Spec E := { ps := [.mut false (.slice 3 (.int .i64)), .val (.int .i64)], rs := [(.int .i64)], own := true, dp := false, R := R, fn := fun x => m N x.1 x.2.1, res := fun r => (r.1, ()), out := fun r => (r.2, (), ()), shut := fun a b => (a.1, b.1), res_shut := fun _ _ => rfl, out_shut := fun _ _ => rfl }
end laws_markIntS
/-! ### laws_markNode: loop.example/g00220/laws.markNode -/
namespace laws_markNode
abbrev R := Int × Node
noncomputable def m (N : Nat) (a0 : Node) (a1 : Int) : Option R :=
  ob (laws_markEntryS.m N a0.Log a1) fun y1 =>
  ob (laws_markIntS.m N a0.Start y1.1) fun y2 =>
  ob (laws_markIntS.m N a0.Votes y2.1) fun y3 =>
  ob (laws_markIntS.m N a0.Next y3.1) fun y4 =>
  ob (laws_markIntS.m N a0.Match y4.1) fun y5 =>
  some (y5.1, (Node.mk a0.Id a0.Term a0.Vote y1.2 y2.2 a0.Role y3.2 y4.2 y5.2 a0.Commit a0.Elapsed a0.Wait a0.Up))
@[reducible] noncomputable def sp (N : Nat) : Spec E := { ps := [.mut false (.st 25), .val (.int .i64)], rs := [(.int .i64)], own := true, dp := false, R := R, fn := fun x => m N x.1 x.2.1, res := fun r => (r.1, ()), out := fun r => (r.2, (), ()), shut := fun a b => (a.1, b.1), res_shut := fun _ _ => rfl, out_shut := fun _ _ => rfl }
end laws_markNode
/-! ### laws_heldIntS: loop.example/g00220/laws.heldIntS -/
namespace laws_heldIntS
abbrev R := Int
noncomputable def step2 (N : Nat) (a0 : List Int) (a1 : Int) (rec : (Int × Int) → Option R) : (Int × Int) → Option R
  | (v1, v2) =>
    bif (decide (v2 < (a0.length : Int))) then
      bif (decide (0 ≤ v2)) then
      bif (decide (v2 < (a0.length : Int))) then
      bif ((a0.getD (Int.toNat v2) (0:Int)) != v1) then
        some (-1:Int)
      else
      rec ((w64 (v1 + (1:Int))), (w64 (v2 + (1:Int))))
      else none
      else none
    else
    some v1
noncomputable def lp2 (N : Nat) (a0 : List Int) (a1 : Int) : (Int × Int) → Option R :=
  miter (fun rec => step2 N a0 a1 rec) N
noncomputable def m (N : Nat) (a0 : List Int) (a1 : Int) : Option R :=
  lp2 N a0 a1 (a1, (0:Int))
@[reducible] noncomputable def sp (N : Nat) : Spec E := { ps := [.val (.slice 3 (.int .i64)), .val (.int .i64)], rs := [(.int .i64)], own := true, dp := false, R := R, fn := fun x => m N x.1 x.2.1, res := fun r => (r, ()), out := fun r => ((), (), ()), shut := fun a b => a.1, res_shut := fun _ _ => rfl, out_shut := fun _ _ => rfl }
end laws_heldIntS
/-! ### laws_FnExactMembersOf: loop.example/g00220/laws.FnExactMembersOf -/
namespace laws_FnExactMembersOf
abbrev R := Bool
noncomputable def m (N : Nat) (a0 : Node) : Option R :=
  ob (laws_szNode.m N (Node.mk a0.Id a0.Term a0.Vote a0.Log a0.Start a0.Role a0.Votes a0.Next a0.Match a0.Commit a0.Elapsed a0.Wait a0.Up) (1048576:Int)) fun y1 =>
  bif (decide (y1 < (0:Int))) then
    some true
  else
  ob (laws_toNode.m N (Node.mk a0.Id a0.Term a0.Vote a0.Log a0.Start a0.Role a0.Votes a0.Next a0.Match a0.Commit a0.Elapsed a0.Wait a0.Up)) fun y2 =>
  ob (spec_MembersOf.m N y2) fun y3 =>
  ob (laws_toNode.m N a0) fun y4 =>
  ob (impl_MembersOf.m N y4) fun y5 =>
  ob (laws_eqIntS.m N y5.1 y3.1) fun y6 =>
  bif (!y6) then
    some false
  else
  bif (bif false then true else (y5.2 != y3.2)) then
    some false
  else
  ob (laws_toNode.m N (Node.mk a0.Id a0.Term a0.Vote a0.Log a0.Start a0.Role a0.Votes a0.Next a0.Match a0.Commit a0.Elapsed a0.Wait a0.Up)) fun y7 =>
  ob (laws_eqNode.m N y4 y7) fun y8 =>
  bif (!y8) then
    some false
  else
  ob (laws_markNode.m N y4 (1:Int)) fun y9 =>
  bif (decide (y9.1 < (0:Int))) then
    some false
  else
  ob (laws_eqIntS.m N y5.1 y3.1) fun y10 =>
  bif (bif false then true else (!y10)) then
    some false
  else
  bif (bif false then true else (y5.2 != y3.2)) then
    some false
  else
  ob (laws_markIntS.m N y5.1 (1:Int)) fun y11 =>
  ob (laws_heldIntS.m N y11.2 (1:Int)) fun y12 =>
  bif (decide (y12 < (0:Int))) then
    some false
  else
  bif (y12 != y11.1) then
    some false
  else
  ob (laws_toNode.m N a0) fun y13 =>
  ob (impl_MembersOf.m N y13) fun y14 =>
  ob (laws_eqIntS.m N y14.1 y3.1) fun y15 =>
  bif (!y15) then
    some false
  else
  bif (bif false then true else (y14.2 != y3.2)) then
    some false
  else
  ob (laws_heldIntS.m N y11.2 (1:Int)) fun y16 =>
  bif (decide (y16 < (0:Int))) then
    some false
  else
  bif (y16 != y11.1) then
    some false
  else
  some true
@[reducible] noncomputable def sp (N : Nat) : Spec E := { ps := [.val (.st 36)], rs := [.bool], own := true, dp := false, R := R, fn := fun x => m N x.1, res := fun r => (r, ()), out := fun r => ((), ()), shut := fun a b => a.1, res_shut := fun _ _ => rfl, out_shut := fun _ _ => rfl }
end laws_FnExactMembersOf
/-! ### spec_l10Has: loop.example/g00220/spec.l10Has -/
namespace spec_l10Has
abbrev R := Bool
noncomputable def step2 (N : Nat) (a0 : List Int) (a1 : Int) (rec : Int → Option R) : Int → Option R
  | v2 =>
    bif (decide (v2 < (a0.length : Int))) then
      bif (decide (0 ≤ v2)) then
      bif (decide (v2 < (a0.length : Int))) then
      bif ((a0.getD (Int.toNat v2) (0:Int)) == a1) then
        some true
      else
      rec (w64 (v2 + (1:Int)))
      else none
      else none
    else
    some false
noncomputable def lp2 (N : Nat) (a0 : List Int) (a1 : Int) : Int → Option R :=
  miter (fun rec => step2 N a0 a1 rec) N
noncomputable def m (N : Nat) (a0 : List Int) (a1 : Int) : Option R :=
  lp2 N a0 a1 (0:Int)
@[reducible] noncomputable def sp (N : Nat) : Spec E := { ps := [.val (.slice 3 (.int .i64)), .val (.int .i64)], rs := [.bool], own := true, dp := false, R := R, fn := fun x => m N x.1 x.2.1, res := fun r => (r, ()), out := fun r => ((), (), ()), shut := fun a b => a.1, res_shut := fun _ _ => rfl, out_shut := fun _ _ => rfl }
end spec_l10Has
/-! ### spec_l01Bit: loop.example/g00220/spec.l01Bit -/
namespace spec_l01Bit
abbrev R := Int
noncomputable def m (N : Nat) (a0 : Bool) : Option R :=
  bif a0 then
    some (1:Int)
  else
  some (0:Int)
@[reducible] noncomputable def sp (N : Nat) : Spec E := { ps := [.val .bool], rs := [(.int .i64)], own := true, dp := false, R := R, fn := fun x => m N x.1, res := fun r => (r, ()), out := fun r => ((), ()), shut := fun a b => a.1, res_shut := fun _ _ => rfl, out_shut := fun _ _ => rfl }
end spec_l01Bit
/-! ### spec_l11Allowed: loop.example/g00220/spec.l11Allowed -/
namespace spec_l11Allowed
abbrev R := Bool
noncomputable def step4 (N : Nat) (a0 : Node) (a1 : List Int) (lp10 : Int → Option R) (rec : ((List Int) × Int × Int) → Option R) : ((List Int) × Int × Int) → Option R
  | (v1, v2, v3) =>
    bif (decide (v3 < (7:Int))) then
      ob (spec_l10Has.m N v1 v3) fun y2 =>
      ob (spec_l10Has.m N a1 v3) fun y3 =>
      ob (spec_l01Bit.m N (!(y2 == y3))) fun y4 =>
      rec (v1, (w64 (v2 + y4)), (w64 (v3 + (1:Int))))
    else
    bif (v2 != (1:Int)) then
      some false
    else
    bif (bif false then true else (a0.Role != (2:Int))) then
      some false
    else
    bif (bif false then true else (a0.Commit == (0:Int))) then
      some false
    else
    bif (decide (0 ≤ (w64 (a0.Commit - (1:Int))))) then
    bif (decide ((w64 (a0.Commit - (1:Int))) < (a0.Log.length : Int))) then
    bif (bif false then true else ((a0.Log.getD (Int.toNat (w64 (a0.Commit - (1:Int)))) Entry.dz).Term != a0.Term)) then
      some false
    else
    lp10 a0.Commit
    else none
    else none
noncomputable def step10 (N : Nat) (a0 : Node) (a1 : List Int) (rec : Int → Option R) : Int → Option R
  | v0 =>
    bif (decide (v0 < (a0.Log.length : Int))) then
      bif (decide (0 ≤ v0)) then
      bif (decide (v0 < (a0.Log.length : Int))) then
      bif ((a0.Log.getD (Int.toNat v0) Entry.dz).Kind == (2:Int)) then
        some false
      else
      rec (w64 (v0 + (1:Int)))
      else none
      else none
    else
    some true
noncomputable def lp10 (N : Nat) (a0 : Node) (a1 : List Int) : Int → Option R :=
  miter (fun rec => step10 N a0 a1 rec) N
noncomputable def lp4 (N : Nat) (a0 : Node) (a1 : List Int) : ((List Int) × Int × Int) → Option R :=
  miter (fun rec => step4 N a0 a1 (lp10 N a0 a1) rec) N
noncomputable def m (N : Nat) (a0 : Node) (a1 : List Int) : Option R :=
  ob (spec_l10Members.m N a0) fun y1 =>
  lp4 N a0 a1 (y1, (0:Int), (0:Int))
@[reducible] noncomputable def sp (N : Nat) : Spec E := { ps := [.val (.st 25), .val (.slice 3 (.int .i64))], rs := [.bool], own := true, dp := false, R := R, fn := fun x => m N x.1 x.2.1, res := fun r => (r, ()), out := fun r => ((), (), ()), shut := fun a b => a.1, res_shut := fun _ _ => rfl, out_shut := fun _ _ => rfl }
end spec_l11Allowed
/-! ### spec_ConfigAllowed: loop.example/g00220/spec.ConfigAllowed -/
namespace spec_ConfigAllowed
abbrev R := Bool × Int
noncomputable def m (N : Nat) (a0 : Node) (a1 : List Int) : Option R :=
  bif (decide ((a1.length : Int) > (4096:Int))) then
    some (false, (2:Int))
  else
  ob (spec_NodeOK.m N a0) fun y1 =>
  bif (!y1) then
    some (false, (1:Int))
  else
  ob (spec_l10Ids.m N a1) fun y2 =>
  bif (bif false then true else (!y2)) then
    some (false, (1:Int))
  else
  bif (bif false then true else ((a1.length : Int) == (0:Int))) then
    some (false, (1:Int))
  else
  ob (spec_l11Allowed.m N a0 a1) fun y3 =>
  some (y3, (0:Int))
@[reducible] noncomputable def sp (N : Nat) : Spec E := { ps := [.val (.st 25), .val (.slice 3 (.int .i64))], rs := [.bool, (.int .i64)], own := true, dp := false, R := R, fn := fun x => m N x.1 x.2.1, res := fun r => (r.1, r.2, ()), out := fun r => ((), (), ()), shut := fun a b => (a.1, a.2.1), res_shut := fun _ _ => rfl, out_shut := fun _ _ => rfl }
end spec_ConfigAllowed
/-! ### impl_isList_int: loop.example/g00220/impl.isList[int] -/
namespace impl_isList_int
abbrev R := Bool
noncomputable def m (N : Nat) (a0 : List Int) : Option R :=
  some (decide ((a0.length : Int) ≤ (4096:Int)))
@[reducible] noncomputable def sp (N : Nat) : Spec E := { ps := [.val (.slice 3 (.int .i64))], rs := [.bool], own := true, dp := false, R := R, fn := fun x => m N x.1, res := fun r => (r, ()), out := fun r => ((), ()), shut := fun a b => a.1, res_shut := fun _ _ => rfl, out_shut := fun _ _ => rfl }
end impl_isList_int
/-! ### slices_Index_int_int: slices.Index[[]int,int] -/
namespace slices_Index_int_int
abbrev R := Int
noncomputable def step2 (N : Nat) (a0 : List Int) (a1 : Int) (rec : (Int × Int) → Option R) : (Int × Int) → Option R
  | (v2, v3) =>
    bif (decide (v3 < v2)) then
      bif (decide (0 ≤ v3)) then
      bif (decide (v3 < (a0.length : Int))) then
      bif (a1 == (a0.getD (Int.toNat v3) (0:Int))) then
        some v3
      else
      rec (v2, (w64 (v3 + (1:Int))))
      else none
      else none
    else
    some (-1:Int)
noncomputable def lp2 (N : Nat) (a0 : List Int) (a1 : Int) : (Int × Int) → Option R :=
  miter (fun rec => step2 N a0 a1 rec) N
noncomputable def m (N : Nat) (a0 : List Int) (a1 : Int) : Option R :=
  lp2 N a0 a1 ((a0.length : Int), (0:Int))
@[reducible] noncomputable def sp (N : Nat) : Spec E := { ps := [.val (.slice 3 (.int .i64)), .val (.int .i64)], rs := [(.int .i64)], own := true, dp := false, R := R, fn := fun x => m N x.1 x.2.1, res := fun r => (r, ()), out := fun r => ((), (), ()), shut := fun a b => a.1, res_shut := fun _ _ => rfl, out_shut := fun _ _ => rfl }
end slices_Index_int_int
/-! ### slices_Contains_int_int: slices.Contains[[]int,int] -/
namespace slices_Contains_int_int
abbrev R := Bool
noncomputable def m (N : Nat) (a0 : List Int) (a1 : Int) : Option R :=
  ob (slices_Index_int_int.m N a0 a1) fun y1 =>
  some (decide (y1 ≥ (0:Int)))
@[reducible] noncomputable def sp (N : Nat) : Spec E := { ps := [.val (.slice 3 (.int .i64)), .val (.int .i64)], rs := [.bool], own := true, dp := false, R := R, fn := fun x => m N x.1 x.2.1, res := fun r => (r, ()), out := fun r => ((), (), ()), shut := fun a b => a.1, res_shut := fun _ _ => rfl, out_shut := fun _ _ => rfl }
end slices_Contains_int_int
/-! ### impl_configAllowed_1: loop.example/g00220/impl.configAllowed$1 -/
namespace impl_configAllowed_1
abbrev R := Bool
noncomputable def m (N : Nat) (a0 : Entry) : Option R :=
  some (a0.Kind == (2:Int))
@[reducible] noncomputable def sp (N : Nat) : Spec E := { ps := [.val (.st 96)], rs := [.bool], own := true, dp := false, R := R, fn := fun x => m N x.1, res := fun r => (r, ()), out := fun r => ((), ()), shut := fun a b => a.1, res_shut := fun _ _ => rfl, out_shut := fun _ _ => rfl }
end impl_configAllowed_1
end Mir.Y
