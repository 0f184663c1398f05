/- Models of functions. -/
import Derived.Test.YtigmgeablmomnaaOE
namespace Mir.Y
set_option linter.unusedVariables false
set_option maxRecDepth 10000
open Go Go.Proofs Mir
/-! ### laws_szEntry: loop.example/g00220/laws.szEntry -/
namespace laws_szEntry
abbrev R := Int
noncomputable def m (N : Nat) (a0 : Entry) (a1 : Int) : Option R :=
  bif (decide ((w64 (a1 - (a0.Data.size : Int))) < (0:Int))) then
    some (-1:Int)
  else
  some (w64 (a1 - (a0.Data.size : Int)))
@[reducible] noncomputable def sp (N : Nat) : Spec E := { ps := [.val (.st 138), .val (.int .i64)], rs := [(.int .i64)], own := true, dp := false, R := R, fn := fun x => m N x.1 x.2.1, res := fun r => (r, ()), out := fun r => ((), (), ()), shut := fun a b => a.1, res_shut := fun _ _ => rfl, out_shut := fun _ _ => rfl }
end laws_szEntry
/-! ### laws_szEntryS: loop.example/g00220/laws.szEntryS -/
namespace laws_szEntryS
abbrev R := Int
noncomputable def step5 (N : Nat) (a0 : List Entry) (a1 : Int) (rec : (Int × Int) → Option R) : (Int × Int) → Option R
  | (v1, v2) =>
    bif (decide (v2 < (a0.length : Int))) then
      bif (decide (0 ≤ v2)) then
      bif (decide (v2 < (a0.length : Int))) then
      ob (laws_szEntry.m N (a0.getD (Int.toNat v2) Entry.dz) v1) fun y1 =>
      bif (decide (y1 < (0:Int))) then
        some (-1:Int)
      else
      rec (y1, (w64 (v2 + (1:Int))))
      else none
      else none
    else
    some v1
noncomputable def lp5 (N : Nat) (a0 : List Entry) (a1 : Int) : (Int × Int) → Option R :=
  miter (fun rec => step5 N a0 a1 rec) N
noncomputable def m (N : Nat) (a0 : List Entry) (a1 : Int) : Option R :=
  bif (decide ((w64 (a1 - (a0.length : Int))) < (0:Int))) then
    some (-1:Int)
  else
  lp5 N a0 a1 ((w64 (a1 - (a0.length : Int))), (0:Int))
@[reducible] noncomputable def sp (N : Nat) : Spec E := { ps := [.val (.slice 138 (.st 138)), .val (.int .i64)], rs := [(.int .i64)], own := true, dp := false, R := R, fn := fun x => m N x.1 x.2.1, res := fun r => (r, ()), out := fun r => ((), (), ()), shut := fun a b => a.1, res_shut := fun _ _ => rfl, out_shut := fun _ _ => rfl }
end laws_szEntryS
/-! ### laws_szIntS: loop.example/g00220/laws.szIntS -/
namespace laws_szIntS
abbrev R := Int
noncomputable def m (N : Nat) (a0 : List Int) (a1 : Int) : Option R :=
  bif (decide ((w64 (a1 - (a0.length : Int))) < (0:Int))) then
    some (-1:Int)
  else
  some (w64 (a1 - (a0.length : Int)))
@[reducible] noncomputable def sp (N : Nat) : Spec E := { ps := [.val (.slice 3 (.int .i64)), .val (.int .i64)], rs := [(.int .i64)], own := true, dp := false, R := R, fn := fun x => m N x.1 x.2.1, res := fun r => (r, ()), out := fun r => ((), (), ()), shut := fun a b => a.1, res_shut := fun _ _ => rfl, out_shut := fun _ _ => rfl }
end laws_szIntS
/-! ### laws_szNode: loop.example/g00220/laws.szNode -/
namespace laws_szNode
abbrev R := Int
noncomputable def m (N : Nat) (a0 : Node) (a1 : Int) : Option R :=
  ob (laws_szEntryS.m N a0.Log a1) fun y1 =>
  bif (decide (y1 < (0:Int))) then
    some (-1:Int)
  else
  ob (laws_szIntS.m N a0.Start y1) fun y2 =>
  bif (decide (y2 < (0:Int))) then
    some (-1:Int)
  else
  ob (laws_szIntS.m N a0.Votes y2) fun y3 =>
  bif (decide (y3 < (0:Int))) then
    some (-1:Int)
  else
  ob (laws_szIntS.m N a0.Next y3) fun y4 =>
  bif (decide (y4 < (0:Int))) then
    some (-1:Int)
  else
  ob (laws_szIntS.m N a0.Match y4) fun y5 =>
  bif (decide (y5 < (0:Int))) then
    some (-1:Int)
  else
  some y5
@[reducible] noncomputable def sp (N : Nat) : Spec E := { ps := [.val (.st 36), .val (.int .i64)], rs := [(.int .i64)], own := true, dp := false, R := R, fn := fun x => m N x.1 x.2.1, res := fun r => (r, ()), out := fun r => ((), (), ()), shut := fun a b => a.1, res_shut := fun _ _ => rfl, out_shut := fun _ _ => rfl }
end laws_szNode
/-! ### laws_toEntry: loop.example/g00220/laws.toEntry -/
namespace laws_toEntry
abbrev R := Entry
noncomputable def m (N : Nat) (a0 : Entry) : Option R :=
  some a0
@[reducible] noncomputable def sp (N : Nat) : Spec E := { ps := [.val (.st 138)], rs := [(.st 96)], own := true, dp := false, R := R, fn := fun x => m N x.1, res := fun r => (r, ()), out := fun r => ((), ()), shut := fun a b => a.1, res_shut := fun _ _ => rfl, out_shut := fun _ _ => rfl }
end laws_toEntry
/-! ### laws_toEntryS: loop.example/g00220/laws.toEntryS -/
namespace laws_toEntryS
abbrev R := (List Entry)
noncomputable def step3 (N : Nat) (a0 : List Entry) (rec : (Int × (List Entry)) → Option R) : (Int × (List Entry)) → Option R
  | (v1, v2) =>
    bif (decide (v1 < (a0.length : Int))) then
      bif (decide (0 ≤ v1)) then
      bif (decide (v1 < (a0.length : Int))) then
      ob (laws_toEntry.m N (a0.getD (Int.toNat v1) Entry.dz)) fun y1 =>
      bif (decide (0 ≤ v1)) then
      bif (decide (v1 < (v2.length : Int))) then
      rec ((w64 (v1 + (1:Int))), (v2.set (Int.toNat v1) y1))
      else none
      else none
      else none
      else none
    else
    some v2
noncomputable def lp3 (N : Nat) (a0 : List Entry) : (Int × (List Entry)) → Option R :=
  miter (fun rec => step3 N a0 rec) N
noncomputable def m (N : Nat) (a0 : List Entry) : Option R :=
  bif (decide (0 ≤ (a0.length : Int))) then
  bif (room (Int.toNat (a0.length : Int)) 32) then
  lp3 N a0 ((0:Int), (List.replicate (Int.toNat (a0.length : Int)) (Entry.mk (0:Int) (0:Int) ByteArray.empty)))
  else none
  else none
@[reducible] noncomputable def sp (N : Nat) : Spec E := { ps := [.val (.slice 138 (.st 138))], rs := [(.slice 96 (.st 96))], own := true, dp := false, R := R, fn := fun x => m N x.1, res := fun r => (r, ()), out := fun r => ((), ()), shut := fun a b => a.1, res_shut := fun _ _ => rfl, out_shut := fun _ _ => rfl }
end laws_toEntryS
/-! ### laws_toIntS: loop.example/g00220/laws.toIntS -/
namespace laws_toIntS
abbrev R := (List Int)
noncomputable def step3 (N : Nat) (a0 : List Int) (rec : (Int × (List Int)) → Option R) : (Int × (List Int)) → Option R
  | (v1, v2) =>
    bif (decide (v1 < (a0.length : Int))) then
      bif (decide (0 ≤ v1)) then
      bif (decide (v1 < (a0.length : Int))) then
      bif (decide (0 ≤ v1)) then
      bif (decide (v1 < (v2.length : Int))) then
      rec ((w64 (v1 + (1:Int))), (v2.set (Int.toNat v1) (a0.getD (Int.toNat v1) (0:Int))))
      else none
      else none
      else none
      else none
    else
    some v2
noncomputable def lp3 (N : Nat) (a0 : List Int) : (Int × (List Int)) → Option R :=
  miter (fun rec => step3 N a0 rec) N
noncomputable def m (N : Nat) (a0 : List Int) : Option R :=
  bif (decide (0 ≤ (a0.length : Int))) then
  bif (room (Int.toNat (a0.length : Int)) 8) then
  lp3 N a0 ((0:Int), (List.replicate (Int.toNat (a0.length : Int)) (0:Int)))
  else none
  else none
@[reducible] noncomputable def sp (N : Nat) : Spec E := { ps := [.val (.slice 3 (.int .i64))], rs := [(.slice 3 (.int .i64))], own := true, dp := false, R := R, fn := fun x => m N x.1, res := fun r => (r, ()), out := fun r => ((), ()), shut := fun a b => a.1, res_shut := fun _ _ => rfl, out_shut := fun _ _ => rfl }
end laws_toIntS
/-! ### laws_toNode: loop.example/g00220/laws.toNode -/
namespace laws_toNode
abbrev R := Node
noncomputable def m (N : Nat) (a0 : Node) : Option R :=
  ob (laws_toEntryS.m N a0.Log) fun y1 =>
  ob (laws_toIntS.m N a0.Start) fun y2 =>
  ob (laws_toIntS.m N a0.Votes) fun y3 =>
  ob (laws_toIntS.m N a0.Next) fun y4 =>
  ob (laws_toIntS.m N a0.Match) fun y5 =>
  some (Node.mk a0.Id a0.Term a0.Vote y1 y2 a0.Role y3 y4 y5 a0.Commit a0.Elapsed a0.Wait a0.Up)
@[reducible] noncomputable def sp (N : Nat) : Spec E := { ps := [.val (.st 36)], rs := [(.st 25)], own := true, dp := false, R := R, fn := fun x => m N x.1, res := fun r => (r, ()), out := fun r => ((), ()), shut := fun a b => a.1, res_shut := fun _ _ => rfl, out_shut := fun _ _ => rfl }
end laws_toNode
/-! ### spec_l01In: loop.example/g00220/spec.l01In -/
namespace spec_l01In
abbrev R := Bool
noncomputable def m (N : Nat) (a0 : Int) (a1 : Int) (a2 : Int) : Option R :=
  bif (decide (a0 ≥ a1)) then
    some (bif true then (decide (a0 ≤ a2)) else false)
  else
  some false
@[reducible] noncomputable def sp (N : Nat) : Spec E := { ps := [.val (.int .i64), .val (.int .i64), .val (.int .i64)], rs := [.bool], own := true, dp := false, R := R, fn := fun x => m N x.1 x.2.1 x.2.2.1, res := fun r => (r, ()), out := fun r => ((), (), (), ()), shut := fun a b => a.1, res_shut := fun _ _ => rfl, out_shut := fun _ _ => rfl }
end spec_l01In
/-! ### spec_l02Members: loop.example/g00220/spec.l02Members -/
namespace spec_l02Members
abbrev R := (List Int) × Bool
noncomputable def step3 (N : Nat) (a0 : ByteArray) (rec : (Int × (List Int)) → Option R) : (Int × (List Int)) → Option R
  | (v1, v2) =>
    bif (decide (v1 < (a0.size : Int))) then
      bif (decide (0 ≤ v1)) then
      bif (decide (v1 < (a0.size : Int))) then
      ob (spec_l01In.m N (w64 (sb a0 v1)) (0:Int) (6:Int)) fun y1 =>
      bif (!y1) then
        some (([] : List Int), false)
      else
      bif (decide (v1 > (0:Int))) then
        bif (decide (0 ≤ (w64 (v1 - (1:Int))))) then
        bif (decide ((w64 (v1 - (1:Int))) < (a0.size : Int))) then
        bif (decide (0 ≤ v1)) then
        bif (decide (v1 < (a0.size : Int))) then
        bif (bif false then true else (bif true then (decide ((sb a0 (w64 (v1 - (1:Int)))) ≥ (sb a0 v1))) else false)) then
          some (([] : List Int), false)
        else
        bif (decide (0 ≤ v1)) then
        bif (decide (v1 < (a0.size : Int))) then
        bif (room (v2.length + ([(w64 (sb a0 v1))]).length) 8) then
        rec ((w64 (v1 + (1:Int))), (v2 ++ [(w64 (sb a0 v1))]))
        else none
        else none
        else none
        else none
        else none
        else none
        else none
      else
      bif (bif false then true else false) then
        some (([] : List Int), false)
      else
      bif (decide (0 ≤ v1)) then
      bif (decide (v1 < (a0.size : Int))) then
      bif (room (v2.length + ([(w64 (sb a0 v1))]).length) 8) then
      rec ((w64 (v1 + (1:Int))), (v2 ++ [(w64 (sb a0 v1))]))
      else none
      else none
      else none
      else none
      else none
    else
    some (v2, (decide ((v2.length : Int) > (0:Int))))
noncomputable def lp3 (N : Nat) (a0 : ByteArray) : (Int × (List Int)) → Option R :=
  miter (fun rec => step3 N a0 rec) N
noncomputable def m (N : Nat) (a0 : ByteArray) : Option R :=
  lp3 N a0 ((0:Int), ([] : List Int))
@[reducible] noncomputable def sp (N : Nat) : Spec E := { ps := [.val .str], rs := [(.slice 3 (.int .i64)), .bool], own := true, dp := false, R := R, fn := fun x => m N x.1, res := fun r => (r.1, r.2, ()), out := fun r => ((), ()), shut := fun a b => (a.1, a.2.1), res_shut := fun _ _ => rfl, out_shut := fun _ _ => rfl }
end spec_l02Members
/-! ### spec_l02Entry: loop.example/g00220/spec.l02Entry -/
namespace spec_l02Entry
abbrev R := Bool
noncomputable def m (N : Nat) (a0 : Entry) : Option R :=
  ob (spec_l01In.m N a0.Term (1:Int) (1000000:Int)) fun y1 =>
  bif (!y1) then
    some false
  else
  bif (a0.Kind == (0:Int)) then
    some (seq a0.Data ByteArray.empty)
  else
  bif (a0.Kind == (1:Int)) then
    bif (decide ((a0.Data.size : Int) ≥ (1:Int))) then
      some (bif true then (decide ((a0.Data.size : Int) ≤ (100:Int))) else false)
    else
    some false
  else
  bif (a0.Kind == (2:Int)) then
    ob (spec_l02Members.m N a0.Data) fun y2 =>
    some y2.2
  else
  some false
@[reducible] noncomputable def sp (N : Nat) : Spec E := { ps := [.val (.st 96)], rs := [.bool], own := true, dp := false, R := R, fn := fun x => m N x.1, res := fun r => (r, ()), out := fun r => ((), ()), shut := fun a b => a.1, res_shut := fun _ _ => rfl, out_shut := fun _ _ => rfl }
end spec_l02Entry
/-! ### spec_StateOK: loop.example/g00220/spec.StateOK -/
namespace spec_StateOK
abbrev R := Bool
noncomputable def step4 (N : Nat) (a0 : State) (rec : Int → Option R) : Int → Option R
  | v0 =>
    bif (decide (v0 < (a0.Log.length : Int))) then
      bif (decide (0 ≤ v0)) then
      bif (decide (v0 < (a0.Log.length : Int))) then
      ob (spec_l02Entry.m N (a0.Log.getD (Int.toNat v0) Entry.dz)) fun y3 =>
      bif (!y3) then
        some false
      else
      bif (decide (0 ≤ v0)) then
      bif (decide (v0 < (a0.Log.length : Int))) then
      bif (bif false then true else (decide ((a0.Log.getD (Int.toNat v0) Entry.dz).Term > a0.Term))) then
        some false
      else
      bif (decide (v0 > (0:Int))) then
        bif (decide (0 ≤ (w64 (v0 - (1:Int))))) then
        bif (decide ((w64 (v0 - (1:Int))) < (a0.Log.length : Int))) then
        bif (decide (0 ≤ v0)) then
        bif (decide (v0 < (a0.Log.length : Int))) then
        (let w4 : Bool := (bif true then (decide ((a0.Log.getD (Int.toNat (w64 (v0 - (1:Int)))) Entry.dz).Term > (a0.Log.getD (Int.toNat v0) Entry.dz).Term)) else false)
        bif (bif false then true else w4) then
          some false
        else
        rec (w64 (v0 + (1:Int))))
        else none
        else none
        else none
        else none
      else
      bif (bif false then true else false) then
        some false
      else
      rec (w64 (v0 + (1:Int)))
      else none
      else none
      else none
      else none
    else
    some true
noncomputable def lp4 (N : Nat) (a0 : State) : Int → Option R :=
  miter (fun rec => step4 N a0 rec) N
noncomputable def m (N : Nat) (a0 : State) : Option R :=
  ob (spec_l01In.m N a0.Term (0:Int) (1000000:Int)) fun y1 =>
  bif (!y1) then
    some false
  else
  ob (spec_l01In.m N a0.Vote (-1:Int) (6:Int)) fun y2 =>
  bif (bif false then true else (!y2)) then
    some false
  else
  bif (bif false then true else (decide ((a0.Log.length : Int) > (60:Int)))) then
    some false
  else
  lp4 N a0 (0:Int)
@[reducible] noncomputable def sp (N : Nat) : Spec E := { ps := [.val (.st 86)], rs := [.bool], own := true, dp := false, R := R, fn := fun x => m N x.1, res := fun r => (r, ()), out := fun r => ((), ()), shut := fun a b => a.1, res_shut := fun _ _ => rfl, out_shut := fun _ _ => rfl }
end spec_StateOK
/-! ### spec_l10Ids: loop.example/g00220/spec.l10Ids -/
namespace spec_l10Ids
abbrev R := Bool
noncomputable def step2 (N : Nat) (a0 : List Int) (rec : Int → Option R) : Int → Option R
  | v1 =>
    bif (decide (v1 < (a0.length : Int))) then
      bif (decide (0 ≤ v1)) then
      bif (decide (v1 < (a0.length : Int))) then
      ob (spec_l01In.m N (a0.getD (Int.toNat v1) (0:Int)) (0:Int) (6:Int)) fun y1 =>
      bif (!y1) then
        some false
      else
      bif (decide (v1 > (0:Int))) then
        bif (decide (0 ≤ (w64 (v1 - (1:Int))))) then
        bif (decide ((w64 (v1 - (1:Int))) < (a0.length : Int))) then
        bif (decide (0 ≤ v1)) then
        bif (decide (v1 < (a0.length : Int))) then
        (let w2 : Bool := (bif false then true else (bif true then (decide ((a0.getD (Int.toNat (w64 (v1 - (1:Int)))) (0:Int)) ≥ (a0.getD (Int.toNat v1) (0:Int)))) else false))
        bif w2 then
          some false
        else
        rec (w64 (v1 + (1:Int))))
        else none
        else none
        else none
        else none
      else
      bif (bif false then true else false) then
        some false
      else
      rec (w64 (v1 + (1:Int)))
      else none
      else none
    else
    some true
noncomputable def lp2 (N : Nat) (a0 : List Int) : Int → Option R :=
  miter (fun rec => step2 N a0 rec) N
noncomputable def m (N : Nat) (a0 : List Int) : Option R :=
  lp2 N a0 (0:Int)
@[reducible] noncomputable def sp (N : Nat) : Spec E := { ps := [.val (.slice 3 (.int .i64))], rs := [.bool], own := true, dp := false, R := R, fn := fun x => m N x.1, res := fun r => (r, ()), out := fun r => ((), ()), shut := fun a b => a.1, res_shut := fun _ _ => rfl, out_shut := fun _ _ => rfl }
end spec_l10Ids
/-! ### spec_NodeOK: loop.example/g00220/spec.NodeOK -/
namespace spec_NodeOK
abbrev R := Bool
noncomputable def step6 (N : Nat) (a0 : Node) (rec : Int → Option R) : Int → Option R
  | v0 =>
    bif (decide (v0 < (7:Int))) then
      bif (decide (0 ≤ v0)) then
      bif (decide (v0 < (a0.Next.length : Int))) then
      ob (spec_l01In.m N (a0.Next.getD (Int.toNat v0) (0:Int)) (1:Int) (w64 ((a0.Log.length : Int) + (1:Int)))) fun y9 =>
      bif (!y9) then
        some false
      else
      bif (decide (0 ≤ v0)) then
      bif (decide (v0 < (a0.Match.length : Int))) then
      bif (decide (0 ≤ v0)) then
      bif (decide (v0 < (a0.Next.length : Int))) then
      ob (spec_l01In.m N (a0.Match.getD (Int.toNat v0) (0:Int)) (0:Int) (w64 ((a0.Next.getD (Int.toNat v0) (0:Int)) - (1:Int)))) fun y10 =>
      bif (bif false then true else (!y10)) then
        some false
      else
      rec (w64 (v0 + (1:Int)))
      else none
      else none
      else none
      else none
      else none
      else none
    else
    bif a0.Up then
      some true
    else
    some (bif false then true else (a0.Role == (0:Int)))
noncomputable def lp6 (N : Nat) (a0 : Node) : Int → Option R :=
  miter (fun rec => step6 N a0 rec) N
noncomputable def m (N : Nat) (a0 : Node) : Option R :=
  ob (spec_l01In.m N a0.Id (0:Int) (6:Int)) fun y1 =>
  bif (!y1) then
    some false
  else
  ob (spec_StateOK.m N (State.mk a0.Term a0.Vote a0.Log)) fun y2 =>
  bif (bif false then true else (!y2)) then
    some false
  else
  ob (spec_l10Ids.m N a0.Start) fun y3 =>
  bif (bif false then true else (!y3)) then
    some false
  else
  bif (bif false then true else ((a0.Start.length : Int) == (0:Int))) then
    some false
  else
  ob (spec_l10Ids.m N a0.Votes) fun y4 =>
  bif (bif false then true else (!y4)) then
    some false
  else
  ob (spec_l01In.m N a0.Role (0:Int) (2:Int)) fun y5 =>
  bif (bif false then true else (!y5)) then
    some false
  else
  bif ((a0.Next.length : Int) != (7:Int)) then
    some false
  else
  bif (bif false then true else ((a0.Match.length : Int) != (7:Int))) then
    some false
  else
  ob (spec_l01In.m N a0.Commit (0:Int) (a0.Log.length : Int)) fun y6 =>
  bif (bif false then true else (!y6)) then
    some false
  else
  ob (spec_l01In.m N a0.Elapsed (0:Int) (1000:Int)) fun y7 =>
  bif (bif false then true else (!y7)) then
    some false
  else
  ob (spec_l01In.m N a0.Wait (5:Int) (100:Int)) fun y8 =>
  bif (bif false then true else (!y8)) then
    some false
  else
  lp6 N a0 (0:Int)
@[reducible] noncomputable def sp (N : Nat) : Spec E := { ps := [.val (.st 25)], rs := [.bool], own := true, dp := false, R := R, fn := fun x => m N x.1, res := fun r => (r, ()), out := fun r => ((), ()), shut := fun a b => a.1, res_shut := fun _ _ => rfl, out_shut := fun _ _ => rfl }
end spec_NodeOK
/-! ### spec_l10Own: loop.example/g00220/spec.l10Own -/
namespace spec_l10Own
abbrev R := Node
noncomputable def m (N : Nat) (a0 : Node) : Option R :=
  bif (room (([] : List Entry).length + a0.Log.length) 32) then
  bif (room (([] : List Int).length + a0.Start.length) 8) then
  bif (room (([] : List Int).length + a0.Votes.length) 8) then
  bif (room (([] : List Int).length + a0.Next.length) 8) then
  bif (room (([] : List Int).length + a0.Match.length) 8) then
  some (Node.mk a0.Id a0.Term a0.Vote (([] : List Entry) ++ a0.Log) (([] : List Int) ++ a0.Start) a0.Role (([] : List Int) ++ a0.Votes) (([] : List Int) ++ a0.Next) (([] : List Int) ++ a0.Match) a0.Commit a0.Elapsed a0.Wait a0.Up)
  else none
  else none
  else none
  else none
  else none
@[reducible] noncomputable def sp (N : Nat) : Spec E := { ps := [.val (.st 25)], rs := [(.st 25)], own := true, dp := false, R := R, fn := fun x => m N x.1, res := fun r => (r, ()), out := fun r => ((), ()), shut := fun a b => a.1, res_shut := fun _ _ => rfl, out_shut := fun _ _ => rfl }
end spec_l10Own
/-! ### spec_l10Members: loop.example/g00220/spec.l10Members -/
namespace spec_l10Members
abbrev R := (List Int)
noncomputable def step2 (N : Nat) (a0 : Node) (rec : Int → Option R) : Int → Option R
  | v0 =>
    bif (decide (v0 ≥ (0:Int))) then
      bif (decide (0 ≤ v0)) then
      bif (decide (v0 < (a0.Log.length : Int))) then
      bif ((a0.Log.getD (Int.toNat v0) Entry.dz).Kind == (2:Int)) then
        bif (decide (0 ≤ v0)) then
        bif (decide (v0 < (a0.Log.length : Int))) then
        ob (spec_l02Members.m N ((a0.Log.getD (Int.toNat v0) Entry.dz).Data)) fun y1 =>
        some y1.1
        else none
        else none
      else
      rec (w64 (v0 - (1:Int)))
      else none
      else none
    else
    some a0.Start
noncomputable def lp2 (N : Nat) (a0 : Node) : Int → Option R :=
  miter (fun rec => step2 N a0 rec) N
noncomputable def m (N : Nat) (a0 : Node) : Option R :=
  lp2 N a0 (w64 ((a0.Log.length : Int) - (1:Int)))
@[reducible] noncomputable def sp (N : Nat) : Spec E := { ps := [.val (.st 25)], rs := [(.slice 3 (.int .i64))], own := false, dp := false, R := R, fn := fun x => m N x.1, res := fun r => (r, ()), out := fun r => ((), ()), shut := fun a b => a.1, res_shut := fun _ _ => rfl, out_shut := fun _ _ => rfl }
end spec_l10Members
/-! ### spec_l10Has: loop.example/g00220/spec.l10Has -/
namespace spec_l10Has
abbrev R := Bool
noncomputable def step2 (N : Nat) (a0 : List Int) (a1 : Int) (rec : Int → Option R) : Int → Option R
  | v2 =>
    bif (decide (v2 < (a0.length : Int))) then
      bif (decide (0 ≤ v2)) then
      bif (decide (v2 < (a0.length : Int))) then
      bif ((a0.getD (Int.toNat v2) (0:Int)) == a1) then
        some true
      else
      rec (w64 (v2 + (1:Int)))
      else none
      else none
    else
    some false
noncomputable def lp2 (N : Nat) (a0 : List Int) (a1 : Int) : Int → Option R :=
  miter (fun rec => step2 N a0 a1 rec) N
noncomputable def m (N : Nat) (a0 : List Int) (a1 : Int) : Option R :=
  lp2 N a0 a1 (0:Int)
@[reducible] noncomputable def sp (N : Nat) : Spec E := { ps := [.val (.slice 3 (.int .i64)), .val (.int .i64)], rs := [.bool], own := true, dp := false, R := R, fn := fun x => m N x.1 x.2.1, res := fun r => (r, ()), out := fun r => ((), (), ()), shut := fun a b => a.1, res_shut := fun _ _ => rfl, out_shut := fun _ _ => rfl }
end spec_l10Has
/-! ### spec_l01Bit: loop.example/g00220/spec.l01Bit -/
namespace spec_l01Bit
abbrev R := Int
noncomputable def m (N : Nat) (a0 : Bool) : Option R :=
  bif a0 then
    some (1:Int)
  else
  some (0:Int)
@[reducible] noncomputable def sp (N : Nat) : Spec E := { ps := [.val .bool], rs := [(.int .i64)], own := true, dp := false, R := R, fn := fun x => m N x.1, res := fun r => (r, ()), out := fun r => ((), ()), shut := fun a b => a.1, res_shut := fun _ _ => rfl, out_shut := fun _ _ => rfl }
end spec_l01Bit
/-! ### spec_l10Most: loop.example/g00220/spec.l10Most -/
namespace spec_l10Most
abbrev R := Bool
noncomputable def step3 (N : Nat) (a0 : List Int) (a1 : List Int) (rec : (Int × Int) → Option R) : (Int × Int) → Option R
  | (v2, v3) =>
    bif (decide (v3 < (a1.length : Int))) then
      bif (decide (0 ≤ v3)) then
      bif (decide (v3 < (a1.length : Int))) then
      ob (spec_l10Has.m N a0 (a1.getD (Int.toNat v3) (0:Int))) fun y1 =>
      ob (spec_l01Bit.m N y1) fun y2 =>
      rec ((w64 (v2 + y2)), (w64 (v3 + (1:Int))))
      else none
      else none
    else
    some (decide ((w64 ((2:Int) * v2)) > (a1.length : Int)))
noncomputable def lp3 (N : Nat) (a0 : List Int) (a1 : List Int) : (Int × Int) → Option R :=
  miter (fun rec => step3 N a0 a1 rec) N
noncomputable def m (N : Nat) (a0 : List Int) (a1 : List Int) : Option R :=
  lp3 N a0 a1 ((0:Int), (0:Int))
@[reducible] noncomputable def sp (N : Nat) : Spec E := { ps := [.val (.slice 3 (.int .i64)), .val (.slice 3 (.int .i64))], rs := [.bool], own := true, dp := false, R := R, fn := fun x => m N x.1 x.2.1, res := fun r => (r, ()), out := fun r => ((), (), ()), shut := fun a b => a.1, res_shut := fun _ _ => rfl, out_shut := fun _ _ => rfl }
end spec_l10Most
/-! ### spec_l10Advance: loop.example/g00220/spec.l10Advance -/
namespace spec_l10Advance
abbrev R := Node
noncomputable def step3 (N : Nat) (a0 : Node) (lp7 : (List Int) × Int × Int × Int × Int × Int × (List Entry) × (List Int) × Int × (List Int) × (List Int) × (List Int) × Int × Int × Int × Bool × Int × Int × Int × Int × Int × Int × Int × (List Int) → Option R) (rec : ((List Int) × Int × Int × Int × Int × (List Entry) × (List Int) × Int × (List Int) × (List Int) × (List Int) × Int × Int × Int × Bool × Int × Int × Int × Int × Int × Int × Int) → Option R) : ((List Int) × Int × Int × Int × Int × (List Entry) × (List Int) × Int × (List Int) × (List Int) × (List Int) × Int × Int × Int × Bool × Int × Int × Int × Int × Int × Int × Int) → Option R
  | (v0, v1, v2, v3, v4, v5, v6, v7, v8, v9, v10, v11, v12, v13, v14, v15, v16, v17, v18, v19, v20, v21) =>
    bif (decide (v1 > v11)) then
      bif (decide (0 ≤ (w64 (v1 - (1:Int))))) then
      bif (decide ((w64 (v1 - (1:Int))) < (v5.length : Int))) then
      bif (bif true then ((v5.getD (Int.toNat (w64 (v1 - (1:Int)))) Entry.dz).Term == v3) else false) then
        lp7 (v0, v1, (0:Int), v2, v3, v4, v5, v6, v7, v8, v9, v10, v11, v12, v13, v14, v15, v16, v17, v18, v19, v20, v21, [v2])
      else
      some (Node.mk v2 v3 v4 v5 v6 v7 v8 v9 v10 v11 v12 v13 v14)
      else none
      else none
    else
    some (Node.mk v2 v3 v4 v5 v6 v7 v8 v9 v10 v11 v12 v13 v14)
noncomputable def step7 (N : Nat) (a0 : Node) (lp3 : (List Int) × Int × Int × Int × Int × (List Entry) × (List Int) × Int × (List Int) × (List Int) × (List Int) × Int × Int × Int × Bool × Int × Int × Int × Int × Int × Int × Int → Option R) (rec : ((List Int) × Int × Int × Int × Int × Int × (List Entry) × (List Int) × Int × (List Int) × (List Int) × (List Int) × Int × Int × Int × Bool × Int × Int × Int × Int × Int × Int × Int × (List Int)) → Option R) : ((List Int) × Int × Int × Int × Int × Int × (List Entry) × (List Int) × Int × (List Int) × (List Int) × (List Int) × Int × Int × Int × Bool × Int × Int × Int × Int × Int × Int × Int × (List Int)) → Option R
  | (v0, v1, v2, v3, v4, v5, v6, v7, v8, v9, v10, v11, v12, v13, v14, v15, v16, v17, v18, v19, v20, v21, v22, v23) =>
    bif (decide (v2 < (7:Int))) then
      bif (decide (0 ≤ v2)) then
      bif (decide (v2 < (v11.length : Int))) then
      bif (decide ((v11.getD (Int.toNat v2) (0:Int)) ≥ v1)) then
        bif (bif true then (v2 != v3) else false) then
          bif (room (v23.length + ([v2]).length) 8) then
          rec (v0, v1, (w64 (v2 + (1:Int))), v3, v4, v5, v6, v7, v8, v9, v10, v11, v12, v13, v14, v15, v16, v17, v18, v19, v20, v21, v22, (v23 ++ [v2]))
          else none
        else
        rec (v0, v1, (w64 (v2 + (1:Int))), v3, v4, v5, v6, v7, v8, v9, v10, v11, v12, v13, v14, v15, v16, v17, v18, v19, v20, v21, v22, v23)
      else
      rec (v0, v1, (w64 (v2 + (1:Int))), v3, v4, v5, v6, v7, v8, v9, v10, v11, v12, v13, v14, v15, v16, v17, v18, v19, v20, v21, v22, v23)
      else none
      else none
    else
    ob (spec_l10Most.m N v23 v0) fun y2 =>
    bif y2 then
      some (Node.mk v3 v4 v5 v6 v7 v8 v9 v10 v11 v1 v13 v14 v15)
    else
    lp3 (v0, (w64 (v1 - (1:Int))), v3, v4, v5, v6, v7, v8, v9, v10, v11, v12, v13, v14, v15, v16, v17, v18, v19, v20, v21, v22)
noncomputable def lp7 (N : Nat) (a0 : Node) (r3 : (List Int) × Int × Int × Int × Int × (List Entry) × (List Int) × Int × (List Int) × (List Int) × (List Int) × Int × Int × Int × Bool × Int × Int × Int × Int × Int × Int × Int → Option R) : ((List Int) × Int × Int × Int × Int × Int × (List Entry) × (List Int) × Int × (List Int) × (List Int) × (List Int) × Int × Int × Int × Bool × Int × Int × Int × Int × Int × Int × Int × (List Int)) → Option R :=
  miter (fun rec => step7 N a0 r3 rec) N
noncomputable def lp3 (N : Nat) (a0 : Node) : ((List Int) × Int × Int × Int × Int × (List Entry) × (List Int) × Int × (List Int) × (List Int) × (List Int) × Int × Int × Int × Bool × Int × Int × Int × Int × Int × Int × Int) → Option R :=
  miter (fun rec => step3 N a0 (lp7 N a0 rec) rec) N
noncomputable def m (N : Nat) (a0 : Node) : Option R :=
  ob (spec_l10Members.m N a0) fun y1 =>
  lp3 N a0 (y1, (a0.Log.length : Int), a0.Id, a0.Term, a0.Vote, a0.Log, a0.Start, a0.Role, a0.Votes, a0.Next, a0.Match, a0.Commit, a0.Elapsed, a0.Wait, a0.Up, (0:Int), (0:Int), (0:Int), (0:Int), (0:Int), (0:Int), (0:Int))
@[reducible] noncomputable def sp (N : Nat) : Spec E := { ps := [.val (.st 25)], rs := [(.st 25)], own := false, dp := false, R := R, fn := fun x => m N x.1, res := fun r => (r, ()), out := fun r => ((), ()), shut := fun a b => a.1, res_shut := fun _ _ => rfl, out_shut := fun _ _ => rfl }
end spec_l10Advance
/-! ### spec_l10Term: loop.example/g00220/spec.l10Term -/
namespace spec_l10Term
abbrev R := Int
noncomputable def m (N : Nat) (a0 : Node) (a1 : Int) : Option R :=
  bif (a1 == (0:Int)) then
    some (0:Int)
  else
  bif (decide (0 ≤ (w64 (a1 - (1:Int))))) then
  bif (decide ((w64 (a1 - (1:Int))) < (a0.Log.length : Int))) then
  some ((a0.Log.getD (Int.toNat (w64 (a1 - (1:Int)))) Entry.dz).Term)
  else none
  else none
@[reducible] noncomputable def sp (N : Nat) : Spec E := { ps := [.val (.st 25), .val (.int .i64)], rs := [(.int .i64)], own := true, dp := false, R := R, fn := fun x => m N x.1 x.2.1, res := fun r => (r, ()), out := fun r => ((), (), ()), shut := fun a b => a.1, res_shut := fun _ _ => rfl, out_shut := fun _ _ => rfl }
end spec_l10Term
/-! ### spec_l10Append: loop.example/g00220/spec.l10Append -/
namespace spec_l10Append
abbrev R := Message
noncomputable def m (N : Nat) (a0 : Node) (a1 : Int) : Option R :=
  bif (decide (0 ≤ a1)) then
  bif (decide (a1 < (a0.Next.length : Int))) then
  ob (spec_l10Term.m N a0 (w64 ((a0.Next.getD (Int.toNat a1) (0:Int)) - (1:Int)))) fun y1 =>
  bif (decide (0 ≤ (w64 ((a0.Next.getD (Int.toNat a1) (0:Int)) - (1:Int))))) then
  bif (decide ((w64 ((a0.Next.getD (Int.toNat a1) (0:Int)) - (1:Int))) ≤ ((a0.Log.length : Nat) : Int))) then
  bif (room (([] : List Entry).length + (a0.Log.drop (Int.toNat (w64 ((a0.Next.getD (Int.toNat a1) (0:Int)) - (1:Int))))).length) 32) then
  some (Message.mk (3:Int) a0.Id a1 a0.Term (w64 ((a0.Next.getD (Int.toNat a1) (0:Int)) - (1:Int))) y1 a0.Commit (([] : List Entry) ++ (a0.Log.drop (Int.toNat (w64 ((a0.Next.getD (Int.toNat a1) (0:Int)) - (1:Int)))))) false)
  else none
  else none
  else none
  else none
  else none
@[reducible] noncomputable def sp (N : Nat) : Spec E := { ps := [.val (.st 25), .val (.int .i64)], rs := [(.st 102)], own := true, dp := false, R := R, fn := fun x => m N x.1 x.2.1, res := fun r => (r, ()), out := fun r => ((), (), ()), shut := fun a b => a.1, res_shut := fun _ _ => rfl, out_shut := fun _ _ => rfl }
end spec_l10Append
/-! ### spec_l10Tell: loop.example/g00220/spec.l10Tell -/
namespace spec_l10Tell
abbrev R := (List Message)
noncomputable def step4 (N : Nat) (a0 : Node) (rec : ((List Int) × Int × (List Message)) → Option R) : ((List Int) × Int × (List Message)) → Option R
  | (v0, v1, v15) =>
    bif (decide (v1 < (v0.length : Int))) then
      bif (decide (0 ≤ v1)) then
      bif (decide (v1 < (v0.length : Int))) then
      bif ((v0.getD (Int.toNat v1) (0:Int)) != a0.Id) then
        bif (decide (0 ≤ v1)) then
        bif (decide (v1 < (v0.length : Int))) then
        ob (spec_l10Append.m N a0 (v0.getD (Int.toNat v1) (0:Int))) fun y2 =>
        bif (room (v15.length + ([y2]).length) 88) then
        rec (v0, (w64 (v1 + (1:Int))), (v15 ++ [y2]))
        else none
        else none
        else none
      else
      rec (v0, (w64 (v1 + (1:Int))), v15)
      else none
      else none
    else
    some v15
noncomputable def lp4 (N : Nat) (a0 : Node) : ((List Int) × Int × (List Message)) → Option R :=
  miter (fun rec => step4 N a0 rec) N
noncomputable def m (N : Nat) (a0 : Node) : Option R :=
  ob (spec_l10Members.m N a0) fun y1 =>
  lp4 N a0 (y1, (0:Int), ([] : List Message))
@[reducible] noncomputable def sp (N : Nat) : Spec E := { ps := [.val (.st 25)], rs := [(.slice 102 (.st 102))], own := true, dp := true, R := R, fn := fun x => m N x.1, res := fun r => (r, ()), out := fun r => ((), ()), shut := fun a b => a.1, res_shut := fun _ _ => rfl, out_shut := fun _ _ => rfl }
end spec_l10Tell
/-! ### spec_l10Propose: loop.example/g00220/spec.l10Propose -/
namespace spec_l10Propose
abbrev R := Node × (List Message) × Int
noncomputable def m (N : Nat) (a0 : Node) (a1 : Entry) : Option R :=
  bif (!a0.Up) then
    some (a0, ([] : List Message), (5:Int))
  else
  bif (a0.Role != (2:Int)) then
    some (a0, ([] : List Message), (14:Int))
  else
  bif ((a0.Log.length : Int) == (60:Int)) then
    some (a0, ([] : List Message), (7:Int))
  else
  ob (spec_l10Own.m N a0) fun y1 =>
  bif (room (y1.Log.length + ([(Entry.mk y1.Term a1.Kind a1.Data)]).length) 32) then
  ob (spec_l10Advance.m N (Node.mk y1.Id y1.Term y1.Vote (y1.Log ++ [(Entry.mk y1.Term a1.Kind a1.Data)]) y1.Start y1.Role y1.Votes y1.Next y1.Match y1.Commit y1.Elapsed y1.Wait y1.Up)) fun y2 =>
  ob (spec_l10Tell.m N (Node.mk y2.Id y2.Term y2.Vote y2.Log y2.Start y2.Role y2.Votes y2.Next y2.Match y2.Commit y2.Elapsed y2.Wait y2.Up)) fun y3 =>
  some ((Node.mk y2.Id y2.Term y2.Vote y2.Log y2.Start y2.Role y2.Votes y2.Next y2.Match y2.Commit y2.Elapsed y2.Wait y2.Up), y3, (0:Int))
  else none
@[reducible] noncomputable def sp (N : Nat) : Spec E := { ps := [.val (.st 25), .val (.st 96)], rs := [(.st 25), (.slice 102 (.st 102)), (.int .i64)], own := false, dp := false, R := R, fn := fun x => m N x.1 x.2.1, res := fun r => (r.1, r.2.1, r.2.2, ()), out := fun r => ((), (), ()), shut := fun a b => (a.1, a.2.1, a.2.2.1), res_shut := fun _ _ => rfl, out_shut := fun _ _ => rfl }
end spec_l10Propose
/-! ### spec_NodePropose: loop.example/g00220/spec.NodePropose -/
namespace spec_NodePropose
abbrev R := Node × (List Message) × Int
noncomputable def m (N : Nat) (a0 : Node) (a1 : ByteArray) : Option R :=
  bif (decide ((a1.size : Int) > (65536:Int))) then
    some ((Node.mk (0:Int) (0:Int) (0:Int) ([] : List Entry) ([] : List Int) (0:Int) ([] : List Int) ([] : List Int) ([] : List Int) (0:Int) (0:Int) (0:Int) false), ([] : List Message), (2:Int))
  else
  ob (spec_NodeOK.m N a0) fun y1 =>
  bif (!y1) then
    some ((Node.mk (0:Int) (0:Int) (0:Int) ([] : List Entry) ([] : List Int) (0:Int) ([] : List Int) ([] : List Int) ([] : List Int) (0:Int) (0:Int) (0:Int) false), ([] : List Message), (1:Int))
  else
  ob (spec_l01In.m N (a1.size : Int) (1:Int) (100:Int)) fun y2 =>
  bif (bif false then true else (!y2)) then
    some ((Node.mk (0:Int) (0:Int) (0:Int) ([] : List Entry) ([] : List Int) (0:Int) ([] : List Int) ([] : List Int) ([] : List Int) (0:Int) (0:Int) (0:Int) false), ([] : List Message), (1:Int))
  else
  ob (spec_l10Propose.m N a0 (Entry.mk (0:Int) (1:Int) a1)) fun y3 =>
  ob (spec_l10Own.m N y3.1) fun y4 =>
  some (y4, y3.2.1, y3.2.2)
@[reducible] noncomputable def sp (N : Nat) : Spec E := { ps := [.val (.st 25), .val .str], rs := [(.st 25), (.slice 102 (.st 102)), (.int .i64)], own := false, dp := false, R := R, fn := fun x => m N x.1 x.2.1, res := fun r => (r.1, r.2.1, r.2.2, ()), out := fun r => ((), (), ()), shut := fun a b => (a.1, a.2.1, a.2.2.1), res_shut := fun _ _ => rfl, out_shut := fun _ _ => rfl }
end spec_NodePropose
/-! ### impl_isText_1: loop.example/g00220/impl.isText$1 -/
namespace impl_isText_1
abbrev R := Bool
noncomputable def m (N : Nat) (a0 : ByteArray) : Option R :=
  some (decide ((a0.size : Int) > (65536:Int)))
@[reducible] noncomputable def sp (N : Nat) : Spec E := { ps := [.val .str], rs := [.bool], own := true, dp := false, R := R, fn := fun x => m N x.1, res := fun r => (r, ()), out := fun r => ((), ()), shut := fun a b => a.1, res_shut := fun _ _ => rfl, out_shut := fun _ _ => rfl }
end impl_isText_1
/-! ### slices_IndexFunc_string_string__impl_isText_1: slices.IndexFunc[[]string,string] -/
namespace slices_IndexFunc_string_string__impl_isText_1
abbrev R := Int
noncomputable def step2 (N : Nat) (a0 : List ByteArray) (rec : (Int × Int) → Option R) : (Int × Int) → Option R
  | (v1, v2) =>
    bif (decide (v2 < v1)) then
      bif (decide (0 ≤ v2)) then
      bif (decide (v2 < (a0.length : Int))) then
      ob (impl_isText_1.m N (a0.getD (Int.toNat v2) ByteArray.empty)) fun y1 =>
      bif y1 then
        some v2
      else
      rec (v1, (w64 (v2 + (1:Int))))
      else none
      else none
    else
    some (-1:Int)
noncomputable def lp2 (N : Nat) (a0 : List ByteArray) : (Int × Int) → Option R :=
  miter (fun rec => step2 N a0 rec) N
noncomputable def m (N : Nat) (a0 : List ByteArray) : Option R :=
  lp2 N a0 ((a0.length : Int), (0:Int))
@[reducible] noncomputable def sp (N : Nat) : Spec E := { ps := [.val (.slice 9 .str), .clo 134 []], rs := [(.int .i64)], own := true, dp := false, R := R, fn := fun x => m N x.1, res := fun r => (r, ()), out := fun r => ((), (), ()), shut := fun a b => a.1, res_shut := fun _ _ => rfl, out_shut := fun _ _ => rfl }
end slices_IndexFunc_string_string__impl_isText_1
/-! ### slices_ContainsFunc_string_string__impl_isText_1: slices.ContainsFunc[[]string,string] -/
namespace slices_ContainsFunc_string_string__impl_isText_1
abbrev R := Bool
noncomputable def m (N : Nat) (a0 : List ByteArray) : Option R :=
  ob (slices_IndexFunc_string_string__impl_isText_1.m N a0) fun y1 =>
  some (decide (y1 ≥ (0:Int)))
@[reducible] noncomputable def sp (N : Nat) : Spec E := { ps := [.val (.slice 9 .str), .clo 134 []], rs := [.bool], own := true, dp := false, R := R, fn := fun x => m N x.1, res := fun r => (r, ()), out := fun r => ((), (), ()), shut := fun a b => a.1, res_shut := fun _ _ => rfl, out_shut := fun _ _ => rfl }
end slices_ContainsFunc_string_string__impl_isText_1
/-! ### impl_isText: loop.example/g00220/impl.isText -/
namespace impl_isText
abbrev R := Bool
noncomputable def m (N : Nat) (a0 : List ByteArray) : Option R :=
  ob (slices_ContainsFunc_string_string__impl_isText_1.m N a0) fun y1 =>
  some (!y1)
@[reducible] noncomputable def sp (N : Nat) : Spec E := { ps := [.val (.slice 9 .str)], rs := [.bool], own := true, dp := false, R := R, fn := fun x => m N x.1, res := fun r => (r, ()), out := fun r => ((), ()), shut := fun a b => a.1, res_shut := fun _ _ => rfl, out_shut := fun _ _ => rfl }
end impl_isText
/-! ### impl_within: loop.example/g00220/impl.within -/
namespace impl_within
abbrev R := Bool
noncomputable def m (N : Nat) (a0 : Int) (a1 : Int) (a2 : Int) : Option R :=
  bif (decide (a0 ≥ a1)) then
    some (bif true then (decide (a0 ≤ a2)) else false)
  else
  some false
@[reducible] noncomputable def sp (N : Nat) : Spec E := { ps := [.val (.int .i64), .val (.int .i64), .val (.int .i64)], rs := [.bool], own := true, dp := false, R := R, fn := fun x => m N x.1 x.2.1 x.2.2.1, res := fun r => (r, ()), out := fun r => ((), (), (), ()), shut := fun a b => a.1, res_shut := fun _ _ => rfl, out_shut := fun _ _ => rfl }
end impl_within
/-! ### impl_isNumber: loop.example/g00220/impl.isNumber -/
namespace impl_isNumber
abbrev R := Bool
noncomputable def m (N : Nat) (a0 : Int) : Option R :=
  ob (impl_within.m N a0 (0:Int) (6:Int)) fun y1 =>
  some y1
@[reducible] noncomputable def sp (N : Nat) : Spec E := { ps := [.val (.int .i64)], rs := [.bool], own := true, dp := false, R := R, fn := fun x => m N x.1, res := fun r => (r, ()), out := fun r => ((), ()), shut := fun a b => a.1, res_shut := fun _ _ => rfl, out_shut := fun _ _ => rfl }
end impl_isNumber
/-! ### impl_areNumbers_1: loop.example/g00220/impl.areNumbers$1 -/
namespace impl_areNumbers_1
abbrev R := Bool
noncomputable def m (N : Nat) (a0 : Int) : Option R :=
  ob (impl_within.m N a0 (0:Int) (6:Int)) fun y1 =>
  some (!y1)
@[reducible] noncomputable def sp (N : Nat) : Spec E := { ps := [.val (.int .i64)], rs := [.bool], own := true, dp := false, R := R, fn := fun x => m N x.1, res := fun r => (r, ()), out := fun r => ((), ()), shut := fun a b => a.1, res_shut := fun _ _ => rfl, out_shut := fun _ _ => rfl }
end impl_areNumbers_1
/-! ### slices_IndexFunc_int_int__impl_areNumbers_1: slices.IndexFunc[[]int,int] -/
namespace slices_IndexFunc_int_int__impl_areNumbers_1
abbrev R := Int
noncomputable def step2 (N : Nat) (a0 : List Int) (rec : (Int × Int) → Option R) : (Int × Int) → Option R
  | (v1, v2) =>
    bif (decide (v2 < v1)) then
      bif (decide (0 ≤ v2)) then
      bif (decide (v2 < (a0.length : Int))) then
      ob (impl_areNumbers_1.m N (a0.getD (Int.toNat v2) (0:Int))) fun y1 =>
      bif y1 then
        some v2
      else
      rec (v1, (w64 (v2 + (1:Int))))
      else none
      else none
    else
    some (-1:Int)
noncomputable def lp2 (N : Nat) (a0 : List Int) : (Int × Int) → Option R :=
  miter (fun rec => step2 N a0 rec) N
noncomputable def m (N : Nat) (a0 : List Int) : Option R :=
  lp2 N a0 ((a0.length : Int), (0:Int))
@[reducible] noncomputable def sp (N : Nat) : Spec E := { ps := [.val (.slice 3 (.int .i64)), .clo 125 []], rs := [(.int .i64)], own := true, dp := false, R := R, fn := fun x => m N x.1, res := fun r => (r, ()), out := fun r => ((), (), ()), shut := fun a b => a.1, res_shut := fun _ _ => rfl, out_shut := fun _ _ => rfl }
end slices_IndexFunc_int_int__impl_areNumbers_1
/-! ### slices_ContainsFunc_int_int__impl_areNumbers_1: slices.ContainsFunc[[]int,int] -/
namespace slices_ContainsFunc_int_int__impl_areNumbers_1
abbrev R := Bool
noncomputable def m (N : Nat) (a0 : List Int) : Option R :=
  ob (slices_IndexFunc_int_int__impl_areNumbers_1.m N a0) fun y1 =>
  some (decide (y1 ≥ (0:Int)))
@[reducible] noncomputable def sp (N : Nat) : Spec E := { ps := [.val (.slice 3 (.int .i64)), .clo 125 []], rs := [.bool], own := true, dp := false, R := R, fn := fun x => m N x.1, res := fun r => (r, ()), out := fun r => ((), (), ()), shut := fun a b => a.1, res_shut := fun _ _ => rfl, out_shut := fun _ _ => rfl }
end slices_ContainsFunc_int_int__impl_areNumbers_1
/-! ### impl_areNumbers: loop.example/g00220/impl.areNumbers -/
namespace impl_areNumbers
abbrev R := Bool
noncomputable def m (N : Nat) (a0 : List Int) : Option R :=
  ob (slices_ContainsFunc_int_int__impl_areNumbers_1.m N a0) fun y1 =>
  some (!y1)
@[reducible] noncomputable def sp (N : Nat) : Spec E := { ps := [.val (.slice 3 (.int .i64))], rs := [.bool], own := true, dp := false, R := R, fn := fun x => m N x.1, res := fun r => (r, ()), out := fun r => ((), ()), shut := fun a b => a.1, res_shut := fun _ _ => rfl, out_shut := fun _ _ => rfl }
end impl_areNumbers
/-! ### impl_areRising: loop.example/g00220/impl.areRising -/
namespace impl_areRising
abbrev R := Bool
noncomputable def step2 (N : Nat) (a0 : List Int) (rec : Int → Option R) : Int → Option R
  | v1 =>
    bif (decide (v1 < (a0.length : Int))) then
      bif (decide (0 ≤ (w64 (v1 - (1:Int))))) then
      bif (decide ((w64 (v1 - (1:Int))) < (a0.length : Int))) then
      bif (decide (0 ≤ v1)) then
      bif (decide (v1 < (a0.length : Int))) then
      bif (decide ((a0.getD (Int.toNat (w64 (v1 - (1:Int)))) (0:Int)) ≥ (a0.getD (Int.toNat v1) (0:Int)))) then
        some false
      else
      rec (w64 (v1 + (1:Int)))
      else none
      else none
      else none
      else none
    else
    some true
noncomputable def lp2 (N : Nat) (a0 : List Int) : Int → Option R :=
  miter (fun rec => step2 N a0 rec) N
noncomputable def m (N : Nat) (a0 : List Int) : Option R :=
  lp2 N a0 (1:Int)
@[reducible] noncomputable def sp (N : Nat) : Spec E := { ps := [.val (.slice 3 (.int .i64))], rs := [.bool], own := true, dp := false, R := R, fn := fun x => m N x.1, res := fun r => (r, ()), out := fun r => ((), ()), shut := fun a b => a.1, res_shut := fun _ _ => rfl, out_shut := fun _ _ => rfl }
end impl_areRising
/-! ### impl_membersOK: loop.example/g00220/impl.membersOK -/
namespace impl_membersOK
abbrev R := Bool
noncomputable def m (N : Nat) (a0 : List Int) : Option R :=
  bif (decide ((a0.length : Int) > (0:Int))) then
    ob (impl_areNumbers.m N a0) fun y1 =>
    bif (bif true then y1 else false) then
      ob (impl_areRising.m N a0) fun y2 =>
      some (bif true then y2 else false)
    else
    some false
  else
  some false
@[reducible] noncomputable def sp (N : Nat) : Spec E := { ps := [.val (.slice 3 (.int .i64))], rs := [.bool], own := true, dp := false, R := R, fn := fun x => m N x.1, res := fun r => (r, ()), out := fun r => ((), ()), shut := fun a b => a.1, res_shut := fun _ _ => rfl, out_shut := fun _ _ => rfl }
end impl_membersOK
/-! ### impl_readMembers: loop.example/g00220/impl.readMembers -/
namespace impl_readMembers
abbrev R := (List Int) × Bool
noncomputable def step3 (N : Nat) (a0 : ByteArray) (rec : (Int × Int × (List Int)) → Option R) : (Int × Int × (List Int)) → Option R
  | (v1, v2, v3) =>
    bif (decide (v2 < v1)) then
      bif (decide (0 ≤ v2)) then
      bif (decide (v2 < (a0.size : Int))) then
      bif (room (v3.length + ([(w64 (sb a0 v2))]).length) 8) then
      rec (v1, (w64 (v2 + (1:Int))), (v3 ++ [(w64 (sb a0 v2))]))
      else none
      else none
      else none
    else
    ob (impl_membersOK.m N v3) fun y1 =>
    some (v3, y1)
noncomputable def lp3 (N : Nat) (a0 : ByteArray) : (Int × Int × (List Int)) → Option R :=
  miter (fun rec => step3 N a0 rec) N
noncomputable def m (N : Nat) (a0 : ByteArray) : Option R :=
  lp3 N a0 ((a0.size : Int), (0:Int), ([] : List Int))
@[reducible] noncomputable def sp (N : Nat) : Spec E := { ps := [.val .str], rs := [(.slice 3 (.int .i64)), .bool], own := true, dp := false, R := R, fn := fun x => m N x.1, res := fun r => (r.1, r.2, ()), out := fun r => ((), ()), shut := fun a b => (a.1, a.2.1), res_shut := fun _ _ => rfl, out_shut := fun _ _ => rfl }
end impl_readMembers
/-! ### impl_entryOK: loop.example/g00220/impl.entryOK -/
namespace impl_entryOK
abbrev R := Bool
noncomputable def m (N : Nat) (a0 : Entry) : Option R :=
  ob (impl_within.m N a0.Term (1:Int) (1000000:Int)) fun y1 =>
  bif (!y1) then
    some false
  else
  bif (a0.Kind == (0:Int)) then
    some (seq a0.Data ByteArray.empty)
  else
  bif (a0.Kind == (1:Int)) then
    ob (impl_within.m N (a0.Data.size : Int) (1:Int) (100:Int)) fun y2 =>
    some y2
  else
  bif (a0.Kind == (2:Int)) then
    ob (impl_readMembers.m N a0.Data) fun y3 =>
    some y3.2
  else
  some false
@[reducible] noncomputable def sp (N : Nat) : Spec E := { ps := [.val (.st 96)], rs := [.bool], own := true, dp := false, R := R, fn := fun x => m N x.1, res := fun r => (r, ()), out := fun r => ((), ()), shut := fun a b => a.1, res_shut := fun _ _ => rfl, out_shut := fun _ _ => rfl }
end impl_entryOK
/-! ### impl_logOK: loop.example/g00220/impl.logOK -/
namespace impl_logOK
abbrev R := Bool
noncomputable def step2 (N : Nat) (a0 : List Entry) (a1 : Int) (rec : (Int × Int) → Option R) : (Int × Int) → Option R
  | (v3, v4) =>
    bif (decide (v4 < v3)) then
      bif (decide (0 ≤ v4)) then
      bif (decide (v4 < (a0.length : Int))) then
      ob (impl_entryOK.m N (a0.getD (Int.toNat v4) Entry.dz)) fun y1 =>
      bif (!y1) then
        some false
      else
      bif (bif false then true else (decide ((a0.getD (Int.toNat v4) Entry.dz).Term > a1))) then
        some false
      else
      bif (decide (v4 > (0:Int))) then
        bif (decide (0 ≤ (w64 (v4 - (1:Int))))) then
        bif (decide ((w64 (v4 - (1:Int))) < (a0.length : Int))) then
        (let w2 : Bool := (bif false then true else (bif true then (decide ((a0.getD (Int.toNat (w64 (v4 - (1:Int)))) Entry.dz).Term > (a0.getD (Int.toNat v4) Entry.dz).Term)) else false))
        bif w2 then
          some false
        else
        rec (v3, (w64 (v4 + (1:Int)))))
        else none
        else none
      else
      bif (bif false then true else false) then
        some false
      else
      rec (v3, (w64 (v4 + (1:Int))))
      else none
      else none
    else
    some (decide ((a0.length : Int) ≤ (60:Int)))
noncomputable def lp2 (N : Nat) (a0 : List Entry) (a1 : Int) : (Int × Int) → Option R :=
  miter (fun rec => step2 N a0 a1 rec) N
noncomputable def m (N : Nat) (a0 : List Entry) (a1 : Int) : Option R :=
  lp2 N a0 a1 ((a0.length : Int), (0:Int))
@[reducible] noncomputable def sp (N : Nat) : Spec E := { ps := [.val (.slice 96 (.st 96)), .val (.int .i64)], rs := [.bool], own := true, dp := false, R := R, fn := fun x => m N x.1 x.2.1, res := fun r => (r, ()), out := fun r => ((), (), ()), shut := fun a b => a.1, res_shut := fun _ _ => rfl, out_shut := fun _ _ => rfl }
end impl_logOK
/-! ### impl_StateOK: loop.example/g00220/impl.StateOK -/
namespace impl_StateOK
abbrev R := Bool
noncomputable def m (N : Nat) (a0 : State) : Option R :=
  ob (impl_within.m N a0.Term (0:Int) (1000000:Int)) fun y1 =>
  bif y1 then
    ob (impl_within.m N a0.Vote (-1:Int) (6:Int)) fun y2 =>
    bif (bif true then y2 else false) then
      ob (impl_logOK.m N a0.Log a0.Term) fun y3 =>
      some (bif true then y3 else false)
    else
    some false
  else
  some false
@[reducible] noncomputable def sp (N : Nat) : Spec E := { ps := [.val (.st 86)], rs := [.bool], own := true, dp := false, R := R, fn := fun x => m N x.1, res := fun r => (r, ()), out := fun r => ((), ()), shut := fun a b => a.1, res_shut := fun _ _ => rfl, out_shut := fun _ _ => rfl }
end impl_StateOK
/-! ### impl_reachOK: loop.example/g00220/impl.reachOK -/
namespace impl_reachOK
abbrev R := Bool
noncomputable def step4 (N : Nat) (a0 : List Int) (a1 : List Int) (a2 : Int) (rec : (Int × Int) → Option R) : (Int × Int) → Option R
  | (v3, v4) =>
    bif (decide (v4 < v3)) then
      bif (decide (0 ≤ v4)) then
      bif (decide (v4 < (a0.length : Int))) then
      ob (impl_within.m N (a0.getD (Int.toNat v4) (0:Int)) (1:Int) (w64 (a2 + (1:Int)))) fun y1 =>
      bif (!y1) then
        some false
      else
      bif (decide (0 ≤ v4)) then
      bif (decide (v4 < (a1.length : Int))) then
      bif (decide (0 ≤ v4)) then
      bif (decide (v4 < (a0.length : Int))) then
      ob (impl_within.m N (a1.getD (Int.toNat v4) (0:Int)) (0:Int) (w64 ((a0.getD (Int.toNat v4) (0:Int)) - (1:Int)))) fun y2 =>
      bif (bif false then true else (!y2)) then
        some false
      else
      rec (v3, (w64 (v4 + (1:Int))))
      else none
      else none
      else none
      else none
      else none
      else none
    else
    some true
noncomputable def lp4 (N : Nat) (a0 : List Int) (a1 : List Int) (a2 : Int) : (Int × Int) → Option R :=
  miter (fun rec => step4 N a0 a1 a2 rec) N
noncomputable def m (N : Nat) (a0 : List Int) (a1 : List Int) (a2 : Int) : Option R :=
  bif ((a0.length : Int) != (7:Int)) then
    some false
  else
  bif (bif false then true else ((a1.length : Int) != (7:Int))) then
    some false
  else
  lp4 N a0 a1 a2 ((a0.length : Int), (0:Int))
@[reducible] noncomputable def sp (N : Nat) : Spec E := { ps := [.val (.slice 3 (.int .i64)), .val (.slice 3 (.int .i64)), .val (.int .i64)], rs := [.bool], own := true, dp := false, R := R, fn := fun x => m N x.1 x.2.1 x.2.2.1, res := fun r => (r, ()), out := fun r => ((), (), (), ()), shut := fun a b => a.1, res_shut := fun _ _ => rfl, out_shut := fun _ _ => rfl }
end impl_reachOK
/-! ### impl_NodeOK: loop.example/g00220/impl.NodeOK -/
namespace impl_NodeOK
abbrev R := Bool
noncomputable def m (N : Nat) (a0 : Node) : Option R :=
  ob (impl_isNumber.m N a0.Id) fun y1 =>
  bif (!y1) then
    some false
  else
  ob (impl_StateOK.m N (State.mk a0.Term a0.Vote a0.Log)) fun y2 =>
  bif (bif false then true else (!y2)) then
    some false
  else
  ob (impl_membersOK.m N a0.Start) fun y3 =>
  bif (bif false then true else (!y3)) then
    some false
  else
  ob (impl_areNumbers.m N a0.Votes) fun y4 =>
  bif (bif false then true else (!y4)) then
    some false
  else
  ob (impl_areRising.m N a0.Votes) fun y5 =>
  bif (bif false then true else (!y5)) then
    some false
  else
  ob (impl_within.m N a0.Role (0:Int) (2:Int)) fun y6 =>
  bif (!y6) then
    some false
  else
  bif (!a0.Up) then
    bif (bif false then true else (bif true then (a0.Role != (0:Int)) else false)) then
      some false
    else
    ob (impl_reachOK.m N a0.Next a0.Match (a0.Log.length : Int)) fun y7 =>
    bif (bif false then true else (!y7)) then
      some false
    else
    ob (impl_within.m N a0.Commit (0:Int) (a0.Log.length : Int)) fun y8 =>
    bif y8 then
      ob (impl_within.m N a0.Elapsed (0:Int) (1000:Int)) fun y9 =>
      bif (bif true then y9 else false) then
        ob (impl_within.m N a0.Wait (5:Int) (100:Int)) fun y10 =>
        some (bif true then y10 else false)
      else
      some false
    else
    some false
  else
  bif (bif false then true else false) then
    some false
  else
  ob (impl_reachOK.m N a0.Next a0.Match (a0.Log.length : Int)) fun y11 =>
  bif (bif false then true else (!y11)) then
    some false
  else
  ob (impl_within.m N a0.Commit (0:Int) (a0.Log.length : Int)) fun y12 =>
  bif y12 then
    ob (impl_within.m N a0.Elapsed (0:Int) (1000:Int)) fun y13 =>
    bif (bif true then y13 else false) then
      ob (impl_within.m N a0.Wait (5:Int) (100:Int)) fun y14 =>
      some (bif true then y14 else false)
    else
    some false
  else
  some false
@[reducible] noncomputable def sp (N : Nat) : Spec E := { ps := [.val (.st 25)], rs := [.bool], own := true, dp := false, R := R, fn := fun x => m N x.1, res := fun r => (r, ()), out := fun r => ((), ()), shut := fun a b => a.1, res_shut := fun _ _ => rfl, out_shut := fun _ _ => rfl }
end impl_NodeOK
/-! ### slices_Clone_impl_Entry_impl_Entry: slices.Clone[[]loop.example/g00220/impl.Entry,loop.example/g00220/impl.Entry] -/
namespace slices_Clone_impl_Entry_impl_Entry
abbrev R := (List Entry)
noncomputable def m (N : Nat) (a0 : List Entry) : Option R :=
  amb (a0.isEmpty) true
    (some ([] : List Entry))
    (bif (room (([] : List Entry).length + a0.length) 32) then
    some (([] : List Entry) ++ a0)
    else none)
@[reducible] noncomputable def sp (N : Nat) : Spec E := { ps := [.val (.slice 96 (.st 96))], rs := [(.slice 96 (.st 96))], own := true, dp := false, R := R, fn := fun x => m N x.1, res := fun r => (r, ()), out := fun r => ((), ()), shut := fun a b => a.1, res_shut := fun _ _ => rfl, out_shut := fun _ _ => rfl }
end slices_Clone_impl_Entry_impl_Entry
/-! ### slices_Clone_int_int: slices.Clone[[]int,int] -/
namespace slices_Clone_int_int
abbrev R := (List Int)
noncomputable def m (N : Nat) (a0 : List Int) : Option R :=
  amb (a0.isEmpty) true
    (some ([] : List Int))
    (bif (room (([] : List Int).length + a0.length) 8) then
    some (([] : List Int) ++ a0)
    else none)
@[reducible] noncomputable def sp (N : Nat) : Spec E := { ps := [.val (.slice 3 (.int .i64))], rs := [(.slice 3 (.int .i64))], own := true, dp := false, R := R, fn := fun x => m N x.1, res := fun r => (r, ()), out := fun r => ((), ()), shut := fun a b => a.1, res_shut := fun _ _ => rfl, out_shut := fun _ _ => rfl }
end slices_Clone_int_int
/-! ### impl_copyNode: loop.example/g00220/impl.copyNode -/
namespace impl_copyNode
abbrev R := Node
noncomputable def m (N : Nat) (a0 : Node) : Option R :=
  ob (slices_Clone_impl_Entry_impl_Entry.m N a0.Log) fun y1 =>
  ob (slices_Clone_int_int.m N a0.Start) fun y2 =>
  ob (slices_Clone_int_int.m N a0.Votes) fun y3 =>
  ob (slices_Clone_int_int.m N a0.Next) fun y4 =>
  ob (slices_Clone_int_int.m N a0.Match) fun y5 =>
  some (Node.mk a0.Id a0.Term a0.Vote y1 y2 a0.Role y3 y4 y5 a0.Commit a0.Elapsed a0.Wait a0.Up)
@[reducible] noncomputable def sp (N : Nat) : Spec E := { ps := [.val (.st 25)], rs := [(.st 25)], own := true, dp := false, R := R, fn := fun x => m N x.1, res := fun r => (r, ()), out := fun r => ((), ()), shut := fun a b => a.1, res_shut := fun _ _ => rfl, out_shut := fun _ _ => rfl }
end impl_copyNode
/-! ### impl_Node_termAt: (loop.example/g00220/impl.Node).termAt -/
namespace impl_Node_termAt
abbrev R := Int
noncomputable def m (N : Nat) (a0 : Node) (a1 : Int) : Option R :=
  bif (a1 == (0:Int)) then
    some (0:Int)
  else
  bif (decide (0 ≤ (w64 (a1 - (1:Int))))) then
  bif (decide ((w64 (a1 - (1:Int))) < (a0.Log.length : Int))) then
  some ((a0.Log.getD (Int.toNat (w64 (a1 - (1:Int)))) Entry.dz).Term)
  else none
  else none
@[reducible] noncomputable def sp (N : Nat) : Spec E := { ps := [.val (.st 25), .val (.int .i64)], rs := [(.int .i64)], own := true, dp := false, R := R, fn := fun x => m N x.1 x.2.1, res := fun r => (r, ()), out := fun r => ((), (), ()), shut := fun a b => a.1, res_shut := fun _ _ => rfl, out_shut := fun _ _ => rfl }
end impl_Node_termAt
/-! ### impl_Node_members: (impl.Node).members, by hand -/
namespace impl_Node_members
abbrev R := List Int
noncomputable def m (N : Nat) (a0 : Node) : Option R :=
  bif decide (a0.Log.length ≤ 1048576000) && a0.Log.all (fun e => !(e.Kind == 2) || (impl_readMembers.m N e.Data).isSome) then
    match a0.Log.reverse.find? (fun e => e.Kind == 2) with
    | some e => (impl_readMembers.m N e.Data).map (·.1)
    | none => slices_Clone_int_int.m N a0.Start
  else none
@[reducible] noncomputable def sp (N : Nat) : Spec E := { ps := [.val (.st 25)], rs := [(.slice 3 (.int .i64))], own := true, dp := false, R := R, fn := fun x => m N x.1, res := fun r => (r, ()), out := fun r => ((), ()), shut := fun a b => a.1, res_shut := fun _ _ => rfl, out_shut := fun _ _ => rfl }
end impl_Node_members
/-! ### impl_worker_commit_1: (*loop.example/g00220/impl.worker).commit$1 -/
namespace impl_worker_commit_1
abbrev R := Bool
noncomputable def m (N : Nat) (a0 : Int) (a1 : worker) (a2 : Int) : Option R :=
  bif (a0 == a1.Node.Id) then
    some true
  else
  bif (decide (0 ≤ a0)) then
  bif (decide (a0 < (a1.Node.Match.length : Int))) then
  some (bif false then true else (decide ((a1.Node.Match.getD (Int.toNat a0) (0:Int)) ≥ a2)))
  else none
  else none
@[reducible] noncomputable def sp (N : Nat) : Spec E := { ps := [.val (.int .i64), .cap (.rpp (.st 107)), .cap (.rb (.int .i64))], rs := [.bool], own := true, dp := false, R := R, fn := fun x => m N x.1 x.2.1 x.2.2.1, res := fun r => (r, ()), out := fun r => ((), (), (), ()), shut := fun a b => a.1, res_shut := fun _ _ => rfl, out_shut := fun _ _ => rfl }
end impl_worker_commit_1
/-! ### impl_worker_isMost__impl_worker_commit_1_: (*loop.example/g00220/impl.worker).isMost -/
namespace impl_worker_isMost__impl_worker_commit_1_
abbrev R := Bool
noncomputable def step3 (N : Nat) (a0 : worker) (a1_0 : worker) (a1_1 : Int) (rec : (Int × Int × Int × (List Int)) → Option R) : (Int × Int × Int × (List Int)) → Option R
  | (v0, v1, v2, v18) =>
    bif (decide (v2 < v1)) then
      bif (decide (0 ≤ v2)) then
      bif (decide (v2 < (v18.length : Int))) then
      ob (impl_worker_commit_1.m N (v18.getD (Int.toNat v2) (0:Int)) (worker.mk (Node.mk a1_0.Node.Id a1_0.Node.Term a1_0.Node.Vote a1_0.Node.Log a1_0.Node.Start a1_0.Node.Role a1_0.Node.Votes a1_0.Node.Next a1_0.Node.Match a1_0.Node.Commit a1_0.Node.Elapsed a1_0.Node.Wait a1_0.Node.Up) a1_0.sent) a1_1) fun y2 =>
      bif y2 then
        rec ((w64 (v0 + (1:Int))), v1, (w64 (v2 + (1:Int))), v18)
      else
      rec (v0, v1, (w64 (v2 + (1:Int))), v18)
      else none
      else none
    else
    some (decide ((w64 ((2:Int) * v0)) > (v18.length : Int)))
noncomputable def lp3 (N : Nat) (a0 : worker) (a1_0 : worker) (a1_1 : Int) : (Int × Int × Int × (List Int)) → Option R :=
  miter (fun rec => step3 N a0 a1_0 a1_1 rec) N
noncomputable def m (N : Nat) (a0 : worker) (a1_0 : worker) (a1_1 : Int) : Option R :=
  ob (impl_Node_members.m N (Node.mk a0.Node.Id a0.Node.Term a0.Node.Vote a0.Node.Log a0.Node.Start a0.Node.Role a0.Node.Votes a0.Node.Next a0.Node.Match a0.Node.Commit a0.Node.Elapsed a0.Node.Wait a0.Node.Up)) fun y1 =>
  lp3 N a0 a1_0 a1_1 ((0:Int), (y1.length : Int), (0:Int), y1)
@[reducible] noncomputable def sp (N : Nat) : Spec E := { ps := [.cap (.rb (.st 107)), .clo 163 [.rpp (.st 107), .rb (.int .i64)]], rs := [.bool], own := true, dp := false, R := R, fn := fun x => m N x.1 x.2.1.1 x.2.1.2.1, res := fun r => (r, ()), out := fun r => ((), (), ()), shut := fun a b => a.1, res_shut := fun _ _ => rfl, out_shut := fun _ _ => rfl }
end impl_worker_isMost__impl_worker_commit_1_
end Mir.Y
