/- Models of functions. -/
import Derived.Test.YtbepkbaemapkjaaUE
namespace Mir.Y
set_option linter.unusedVariables false
set_option maxRecDepth 10000
open Go Go.Proofs Mir
/-! ### laws_szEntry: loop.example/g00220/laws.szEntry -/
namespace laws_szEntry
abbrev R := Int
noncomputable def m (N : Nat) (a0 : Entry) (a1 : Int) : Option R :=
  bif (decide ((w64 (a1 - (a0.Data.size : Int))) < (0:Int))) then
    some (-1:Int)
  else
  some (w64 (a1 - (a0.Data.size : Int)))
@[reducible] noncomputable def sp (N : Nat) : Spec E := { ps := [.val (.st 107), .val (.int .i64)], rs := [(.int .i64)], own := true, dp := false, R := R, fn := fun x => m N x.1 x.2.1, res := fun r => (r, ()), out := fun r => ((), (), ()), shut := fun a b => a.1, res_shut := fun _ _ => rfl, out_shut := fun _ _ => rfl }
end laws_szEntry
/-! ### laws_szEntryS: loop.example/g00220/laws.szEntryS -/
namespace laws_szEntryS
abbrev R := Int
noncomputable def step5 (N : Nat) (a0 : List Entry) (a1 : Int) (rec : (Int × Int) → Option R) : (Int × Int) → Option R
  | (v1, v2) =>
    bif (decide (v2 < (a0.length : Int))) then
      bif (decide (0 ≤ v2)) then
      bif (decide (v2 < (a0.length : Int))) then
      ob (laws_szEntry.m N (a0.getD (Int.toNat v2) Entry.dz) v1) fun y1 =>
      bif (decide (y1 < (0:Int))) then
        some (-1:Int)
      else
      rec (y1, (w64 (v2 + (1:Int))))
      else none
      else none
    else
    some v1
noncomputable def lp5 (N : Nat) (a0 : List Entry) (a1 : Int) : (Int × Int) → Option R :=
  miter (fun rec => step5 N a0 a1 rec) N
noncomputable def m (N : Nat) (a0 : List Entry) (a1 : Int) : Option R :=
  bif (decide ((w64 (a1 - (a0.length : Int))) < (0:Int))) then
    some (-1:Int)
  else
  lp5 N a0 a1 ((w64 (a1 - (a0.length : Int))), (0:Int))
@[reducible] noncomputable def sp (N : Nat) : Spec E := { ps := [.val (.slice 107 (.st 107)), .val (.int .i64)], rs := [(.int .i64)], own := true, dp := false, R := R, fn := fun x => m N x.1 x.2.1, res := fun r => (r, ()), out := fun r => ((), (), ()), shut := fun a b => a.1, res_shut := fun _ _ => rfl, out_shut := fun _ _ => rfl }
end laws_szEntryS
/-! ### laws_szIntS: loop.example/g00220/laws.szIntS -/
namespace laws_szIntS
abbrev R := Int
noncomputable def m (N : Nat) (a0 : List Int) (a1 : Int) : Option R :=
  bif (decide ((w64 (a1 - (a0.length : Int))) < (0:Int))) then
    some (-1:Int)
  else
  some (w64 (a1 - (a0.length : Int)))
@[reducible] noncomputable def sp (N : Nat) : Spec E := { ps := [.val (.slice 3 (.int .i64)), .val (.int .i64)], rs := [(.int .i64)], own := true, dp := false, R := R, fn := fun x => m N x.1 x.2.1, res := fun r => (r, ()), out := fun r => ((), (), ()), shut := fun a b => a.1, res_shut := fun _ _ => rfl, out_shut := fun _ _ => rfl }
end laws_szIntS
/-! ### laws_szNode: loop.example/g00220/laws.szNode -/
namespace laws_szNode
abbrev R := Int
noncomputable def m (N : Nat) (a0 : Node) (a1 : Int) : Option R :=
  ob (laws_szEntryS.m N a0.Log a1) fun y1 =>
  bif (decide (y1 < (0:Int))) then
    some (-1:Int)
  else
  ob (laws_szIntS.m N a0.Start y1) fun y2 =>
  bif (decide (y2 < (0:Int))) then
    some (-1:Int)
  else
  ob (laws_szIntS.m N a0.Votes y2) fun y3 =>
  bif (decide (y3 < (0:Int))) then
    some (-1:Int)
  else
  ob (laws_szIntS.m N a0.Next y3) fun y4 =>
  bif (decide (y4 < (0:Int))) then
    some (-1:Int)
  else
  ob (laws_szIntS.m N a0.Match y4) fun y5 =>
  bif (decide (y5 < (0:Int))) then
    some (-1:Int)
  else
  some y5
@[reducible] noncomputable def sp (N : Nat) : Spec E := { ps := [.val (.st 99), .val (.int .i64)], rs := [(.int .i64)], own := true, dp := false, R := R, fn := fun x => m N x.1 x.2.1, res := fun r => (r, ()), out := fun r => ((), (), ()), shut := fun a b => a.1, res_shut := fun _ _ => rfl, out_shut := fun _ _ => rfl }
end laws_szNode
/-! ### laws_szNodeS: loop.example/g00220/laws.szNodeS -/
namespace laws_szNodeS
abbrev R := Int
noncomputable def step5 (N : Nat) (a0 : List Node) (a1 : Int) (rec : (Int × Int) → Option R) : (Int × Int) → Option R
  | (v1, v2) =>
    bif (decide (v2 < (a0.length : Int))) then
      bif (decide (0 ≤ v2)) then
      bif (decide (v2 < (a0.length : Int))) then
      ob (laws_szNode.m N (a0.getD (Int.toNat v2) Node.dz) v1) fun y1 =>
      bif (decide (y1 < (0:Int))) then
        some (-1:Int)
      else
      rec (y1, (w64 (v2 + (1:Int))))
      else none
      else none
    else
    some v1
noncomputable def lp5 (N : Nat) (a0 : List Node) (a1 : Int) : (Int × Int) → Option R :=
  miter (fun rec => step5 N a0 a1 rec) N
noncomputable def m (N : Nat) (a0 : List Node) (a1 : Int) : Option R :=
  bif (decide ((w64 (a1 - (a0.length : Int))) < (0:Int))) then
    some (-1:Int)
  else
  lp5 N a0 a1 ((w64 (a1 - (a0.length : Int))), (0:Int))
@[reducible] noncomputable def sp (N : Nat) : Spec E := { ps := [.val (.slice 99 (.st 99)), .val (.int .i64)], rs := [(.int .i64)], own := true, dp := false, R := R, fn := fun x => m N x.1 x.2.1, res := fun r => (r, ()), out := fun r => ((), (), ()), shut := fun a b => a.1, res_shut := fun _ _ => rfl, out_shut := fun _ _ => rfl }
end laws_szNodeS
/-! ### laws_szMessage: loop.example/g00220/laws.szMessage -/
namespace laws_szMessage
abbrev R := Int
noncomputable def m (N : Nat) (a0 : Message) (a1 : Int) : Option R :=
  ob (laws_szEntryS.m N a0.Entries a1) fun y1 =>
  bif (decide (y1 < (0:Int))) then
    some (-1:Int)
  else
  some y1
@[reducible] noncomputable def sp (N : Nat) : Spec E := { ps := [.val (.st 102), .val (.int .i64)], rs := [(.int .i64)], own := true, dp := false, R := R, fn := fun x => m N x.1 x.2.1, res := fun r => (r, ()), out := fun r => ((), (), ()), shut := fun a b => a.1, res_shut := fun _ _ => rfl, out_shut := fun _ _ => rfl }
end laws_szMessage
/-! ### laws_szMessageS: loop.example/g00220/laws.szMessageS -/
namespace laws_szMessageS
abbrev R := Int
noncomputable def step5 (N : Nat) (a0 : List Message) (a1 : Int) (rec : (Int × Int) → Option R) : (Int × Int) → Option R
  | (v1, v2) =>
    bif (decide (v2 < (a0.length : Int))) then
      bif (decide (0 ≤ v2)) then
      bif (decide (v2 < (a0.length : Int))) then
      ob (laws_szMessage.m N (a0.getD (Int.toNat v2) Message.dz) v1) fun y1 =>
      bif (decide (y1 < (0:Int))) then
        some (-1:Int)
      else
      rec (y1, (w64 (v2 + (1:Int))))
      else none
      else none
    else
    some v1
noncomputable def lp5 (N : Nat) (a0 : List Message) (a1 : Int) : (Int × Int) → Option R :=
  miter (fun rec => step5 N a0 a1 rec) N
noncomputable def m (N : Nat) (a0 : List Message) (a1 : Int) : Option R :=
  bif (decide ((w64 (a1 - (a0.length : Int))) < (0:Int))) then
    some (-1:Int)
  else
  lp5 N a0 a1 ((w64 (a1 - (a0.length : Int))), (0:Int))
@[reducible] noncomputable def sp (N : Nat) : Spec E := { ps := [.val (.slice 102 (.st 102)), .val (.int .i64)], rs := [(.int .i64)], own := true, dp := false, R := R, fn := fun x => m N x.1 x.2.1, res := fun r => (r, ()), out := fun r => ((), (), ()), shut := fun a b => a.1, res_shut := fun _ _ => rfl, out_shut := fun _ _ => rfl }
end laws_szMessageS
/-! ### laws_szLead: loop.example/g00220/laws.szLead -/
namespace laws_szLead
abbrev R := Int
noncomputable def m (N : Nat) (a0 : Lead) (a1 : Int) : Option R :=
  ob (laws_szEntryS.m N a0.Log a1) fun y1 =>
  bif (decide (y1 < (0:Int))) then
    some (-1:Int)
  else
  some y1
@[reducible] noncomputable def sp (N : Nat) : Spec E := { ps := [.val (.st 105), .val (.int .i64)], rs := [(.int .i64)], own := true, dp := false, R := R, fn := fun x => m N x.1 x.2.1, res := fun r => (r, ()), out := fun r => ((), (), ()), shut := fun a b => a.1, res_shut := fun _ _ => rfl, out_shut := fun _ _ => rfl }
end laws_szLead
/-! ### laws_szLeadS: loop.example/g00220/laws.szLeadS -/
namespace laws_szLeadS
abbrev R := Int
noncomputable def step5 (N : Nat) (a0 : List Lead) (a1 : Int) (rec : (Int × Int) → Option R) : (Int × Int) → Option R
  | (v1, v2) =>
    bif (decide (v2 < (a0.length : Int))) then
      bif (decide (0 ≤ v2)) then
      bif (decide (v2 < (a0.length : Int))) then
      ob (laws_szLead.m N (a0.getD (Int.toNat v2) Lead.dz) v1) fun y1 =>
      bif (decide (y1 < (0:Int))) then
        some (-1:Int)
      else
      rec (y1, (w64 (v2 + (1:Int))))
      else none
      else none
    else
    some v1
noncomputable def lp5 (N : Nat) (a0 : List Lead) (a1 : Int) : (Int × Int) → Option R :=
  miter (fun rec => step5 N a0 a1 rec) N
noncomputable def m (N : Nat) (a0 : List Lead) (a1 : Int) : Option R :=
  bif (decide ((w64 (a1 - (a0.length : Int))) < (0:Int))) then
    some (-1:Int)
  else
  lp5 N a0 a1 ((w64 (a1 - (a0.length : Int))), (0:Int))
@[reducible] noncomputable def sp (N : Nat) : Spec E := { ps := [.val (.slice 105 (.st 105)), .val (.int .i64)], rs := [(.int .i64)], own := true, dp := false, R := R, fn := fun x => m N x.1 x.2.1, res := fun r => (r, ()), out := fun r => ((), (), ()), shut := fun a b => a.1, res_shut := fun _ _ => rfl, out_shut := fun _ _ => rfl }
end laws_szLeadS
/-! ### laws_szDone: loop.example/g00220/laws.szDone -/
namespace laws_szDone
abbrev R := Int
noncomputable def m (N : Nat) (a0 : Done) (a1 : Int) : Option R :=
  ob (laws_szEntry.m N (Entry.mk a0.Entry.Term a0.Entry.Kind a0.Entry.Data) a1) fun y1 =>
  bif (decide (y1 < (0:Int))) then
    some (-1:Int)
  else
  some y1
@[reducible] noncomputable def sp (N : Nat) : Spec E := { ps := [.val (.st 109), .val (.int .i64)], rs := [(.int .i64)], own := true, dp := false, R := R, fn := fun x => m N x.1 x.2.1, res := fun r => (r, ()), out := fun r => ((), (), ()), shut := fun a b => a.1, res_shut := fun _ _ => rfl, out_shut := fun _ _ => rfl }
end laws_szDone
/-! ### laws_szDoneS: loop.example/g00220/laws.szDoneS -/
namespace laws_szDoneS
abbrev R := Int
noncomputable def step5 (N : Nat) (a0 : List Done) (a1 : Int) (rec : (Int × Int) → Option R) : (Int × Int) → Option R
  | (v1, v2) =>
    bif (decide (v2 < (a0.length : Int))) then
      bif (decide (0 ≤ v2)) then
      bif (decide (v2 < (a0.length : Int))) then
      ob (laws_szDone.m N (Done.mk ((a0.getD (Int.toNat v2) Done.dz).Node) ((a0.getD (Int.toNat v2) Done.dz).Term) ((a0.getD (Int.toNat v2) Done.dz).Index) (Entry.mk ((a0.getD (Int.toNat v2) Done.dz).Entry.Term) ((a0.getD (Int.toNat v2) Done.dz).Entry.Kind) ((a0.getD (Int.toNat v2) Done.dz).Entry.Data))) v1) fun y1 =>
      bif (decide (y1 < (0:Int))) then
        some (-1:Int)
      else
      rec (y1, (w64 (v2 + (1:Int))))
      else none
      else none
    else
    some v1
noncomputable def lp5 (N : Nat) (a0 : List Done) (a1 : Int) : (Int × Int) → Option R :=
  miter (fun rec => step5 N a0 a1 rec) N
noncomputable def m (N : Nat) (a0 : List Done) (a1 : Int) : Option R :=
  bif (decide ((w64 (a1 - (a0.length : Int))) < (0:Int))) then
    some (-1:Int)
  else
  lp5 N a0 a1 ((w64 (a1 - (a0.length : Int))), (0:Int))
@[reducible] noncomputable def sp (N : Nat) : Spec E := { ps := [.val (.slice 109 (.st 109)), .val (.int .i64)], rs := [(.int .i64)], own := true, dp := false, R := R, fn := fun x => m N x.1 x.2.1, res := fun r => (r, ()), out := fun r => ((), (), ()), shut := fun a b => a.1, res_shut := fun _ _ => rfl, out_shut := fun _ _ => rfl }
end laws_szDoneS
/-! ### laws_szGroup: loop.example/g00220/laws.szGroup -/
namespace laws_szGroup
abbrev R := Int
noncomputable def m (N : Nat) (a0 : Group) (a1 : Int) : Option R :=
  ob (laws_szNodeS.m N a0.Nodes a1) fun y1 =>
  bif (decide (y1 < (0:Int))) then
    some (-1:Int)
  else
  ob (laws_szMessageS.m N a0.Wire y1) fun y2 =>
  bif (decide (y2 < (0:Int))) then
    some (-1:Int)
  else
  ob (laws_szLeadS.m N a0.Leads y2) fun y3 =>
  bif (decide (y3 < (0:Int))) then
    some (-1:Int)
  else
  ob (laws_szDoneS.m N a0.Dones y3) fun y4 =>
  bif (decide (y4 < (0:Int))) then
    some (-1:Int)
  else
  some y4
@[reducible] noncomputable def sp (N : Nat) : Spec E := { ps := [.val (.st 27), .val (.int .i64)], rs := [(.int .i64)], own := true, dp := false, R := R, fn := fun x => m N x.1 x.2.1, res := fun r => (r, ()), out := fun r => ((), (), ()), shut := fun a b => a.1, res_shut := fun _ _ => rfl, out_shut := fun _ _ => rfl }
end laws_szGroup
/-! ### laws_toEntry: loop.example/g00220/laws.toEntry -/
namespace laws_toEntry
abbrev R := Entry
noncomputable def m (N : Nat) (a0 : Entry) : Option R :=
  some a0
@[reducible] noncomputable def sp (N : Nat) : Spec E := { ps := [.val (.st 107)], rs := [(.st 58)], own := true, dp := false, R := R, fn := fun x => m N x.1, res := fun r => (r, ()), out := fun r => ((), ()), shut := fun a b => a.1, res_shut := fun _ _ => rfl, out_shut := fun _ _ => rfl }
end laws_toEntry
/-! ### laws_toEntryS: loop.example/g00220/laws.toEntryS -/
namespace laws_toEntryS
abbrev R := (List Entry)
noncomputable def step3 (N : Nat) (a0 : List Entry) (rec : (Int × (List Entry)) → Option R) : (Int × (List Entry)) → Option R
  | (v1, v2) =>
    bif (decide (v1 < (a0.length : Int))) then
      bif (decide (0 ≤ v1)) then
      bif (decide (v1 < (a0.length : Int))) then
      ob (laws_toEntry.m N (a0.getD (Int.toNat v1) Entry.dz)) fun y1 =>
      bif (decide (0 ≤ v1)) then
      bif (decide (v1 < (v2.length : Int))) then
      rec ((w64 (v1 + (1:Int))), (v2.set (Int.toNat v1) y1))
      else none
      else none
      else none
      else none
    else
    some v2
noncomputable def lp3 (N : Nat) (a0 : List Entry) : (Int × (List Entry)) → Option R :=
  miter (fun rec => step3 N a0 rec) N
noncomputable def m (N : Nat) (a0 : List Entry) : Option R :=
  bif (decide (0 ≤ (a0.length : Int))) then
  bif (room (Int.toNat (a0.length : Int)) 32) then
  lp3 N a0 ((0:Int), (List.replicate (Int.toNat (a0.length : Int)) (Entry.mk (0:Int) (0:Int) ByteArray.empty)))
  else none
  else none
@[reducible] noncomputable def sp (N : Nat) : Spec E := { ps := [.val (.slice 107 (.st 107))], rs := [(.slice 58 (.st 58))], own := true, dp := false, R := R, fn := fun x => m N x.1, res := fun r => (r, ()), out := fun r => ((), ()), shut := fun a b => a.1, res_shut := fun _ _ => rfl, out_shut := fun _ _ => rfl }
end laws_toEntryS
/-! ### laws_toIntS: loop.example/g00220/laws.toIntS -/
namespace laws_toIntS
abbrev R := (List Int)
noncomputable def step3 (N : Nat) (a0 : List Int) (rec : (Int × (List Int)) → Option R) : (Int × (List Int)) → Option R
  | (v1, v2) =>
    bif (decide (v1 < (a0.length : Int))) then
      bif (decide (0 ≤ v1)) then
      bif (decide (v1 < (a0.length : Int))) then
      bif (decide (0 ≤ v1)) then
      bif (decide (v1 < (v2.length : Int))) then
      rec ((w64 (v1 + (1:Int))), (v2.set (Int.toNat v1) (a0.getD (Int.toNat v1) (0:Int))))
      else none
      else none
      else none
      else none
    else
    some v2
noncomputable def lp3 (N : Nat) (a0 : List Int) : (Int × (List Int)) → Option R :=
  miter (fun rec => step3 N a0 rec) N
noncomputable def m (N : Nat) (a0 : List Int) : Option R :=
  bif (decide (0 ≤ (a0.length : Int))) then
  bif (room (Int.toNat (a0.length : Int)) 8) then
  lp3 N a0 ((0:Int), (List.replicate (Int.toNat (a0.length : Int)) (0:Int)))
  else none
  else none
@[reducible] noncomputable def sp (N : Nat) : Spec E := { ps := [.val (.slice 3 (.int .i64))], rs := [(.slice 3 (.int .i64))], own := true, dp := false, R := R, fn := fun x => m N x.1, res := fun r => (r, ()), out := fun r => ((), ()), shut := fun a b => a.1, res_shut := fun _ _ => rfl, out_shut := fun _ _ => rfl }
end laws_toIntS
/-! ### laws_toNode: loop.example/g00220/laws.toNode -/
namespace laws_toNode
abbrev R := Node
noncomputable def m (N : Nat) (a0 : Node) : Option R :=
  ob (laws_toEntryS.m N a0.Log) fun y1 =>
  ob (laws_toIntS.m N a0.Start) fun y2 =>
  ob (laws_toIntS.m N a0.Votes) fun y3 =>
  ob (laws_toIntS.m N a0.Next) fun y4 =>
  ob (laws_toIntS.m N a0.Match) fun y5 =>
  some (Node.mk a0.Id a0.Term a0.Vote y1 y2 a0.Role y3 y4 y5 a0.Commit a0.Elapsed a0.Wait a0.Up)
@[reducible] noncomputable def sp (N : Nat) : Spec E := { ps := [.val (.st 99)], rs := [(.st 50)], own := true, dp := false, R := R, fn := fun x => m N x.1, res := fun r => (r, ()), out := fun r => ((), ()), shut := fun a b => a.1, res_shut := fun _ _ => rfl, out_shut := fun _ _ => rfl }
end laws_toNode
/-! ### laws_toNodeS: loop.example/g00220/laws.toNodeS -/
namespace laws_toNodeS
abbrev R := (List Node)
noncomputable def step3 (N : Nat) (a0 : List Node) (rec : (Int × (List Node)) → Option R) : (Int × (List Node)) → Option R
  | (v1, v2) =>
    bif (decide (v1 < (a0.length : Int))) then
      bif (decide (0 ≤ v1)) then
      bif (decide (v1 < (a0.length : Int))) then
      ob (laws_toNode.m N (a0.getD (Int.toNat v1) Node.dz)) fun y2 =>
      bif (decide (0 ≤ v1)) then
      bif (decide (v1 < (v2.length : Int))) then
      rec ((w64 (v1 + (1:Int))), (v2.set (Int.toNat v1) y2))
      else none
      else none
      else none
      else none
    else
    some v2
noncomputable def lp3 (N : Nat) (a0 : List Node) : (Int × (List Node)) → Option R :=
  miter (fun rec => step3 N a0 rec) N
noncomputable def m (N : Nat) (a0 : List Node) : Option R :=
  bif (decide (0 ≤ (a0.length : Int))) then
  bif (room (Int.toNat (a0.length : Int)) 184) then
  (let w1 : List Node := (List.replicate (Int.toNat (a0.length : Int)) (Node.mk (0:Int) (0:Int) (0:Int) ([] : List Entry) ([] : List Int) (0:Int) ([] : List Int) ([] : List Int) ([] : List Int) (0:Int) (0:Int) (0:Int) false))
  lp3 N a0 ((0:Int), w1))
  else none
  else none
@[reducible] noncomputable def sp (N : Nat) : Spec E := { ps := [.val (.slice 99 (.st 99))], rs := [(.slice 50 (.st 50))], own := true, dp := true, R := R, fn := fun x => m N x.1, res := fun r => (r, ()), out := fun r => ((), ()), shut := fun a b => a.1, res_shut := fun _ _ => rfl, out_shut := fun _ _ => rfl }
end laws_toNodeS
/-! ### laws_toMessage: loop.example/g00220/laws.toMessage -/
namespace laws_toMessage
abbrev R := Message
noncomputable def m (N : Nat) (a0 : Message) : Option R :=
  ob (laws_toEntryS.m N a0.Entries) fun y1 =>
  some (Message.mk a0.Kind a0.From a0.To a0.Term a0.Index a0.LogTerm a0.Commit y1 a0.Ok)
@[reducible] noncomputable def sp (N : Nat) : Spec E := { ps := [.val (.st 102)], rs := [(.st 113)], own := true, dp := false, R := R, fn := fun x => m N x.1, res := fun r => (r, ()), out := fun r => ((), ()), shut := fun a b => a.1, res_shut := fun _ _ => rfl, out_shut := fun _ _ => rfl }
end laws_toMessage
/-! ### laws_toMessageS: loop.example/g00220/laws.toMessageS -/
namespace laws_toMessageS
abbrev R := (List Message)
noncomputable def step3 (N : Nat) (a0 : List Message) (rec : (Int × (List Message)) → Option R) : (Int × (List Message)) → Option R
  | (v1, v2) =>
    bif (decide (v1 < (a0.length : Int))) then
      bif (decide (0 ≤ v1)) then
      bif (decide (v1 < (a0.length : Int))) then
      ob (laws_toMessage.m N (a0.getD (Int.toNat v1) Message.dz)) fun y1 =>
      bif (decide (0 ≤ v1)) then
      bif (decide (v1 < (v2.length : Int))) then
      rec ((w64 (v1 + (1:Int))), (v2.set (Int.toNat v1) y1))
      else none
      else none
      else none
      else none
    else
    some v2
noncomputable def lp3 (N : Nat) (a0 : List Message) : (Int × (List Message)) → Option R :=
  miter (fun rec => step3 N a0 rec) N
noncomputable def m (N : Nat) (a0 : List Message) : Option R :=
  bif (decide (0 ≤ (a0.length : Int))) then
  bif (room (Int.toNat (a0.length : Int)) 88) then
  lp3 N a0 ((0:Int), (List.replicate (Int.toNat (a0.length : Int)) (Message.mk (0:Int) (0:Int) (0:Int) (0:Int) (0:Int) (0:Int) (0:Int) ([] : List Entry) false)))
  else none
  else none
@[reducible] noncomputable def sp (N : Nat) : Spec E := { ps := [.val (.slice 102 (.st 102))], rs := [(.slice 113 (.st 113))], own := true, dp := true, R := R, fn := fun x => m N x.1, res := fun r => (r, ()), out := fun r => ((), ()), shut := fun a b => a.1, res_shut := fun _ _ => rfl, out_shut := fun _ _ => rfl }
end laws_toMessageS
/-! ### laws_toLead: loop.example/g00220/laws.toLead -/
namespace laws_toLead
abbrev R := Lead
noncomputable def m (N : Nat) (a0 : Lead) : Option R :=
  ob (laws_toEntryS.m N a0.Log) fun y1 =>
  some (Lead.mk a0.Term a0.Id y1)
@[reducible] noncomputable def sp (N : Nat) : Spec E := { ps := [.val (.st 105)], rs := [(.st 78)], own := true, dp := false, R := R, fn := fun x => m N x.1, res := fun r => (r, ()), out := fun r => ((), ()), shut := fun a b => a.1, res_shut := fun _ _ => rfl, out_shut := fun _ _ => rfl }
end laws_toLead
/-! ### laws_toLeadS: loop.example/g00220/laws.toLeadS -/
namespace laws_toLeadS
abbrev R := (List Lead)
noncomputable def step3 (N : Nat) (a0 : List Lead) (rec : (Int × (List Lead)) → Option R) : (Int × (List Lead)) → Option R
  | (v1, v2) =>
    bif (decide (v1 < (a0.length : Int))) then
      bif (decide (0 ≤ v1)) then
      bif (decide (v1 < (a0.length : Int))) then
      ob (laws_toLead.m N (a0.getD (Int.toNat v1) Lead.dz)) fun y1 =>
      bif (decide (0 ≤ v1)) then
      bif (decide (v1 < (v2.length : Int))) then
      rec ((w64 (v1 + (1:Int))), (v2.set (Int.toNat v1) y1))
      else none
      else none
      else none
      else none
    else
    some v2
noncomputable def lp3 (N : Nat) (a0 : List Lead) : (Int × (List Lead)) → Option R :=
  miter (fun rec => step3 N a0 rec) N
noncomputable def m (N : Nat) (a0 : List Lead) : Option R :=
  bif (decide (0 ≤ (a0.length : Int))) then
  bif (room (Int.toNat (a0.length : Int)) 40) then
  lp3 N a0 ((0:Int), (List.replicate (Int.toNat (a0.length : Int)) (Lead.mk (0:Int) (0:Int) ([] : List Entry))))
  else none
  else none
@[reducible] noncomputable def sp (N : Nat) : Spec E := { ps := [.val (.slice 105 (.st 105))], rs := [(.slice 78 (.st 78))], own := true, dp := true, R := R, fn := fun x => m N x.1, res := fun r => (r, ()), out := fun r => ((), ()), shut := fun a b => a.1, res_shut := fun _ _ => rfl, out_shut := fun _ _ => rfl }
end laws_toLeadS
/-! ### laws_toDone: loop.example/g00220/laws.toDone -/
namespace laws_toDone
abbrev R := Done
noncomputable def m (N : Nat) (a0 : Done) : Option R :=
  ob (laws_toEntry.m N (Entry.mk a0.Entry.Term a0.Entry.Kind a0.Entry.Data)) fun y1 =>
  some (Done.mk a0.Node a0.Term a0.Index y1)
@[reducible] noncomputable def sp (N : Nat) : Spec E := { ps := [.val (.st 109)], rs := [(.st 66)], own := true, dp := false, R := R, fn := fun x => m N x.1, res := fun r => (r, ()), out := fun r => ((), ()), shut := fun a b => a.1, res_shut := fun _ _ => rfl, out_shut := fun _ _ => rfl }
end laws_toDone
/-! ### laws_toDoneS: loop.example/g00220/laws.toDoneS -/
namespace laws_toDoneS
abbrev R := (List Done)
noncomputable def step3 (N : Nat) (a0 : List Done) (rec : (Int × (List Done)) → Option R) : (Int × (List Done)) → Option R
  | (v1, v2) =>
    bif (decide (v1 < (a0.length : Int))) then
      bif (decide (0 ≤ v1)) then
      bif (decide (v1 < (a0.length : Int))) then
      ob (laws_toDone.m N (Done.mk ((a0.getD (Int.toNat v1) Done.dz).Node) ((a0.getD (Int.toNat v1) Done.dz).Term) ((a0.getD (Int.toNat v1) Done.dz).Index) (Entry.mk ((a0.getD (Int.toNat v1) Done.dz).Entry.Term) ((a0.getD (Int.toNat v1) Done.dz).Entry.Kind) ((a0.getD (Int.toNat v1) Done.dz).Entry.Data)))) fun y1 =>
      bif (decide (0 ≤ v1)) then
      bif (decide (v1 < (v2.length : Int))) then
      rec ((w64 (v1 + (1:Int))), (v2.set (Int.toNat v1) (Done.mk y1.Node y1.Term y1.Index (Entry.mk y1.Entry.Term y1.Entry.Kind y1.Entry.Data))))
      else none
      else none
      else none
      else none
    else
    some v2
noncomputable def lp3 (N : Nat) (a0 : List Done) : (Int × (List Done)) → Option R :=
  miter (fun rec => step3 N a0 rec) N
noncomputable def m (N : Nat) (a0 : List Done) : Option R :=
  bif (decide (0 ≤ (a0.length : Int))) then
  bif (room (Int.toNat (a0.length : Int)) 56) then
  lp3 N a0 ((0:Int), (List.replicate (Int.toNat (a0.length : Int)) (Done.mk (0:Int) (0:Int) (0:Int) (Entry.mk (0:Int) (0:Int) ByteArray.empty))))
  else none
  else none
@[reducible] noncomputable def sp (N : Nat) : Spec E := { ps := [.val (.slice 109 (.st 109))], rs := [(.slice 66 (.st 66))], own := true, dp := false, R := R, fn := fun x => m N x.1, res := fun r => (r, ()), out := fun r => ((), ()), shut := fun a b => a.1, res_shut := fun _ _ => rfl, out_shut := fun _ _ => rfl }
end laws_toDoneS
/-! ### laws_toGroup: loop.example/g00220/laws.toGroup -/
namespace laws_toGroup
abbrev R := Group
noncomputable def m (N : Nat) (a0 : Group) : Option R :=
  ob (laws_toNodeS.m N a0.Nodes) fun y1 =>
  ob (laws_toMessageS.m N a0.Wire) fun y2 =>
  ob (laws_toLeadS.m N a0.Leads) fun y3 =>
  ob (laws_toDoneS.m N a0.Dones) fun y4 =>
  some (Group.mk y1 y2 y3 y4)
@[reducible] noncomputable def sp (N : Nat) : Spec E := { ps := [.val (.st 27)], rs := [(.st 36)], own := true, dp := true, R := R, fn := fun x => m N x.1, res := fun r => (r, ()), out := fun r => ((), ()), shut := fun a b => a.1, res_shut := fun _ _ => rfl, out_shut := fun _ _ => rfl }
end laws_toGroup
/-! ### spec_l01In: loop.example/g00220/spec.l01In -/
namespace spec_l01In
abbrev R := Bool
noncomputable def m (N : Nat) (a0 : Int) (a1 : Int) (a2 : Int) : Option R :=
  bif (decide (a0 ≥ a1)) then
    some (bif true then (decide (a0 ≤ a2)) else false)
  else
  some false
@[reducible] noncomputable def sp (N : Nat) : Spec E := { ps := [.val (.int .i64), .val (.int .i64), .val (.int .i64)], rs := [.bool], own := true, dp := false, R := R, fn := fun x => m N x.1 x.2.1 x.2.2.1, res := fun r => (r, ()), out := fun r => ((), (), (), ()), shut := fun a b => a.1, res_shut := fun _ _ => rfl, out_shut := fun _ _ => rfl }
end spec_l01In
/-! ### spec_l02Members: loop.example/g00220/spec.l02Members -/
namespace spec_l02Members
abbrev R := (List Int) × Bool
noncomputable def step3 (N : Nat) (a0 : ByteArray) (rec : (Int × (List Int)) → Option R) : (Int × (List Int)) → Option R
  | (v1, v2) =>
    bif (decide (v1 < (a0.size : Int))) then
      bif (decide (0 ≤ v1)) then
      bif (decide (v1 < (a0.size : Int))) then
      ob (spec_l01In.m N (w64 (sb a0 v1)) (0:Int) (6:Int)) fun y1 =>
      bif (!y1) then
        some (([] : List Int), false)
      else
      bif (decide (v1 > (0:Int))) then
        bif (decide (0 ≤ (w64 (v1 - (1:Int))))) then
        bif (decide ((w64 (v1 - (1:Int))) < (a0.size : Int))) then
        bif (decide (0 ≤ v1)) then
        bif (decide (v1 < (a0.size : Int))) then
        bif (bif false then true else (bif true then (decide ((sb a0 (w64 (v1 - (1:Int)))) ≥ (sb a0 v1))) else false)) then
          some (([] : List Int), false)
        else
        bif (decide (0 ≤ v1)) then
        bif (decide (v1 < (a0.size : Int))) then
        bif (room (v2.length + ([(w64 (sb a0 v1))]).length) 8) then
        rec ((w64 (v1 + (1:Int))), (v2 ++ [(w64 (sb a0 v1))]))
        else none
        else none
        else none
        else none
        else none
        else none
        else none
      else
      bif (bif false then true else false) then
        some (([] : List Int), false)
      else
      bif (decide (0 ≤ v1)) then
      bif (decide (v1 < (a0.size : Int))) then
      bif (room (v2.length + ([(w64 (sb a0 v1))]).length) 8) then
      rec ((w64 (v1 + (1:Int))), (v2 ++ [(w64 (sb a0 v1))]))
      else none
      else none
      else none
      else none
      else none
    else
    some (v2, (decide ((v2.length : Int) > (0:Int))))
noncomputable def lp3 (N : Nat) (a0 : ByteArray) : (Int × (List Int)) → Option R :=
  miter (fun rec => step3 N a0 rec) N
noncomputable def m (N : Nat) (a0 : ByteArray) : Option R :=
  lp3 N a0 ((0:Int), ([] : List Int))
@[reducible] noncomputable def sp (N : Nat) : Spec E := { ps := [.val .str], rs := [(.slice 3 (.int .i64)), .bool], own := true, dp := false, R := R, fn := fun x => m N x.1, res := fun r => (r.1, r.2, ()), out := fun r => ((), ()), shut := fun a b => (a.1, a.2.1), res_shut := fun _ _ => rfl, out_shut := fun _ _ => rfl }
end spec_l02Members
/-! ### spec_l02Entry: loop.example/g00220/spec.l02Entry -/
namespace spec_l02Entry
abbrev R := Bool
noncomputable def m (N : Nat) (a0 : Entry) : Option R :=
  ob (spec_l01In.m N a0.Term (1:Int) (1000000:Int)) fun y1 =>
  bif (!y1) then
    some false
  else
  bif (a0.Kind == (0:Int)) then
    some (seq a0.Data ByteArray.empty)
  else
  bif (a0.Kind == (1:Int)) then
    bif (decide ((a0.Data.size : Int) ≥ (1:Int))) then
      some (bif true then (decide ((a0.Data.size : Int) ≤ (100:Int))) else false)
    else
    some false
  else
  bif (a0.Kind == (2:Int)) then
    ob (spec_l02Members.m N a0.Data) fun y2 =>
    some y2.2
  else
  some false
@[reducible] noncomputable def sp (N : Nat) : Spec E := { ps := [.val (.st 58)], rs := [.bool], own := true, dp := false, R := R, fn := fun x => m N x.1, res := fun r => (r, ()), out := fun r => ((), ()), shut := fun a b => a.1, res_shut := fun _ _ => rfl, out_shut := fun _ _ => rfl }
end spec_l02Entry
/-! ### spec_StateOK: loop.example/g00220/spec.StateOK -/
namespace spec_StateOK
abbrev R := Bool
noncomputable def step4 (N : Nat) (a0 : State) (rec : Int → Option R) : Int → Option R
  | v0 =>
    bif (decide (v0 < (a0.Log.length : Int))) then
      bif (decide (0 ≤ v0)) then
      bif (decide (v0 < (a0.Log.length : Int))) then
      ob (spec_l02Entry.m N (a0.Log.getD (Int.toNat v0) Entry.dz)) fun y3 =>
      bif (!y3) then
        some false
      else
      bif (decide (0 ≤ v0)) then
      bif (decide (v0 < (a0.Log.length : Int))) then
      bif (bif false then true else (decide ((a0.Log.getD (Int.toNat v0) Entry.dz).Term > a0.Term))) then
        some false
      else
      bif (decide (v0 > (0:Int))) then
        bif (decide (0 ≤ (w64 (v0 - (1:Int))))) then
        bif (decide ((w64 (v0 - (1:Int))) < (a0.Log.length : Int))) then
        bif (decide (0 ≤ v0)) then
        bif (decide (v0 < (a0.Log.length : Int))) then
        (let w4 : Bool := (bif true then (decide ((a0.Log.getD (Int.toNat (w64 (v0 - (1:Int)))) Entry.dz).Term > (a0.Log.getD (Int.toNat v0) Entry.dz).Term)) else false)
        bif (bif false then true else w4) then
          some false
        else
        rec (w64 (v0 + (1:Int))))
        else none
        else none
        else none
        else none
      else
      bif (bif false then true else false) then
        some false
      else
      rec (w64 (v0 + (1:Int)))
      else none
      else none
      else none
      else none
    else
    some true
noncomputable def lp4 (N : Nat) (a0 : State) : Int → Option R :=
  miter (fun rec => step4 N a0 rec) N
noncomputable def m (N : Nat) (a0 : State) : Option R :=
  ob (spec_l01In.m N a0.Term (0:Int) (1000000:Int)) fun y1 =>
  bif (!y1) then
    some false
  else
  ob (spec_l01In.m N a0.Vote (-1:Int) (6:Int)) fun y2 =>
  bif (bif false then true else (!y2)) then
    some false
  else
  bif (bif false then true else (decide ((a0.Log.length : Int) > (60:Int)))) then
    some false
  else
  lp4 N a0 (0:Int)
@[reducible] noncomputable def sp (N : Nat) : Spec E := { ps := [.val (.st 133)], rs := [.bool], own := true, dp := false, R := R, fn := fun x => m N x.1, res := fun r => (r, ()), out := fun r => ((), ()), shut := fun a b => a.1, res_shut := fun _ _ => rfl, out_shut := fun _ _ => rfl }
end spec_StateOK
/-! ### spec_l10Ids: loop.example/g00220/spec.l10Ids -/
namespace spec_l10Ids
abbrev R := Bool
noncomputable def step2 (N : Nat) (a0 : List Int) (rec : Int → Option R) : Int → Option R
  | v1 =>
    bif (decide (v1 < (a0.length : Int))) then
      bif (decide (0 ≤ v1)) then
      bif (decide (v1 < (a0.length : Int))) then
      ob (spec_l01In.m N (a0.getD (Int.toNat v1) (0:Int)) (0:Int) (6:Int)) fun y1 =>
      bif (!y1) then
        some false
      else
      bif (decide (v1 > (0:Int))) then
        bif (decide (0 ≤ (w64 (v1 - (1:Int))))) then
        bif (decide ((w64 (v1 - (1:Int))) < (a0.length : Int))) then
        bif (decide (0 ≤ v1)) then
        bif (decide (v1 < (a0.length : Int))) then
        (let w2 : Bool := (bif false then true else (bif true then (decide ((a0.getD (Int.toNat (w64 (v1 - (1:Int)))) (0:Int)) ≥ (a0.getD (Int.toNat v1) (0:Int)))) else false))
        bif w2 then
          some false
        else
        rec (w64 (v1 + (1:Int))))
        else none
        else none
        else none
        else none
      else
      bif (bif false then true else false) then
        some false
      else
      rec (w64 (v1 + (1:Int)))
      else none
      else none
    else
    some true
noncomputable def lp2 (N : Nat) (a0 : List Int) : Int → Option R :=
  miter (fun rec => step2 N a0 rec) N
noncomputable def m (N : Nat) (a0 : List Int) : Option R :=
  lp2 N a0 (0:Int)
@[reducible] noncomputable def sp (N : Nat) : Spec E := { ps := [.val (.slice 3 (.int .i64))], rs := [.bool], own := true, dp := false, R := R, fn := fun x => m N x.1, res := fun r => (r, ()), out := fun r => ((), ()), shut := fun a b => a.1, res_shut := fun _ _ => rfl, out_shut := fun _ _ => rfl }
end spec_l10Ids
/-! ### spec_NodeOK: loop.example/g00220/spec.NodeOK -/
namespace spec_NodeOK
abbrev R := Bool
noncomputable def step6 (N : Nat) (a0 : Node) (rec : Int → Option R) : Int → Option R
  | v0 =>
    bif (decide (v0 < (7:Int))) then
      bif (decide (0 ≤ v0)) then
      bif (decide (v0 < (a0.Next.length : Int))) then
      ob (spec_l01In.m N (a0.Next.getD (Int.toNat v0) (0:Int)) (1:Int) (w64 ((a0.Log.length : Int) + (1:Int)))) fun y9 =>
      bif (!y9) then
        some false
      else
      bif (decide (0 ≤ v0)) then
      bif (decide (v0 < (a0.Match.length : Int))) then
      bif (decide (0 ≤ v0)) then
      bif (decide (v0 < (a0.Next.length : Int))) then
      ob (spec_l01In.m N (a0.Match.getD (Int.toNat v0) (0:Int)) (0:Int) (w64 ((a0.Next.getD (Int.toNat v0) (0:Int)) - (1:Int)))) fun y10 =>
      bif (bif false then true else (!y10)) then
        some false
      else
      rec (w64 (v0 + (1:Int)))
      else none
      else none
      else none
      else none
      else none
      else none
    else
    bif a0.Up then
      some true
    else
    some (bif false then true else (a0.Role == (0:Int)))
noncomputable def lp6 (N : Nat) (a0 : Node) : Int → Option R :=
  miter (fun rec => step6 N a0 rec) N
noncomputable def m (N : Nat) (a0 : Node) : Option R :=
  ob (spec_l01In.m N a0.Id (0:Int) (6:Int)) fun y1 =>
  bif (!y1) then
    some false
  else
  ob (spec_StateOK.m N (State.mk a0.Term a0.Vote a0.Log)) fun y2 =>
  bif (bif false then true else (!y2)) then
    some false
  else
  ob (spec_l10Ids.m N a0.Start) fun y3 =>
  bif (bif false then true else (!y3)) then
    some false
  else
  bif (bif false then true else ((a0.Start.length : Int) == (0:Int))) then
    some false
  else
  ob (spec_l10Ids.m N a0.Votes) fun y4 =>
  bif (bif false then true else (!y4)) then
    some false
  else
  ob (spec_l01In.m N a0.Role (0:Int) (2:Int)) fun y5 =>
  bif (bif false then true else (!y5)) then
    some false
  else
  bif ((a0.Next.length : Int) != (7:Int)) then
    some false
  else
  bif (bif false then true else ((a0.Match.length : Int) != (7:Int))) then
    some false
  else
  ob (spec_l01In.m N a0.Commit (0:Int) (a0.Log.length : Int)) fun y6 =>
  bif (bif false then true else (!y6)) then
    some false
  else
  ob (spec_l01In.m N a0.Elapsed (0:Int) (1000:Int)) fun y7 =>
  bif (bif false then true else (!y7)) then
    some false
  else
  ob (spec_l01In.m N a0.Wait (5:Int) (100:Int)) fun y8 =>
  bif (bif false then true else (!y8)) then
    some false
  else
  lp6 N a0 (0:Int)
@[reducible] noncomputable def sp (N : Nat) : Spec E := { ps := [.val (.st 50)], rs := [.bool], own := true, dp := false, R := R, fn := fun x => m N x.1, res := fun r => (r, ()), out := fun r => ((), ()), shut := fun a b => a.1, res_shut := fun _ _ => rfl, out_shut := fun _ _ => rfl }
end spec_NodeOK
/-! ### spec_l10MessageOK: loop.example/g00220/spec.l10MessageOK -/
namespace spec_l10MessageOK
abbrev R := Bool
noncomputable def m (N : Nat) (a0 : Message) : Option R :=
  ob (spec_l01In.m N a0.Kind (1:Int) (4:Int)) fun y1 =>
  bif (!y1) then
    some false
  else
  ob (spec_l01In.m N a0.From (0:Int) (6:Int)) fun y2 =>
  bif (bif false then true else (!y2)) then
    some false
  else
  ob (spec_l01In.m N a0.To (0:Int) (6:Int)) fun y3 =>
  bif (bif false then true else (!y3)) then
    some false
  else
  bif (bif false then true else (a0.From == a0.To)) then
    some false
  else
  ob (spec_l01In.m N a0.Term (1:Int) (1000000:Int)) fun y4 =>
  bif (bif false then true else (!y4)) then
    some false
  else
  ob (spec_l01In.m N a0.Index (0:Int) (60:Int)) fun y5 =>
  bif (bif false then true else (!y5)) then
    some false
  else
  ob (spec_l01In.m N a0.LogTerm (0:Int) a0.Term) fun y6 =>
  bif (bif false then true else (!y6)) then
    some false
  else
  ob (spec_l01In.m N a0.Commit (0:Int) (60:Int)) fun y7 =>
  bif (bif false then true else (!y7)) then
    some false
  else
  bif (bif false then true else (decide ((a0.Entries.length : Int) > (w64 ((60:Int) - a0.Index))))) then
    some false
  else
  bif (a0.Kind != (3:Int)) then
    some ((a0.Entries.length : Int) == (0:Int))
  else
  ob (spec_StateOK.m N (State.mk a0.Term (0:Int) a0.Entries)) fun y8 =>
  bif y8 then
    bif ((a0.Entries.length : Int) == (0:Int)) then
      bif (bif true then true else false) then
        bif (decide (a0.Index > (0:Int))) then
          some (bif true then true else false)
        else
        some (bif true then (bif false then true else (a0.LogTerm == (0:Int))) else false)
      else
      some false
    else
    bif (decide (0 ≤ (0:Int))) then
    bif (decide ((0:Int) < (a0.Entries.length : Int))) then
    bif (bif true then (bif false then true else (decide ((a0.Entries.getD 0 Entry.dz).Term ≥ a0.LogTerm))) else false) then
      bif (decide (a0.Index > (0:Int))) then
        some (bif true then true else false)
      else
      some (bif true then (bif false then true else (a0.LogTerm == (0:Int))) else false)
    else
    some false
    else none
    else none
  else
  some false
@[reducible] noncomputable def sp (N : Nat) : Spec E := { ps := [.val (.st 113)], rs := [.bool], own := true, dp := false, R := R, fn := fun x => m N x.1, res := fun r => (r, ()), out := fun r => ((), ()), shut := fun a b => a.1, res_shut := fun _ _ => rfl, out_shut := fun _ _ => rfl }
end spec_l10MessageOK
/-! ### spec_GroupOK: loop.example/g00220/spec.GroupOK -/
namespace spec_GroupOK
abbrev R := Bool
noncomputable def step4 (N : Nat) (a0 : Group) (lp9 : Int → Option R) (rec : Int → Option R) : Int → Option R
  | v0 =>
    bif (decide (v0 < (a0.Nodes.length : Int))) then
      bif (decide (0 ≤ v0)) then
      bif (decide (v0 < (a0.Nodes.length : Int))) then
      ob (spec_NodeOK.m N (a0.Nodes.getD (Int.toNat v0) Node.dz)) fun y2 =>
      bif (!y2) then
        some false
      else
      bif (decide (0 ≤ v0)) then
      bif (decide (v0 < (a0.Nodes.length : Int))) then
      bif (bif false then true else ((a0.Nodes.getD (Int.toNat v0) Node.dz).Id != v0)) then
        some false
      else
      rec (w64 (v0 + (1:Int)))
      else none
      else none
      else none
      else none
    else
    lp9 (0:Int)
noncomputable def step9 (N : Nat) (a0 : Group) (rec : Int → Option R) : Int → Option R
  | v0 =>
    bif (decide (v0 < (a0.Wire.length : Int))) then
      bif (decide (0 ≤ v0)) then
      bif (decide (v0 < (a0.Wire.length : Int))) then
      ob (spec_l10MessageOK.m N (a0.Wire.getD (Int.toNat v0) Message.dz)) fun y3 =>
      bif (!y3) then
        some false
      else
      rec (w64 (v0 + (1:Int)))
      else none
      else none
    else
    some true
noncomputable def lp9 (N : Nat) (a0 : Group) : Int → Option R :=
  miter (fun rec => step9 N a0 rec) N
noncomputable def lp4 (N : Nat) (a0 : Group) : Int → Option R :=
  miter (fun rec => step4 N a0 (lp9 N a0) rec) N
noncomputable def m (N : Nat) (a0 : Group) : Option R :=
  ob (spec_l01In.m N (a0.Nodes.length : Int) (1:Int) (5:Int)) fun y1 =>
  bif (!y1) then
    some false
  else
  bif (bif false then true else (decide ((a0.Wire.length : Int) > (60:Int)))) then
    some false
  else
  bif (bif false then true else (decide ((a0.Leads.length : Int) > (4096:Int)))) then
    some false
  else
  bif (bif false then true else (decide ((a0.Dones.length : Int) > (4096:Int)))) then
    some false
  else
  lp4 N a0 (0:Int)
@[reducible] noncomputable def sp (N : Nat) : Spec E := { ps := [.val (.st 36)], rs := [.bool], own := true, dp := false, R := R, fn := fun x => m N x.1, res := fun r => (r, ()), out := fun r => ((), ()), shut := fun a b => a.1, res_shut := fun _ _ => rfl, out_shut := fun _ _ => rfl }
end spec_GroupOK
/-! ### spec_l12Data: loop.example/g00220/spec.l12Data -/
namespace spec_l12Data
abbrev R := (List ByteArray)
noncomputable def step3 (N : Nat) (a0 : Group) (lp6 : Int × Int × (List Node) × (List Message) × (List Lead) × (List Done) × (List ByteArray) → Option R) (rec : (Int × (List Node) × (List Message) × (List Lead) × (List Done) × (List ByteArray)) → Option R) : (Int × (List Node) × (List Message) × (List Lead) × (List Done) × (List ByteArray)) → Option R
  | (v0, v1, v2, v3, v4, v5) =>
    bif (decide (v0 ≤ (60:Int))) then
      lp6 (v0, (0:Int), v1, v2, v3, v4, v5)
    else
    some v5
noncomputable def step6 (N : Nat) (a0 : Group) (lp3 : Int × (List Node) × (List Message) × (List Lead) × (List Done) × (List ByteArray) → Option R) (rec : (Int × Int × (List Node) × (List Message) × (List Lead) × (List Done) × (List ByteArray)) → Option R) : (Int × Int × (List Node) × (List Message) × (List Lead) × (List Done) × (List ByteArray)) → Option R
  | (v0, v1, v2, v3, v4, v5, v6) =>
    bif (decide (v1 < (v5.length : Int))) then
      bif (decide (0 ≤ v1)) then
      bif (decide (v1 < (v5.length : Int))) then
      bif ((v5.getD (Int.toNat v1) Done.dz).Index == v0) then
        bif (decide (0 ≤ v1)) then
        bif (decide (v1 < (v5.length : Int))) then
        bif ((v5.getD (Int.toNat v1) Done.dz).Entry.Kind == (1:Int)) then
          bif (decide (0 ≤ v1)) then
          bif (decide (v1 < (v5.length : Int))) then
          bif (room (v6.length + ([(v5.getD (Int.toNat v1) Done.dz).Entry.Data]).length) 16) then
          lp3 ((w64 (v0 + (1:Int))), v2, v3, v4, v5, (v6 ++ [(v5.getD (Int.toNat v1) Done.dz).Entry.Data]))
          else none
          else none
          else none
        else
        lp3 ((w64 (v0 + (1:Int))), v2, v3, v4, v5, v6)
        else none
        else none
      else
      rec (v0, (w64 (v1 + (1:Int))), v2, v3, v4, v5, v6)
      else none
      else none
    else
    lp3 ((w64 (v0 + (1:Int))), v2, v3, v4, v5, v6)
noncomputable def lp6 (N : Nat) (a0 : Group) (r3 : Int × (List Node) × (List Message) × (List Lead) × (List Done) × (List ByteArray) → Option R) : (Int × Int × (List Node) × (List Message) × (List Lead) × (List Done) × (List ByteArray)) → Option R :=
  miter (fun rec => step6 N a0 r3 rec) N
noncomputable def lp3 (N : Nat) (a0 : Group) : (Int × (List Node) × (List Message) × (List Lead) × (List Done) × (List ByteArray)) → Option R :=
  miter (fun rec => step3 N a0 (lp6 N a0 rec) rec) N
noncomputable def m (N : Nat) (a0 : Group) : Option R :=
  lp3 N a0 ((1:Int), a0.Nodes, a0.Wire, a0.Leads, a0.Dones, ([] : List ByteArray))
@[reducible] noncomputable def sp (N : Nat) : Spec E := { ps := [.val (.st 36)], rs := [(.slice 9 .str)], own := true, dp := false, R := R, fn := fun x => m N x.1, res := fun r => (r, ()), out := fun r => ((), ()), shut := fun a b => a.1, res_shut := fun _ _ => rfl, out_shut := fun _ _ => rfl }
end spec_l12Data
/-! ### spec_CommittedData: loop.example/g00220/spec.CommittedData -/
namespace spec_CommittedData
abbrev R := (List ByteArray) × Int
noncomputable def m (N : Nat) (a0 : Group) : Option R :=
  ob (spec_GroupOK.m N a0) fun y1 =>
  bif (!y1) then
    some (([] : List ByteArray), (1:Int))
  else
  ob (spec_l12Data.m N a0) fun y2 =>
  some (y2, (0:Int))
@[reducible] noncomputable def sp (N : Nat) : Spec E := { ps := [.val (.st 36)], rs := [(.slice 9 .str), (.int .i64)], own := true, dp := false, R := R, fn := fun x => m N x.1, res := fun r => (r.1, r.2, ()), out := fun r => ((), ()), shut := fun a b => (a.1, a.2.1), res_shut := fun _ _ => rfl, out_shut := fun _ _ => rfl }
end spec_CommittedData
/-! ### impl_within: loop.example/g00220/impl.within -/
namespace impl_within
abbrev R := Bool
noncomputable def m (N : Nat) (a0 : Int) (a1 : Int) (a2 : Int) : Option R :=
  bif (decide (a0 ≥ a1)) then
    some (bif true then (decide (a0 ≤ a2)) else false)
  else
  some false
@[reducible] noncomputable def sp (N : Nat) : Spec E := { ps := [.val (.int .i64), .val (.int .i64), .val (.int .i64)], rs := [.bool], own := true, dp := false, R := R, fn := fun x => m N x.1 x.2.1 x.2.2.1, res := fun r => (r, ()), out := fun r => ((), (), (), ()), shut := fun a b => a.1, res_shut := fun _ _ => rfl, out_shut := fun _ _ => rfl }
end impl_within
/-! ### impl_isList_impl_Lead: loop.example/g00220/impl.isList[loop.example/g00220/impl.Lead] -/
namespace impl_isList_impl_Lead
abbrev R := Bool
noncomputable def m (N : Nat) (a0 : List Lead) : Option R :=
  some (decide ((a0.length : Int) ≤ (4096:Int)))
@[reducible] noncomputable def sp (N : Nat) : Spec E := { ps := [.val (.slice 78 (.st 78))], rs := [.bool], own := true, dp := false, R := R, fn := fun x => m N x.1, res := fun r => (r, ()), out := fun r => ((), ()), shut := fun a b => a.1, res_shut := fun _ _ => rfl, out_shut := fun _ _ => rfl }
end impl_isList_impl_Lead
/-! ### impl_isList_impl_Done: loop.example/g00220/impl.isList[loop.example/g00220/impl.Done] -/
namespace impl_isList_impl_Done
abbrev R := Bool
noncomputable def m (N : Nat) (a0 : List Done) : Option R :=
  some (decide ((a0.length : Int) ≤ (4096:Int)))
@[reducible] noncomputable def sp (N : Nat) : Spec E := { ps := [.val (.slice 66 (.st 66))], rs := [.bool], own := true, dp := false, R := R, fn := fun x => m N x.1, res := fun r => (r, ()), out := fun r => ((), ()), shut := fun a b => a.1, res_shut := fun _ _ => rfl, out_shut := fun _ _ => rfl }
end impl_isList_impl_Done
/-! ### impl_isNumber: loop.example/g00220/impl.isNumber -/
namespace impl_isNumber
abbrev R := Bool
noncomputable def m (N : Nat) (a0 : Int) : Option R :=
  ob (impl_within.m N a0 (0:Int) (6:Int)) fun y1 =>
  some y1
@[reducible] noncomputable def sp (N : Nat) : Spec E := { ps := [.val (.int .i64)], rs := [.bool], own := true, dp := false, R := R, fn := fun x => m N x.1, res := fun r => (r, ()), out := fun r => ((), ()), shut := fun a b => a.1, res_shut := fun _ _ => rfl, out_shut := fun _ _ => rfl }
end impl_isNumber
/-! ### impl_areNumbers_1: loop.example/g00220/impl.areNumbers$1 -/
namespace impl_areNumbers_1
abbrev R := Bool
noncomputable def m (N : Nat) (a0 : Int) : Option R :=
  ob (impl_within.m N a0 (0:Int) (6:Int)) fun y1 =>
  some (!y1)
@[reducible] noncomputable def sp (N : Nat) : Spec E := { ps := [.val (.int .i64)], rs := [.bool], own := true, dp := false, R := R, fn := fun x => m N x.1, res := fun r => (r, ()), out := fun r => ((), ()), shut := fun a b => a.1, res_shut := fun _ _ => rfl, out_shut := fun _ _ => rfl }
end impl_areNumbers_1
/-! ### slices_IndexFunc_int_int__impl_areNumbers_1: slices.IndexFunc[[]int,int] -/
namespace slices_IndexFunc_int_int__impl_areNumbers_1
abbrev R := Int
noncomputable def step2 (N : Nat) (a0 : List Int) (rec : (Int × Int) → Option R) : (Int × Int) → Option R
  | (v1, v2) =>
    bif (decide (v2 < v1)) then
      bif (decide (0 ≤ v2)) then
      bif (decide (v2 < (a0.length : Int))) then
      ob (impl_areNumbers_1.m N (a0.getD (Int.toNat v2) (0:Int))) fun y1 =>
      bif y1 then
        some v2
      else
      rec (v1, (w64 (v2 + (1:Int))))
      else none
      else none
    else
    some (-1:Int)
noncomputable def lp2 (N : Nat) (a0 : List Int) : (Int × Int) → Option R :=
  miter (fun rec => step2 N a0 rec) N
noncomputable def m (N : Nat) (a0 : List Int) : Option R :=
  lp2 N a0 ((a0.length : Int), (0:Int))
@[reducible] noncomputable def sp (N : Nat) : Spec E := { ps := [.val (.slice 3 (.int .i64)), .clo 121 []], rs := [(.int .i64)], own := true, dp := false, R := R, fn := fun x => m N x.1, res := fun r => (r, ()), out := fun r => ((), (), ()), shut := fun a b => a.1, res_shut := fun _ _ => rfl, out_shut := fun _ _ => rfl }
end slices_IndexFunc_int_int__impl_areNumbers_1
/-! ### slices_ContainsFunc_int_int__impl_areNumbers_1: slices.ContainsFunc[[]int,int] -/
namespace slices_ContainsFunc_int_int__impl_areNumbers_1
abbrev R := Bool
noncomputable def m (N : Nat) (a0 : List Int) : Option R :=
  ob (slices_IndexFunc_int_int__impl_areNumbers_1.m N a0) fun y1 =>
  some (decide (y1 ≥ (0:Int)))
@[reducible] noncomputable def sp (N : Nat) : Spec E := { ps := [.val (.slice 3 (.int .i64)), .clo 121 []], rs := [.bool], own := true, dp := false, R := R, fn := fun x => m N x.1, res := fun r => (r, ()), out := fun r => ((), (), ()), shut := fun a b => a.1, res_shut := fun _ _ => rfl, out_shut := fun _ _ => rfl }
end slices_ContainsFunc_int_int__impl_areNumbers_1
/-! ### impl_areNumbers: loop.example/g00220/impl.areNumbers -/
namespace impl_areNumbers
abbrev R := Bool
noncomputable def m (N : Nat) (a0 : List Int) : Option R :=
  ob (slices_ContainsFunc_int_int__impl_areNumbers_1.m N a0) fun y1 =>
  some (!y1)
@[reducible] noncomputable def sp (N : Nat) : Spec E := { ps := [.val (.slice 3 (.int .i64))], rs := [.bool], own := true, dp := false, R := R, fn := fun x => m N x.1, res := fun r => (r, ()), out := fun r => ((), ()), shut := fun a b => a.1, res_shut := fun _ _ => rfl, out_shut := fun _ _ => rfl }
end impl_areNumbers
/-! ### impl_areRising: loop.example/g00220/impl.areRising -/
namespace impl_areRising
abbrev R := Bool
noncomputable def step2 (N : Nat) (a0 : List Int) (rec : Int → Option R) : Int → Option R
  | v1 =>
    bif (decide (v1 < (a0.length : Int))) then
      bif (decide (0 ≤ (w64 (v1 - (1:Int))))) then
      bif (decide ((w64 (v1 - (1:Int))) < (a0.length : Int))) then
      bif (decide (0 ≤ v1)) then
      bif (decide (v1 < (a0.length : Int))) then
      bif (decide ((a0.getD (Int.toNat (w64 (v1 - (1:Int)))) (0:Int)) ≥ (a0.getD (Int.toNat v1) (0:Int)))) then
        some false
      else
      rec (w64 (v1 + (1:Int)))
      else none
      else none
      else none
      else none
    else
    some true
noncomputable def lp2 (N : Nat) (a0 : List Int) : Int → Option R :=
  miter (fun rec => step2 N a0 rec) N
noncomputable def m (N : Nat) (a0 : List Int) : Option R :=
  lp2 N a0 (1:Int)
@[reducible] noncomputable def sp (N : Nat) : Spec E := { ps := [.val (.slice 3 (.int .i64))], rs := [.bool], own := true, dp := false, R := R, fn := fun x => m N x.1, res := fun r => (r, ()), out := fun r => ((), ()), shut := fun a b => a.1, res_shut := fun _ _ => rfl, out_shut := fun _ _ => rfl }
end impl_areRising
/-! ### impl_membersOK: loop.example/g00220/impl.membersOK -/
namespace impl_membersOK
abbrev R := Bool
noncomputable def m (N : Nat) (a0 : List Int) : Option R :=
  bif (decide ((a0.length : Int) > (0:Int))) then
    ob (impl_areNumbers.m N a0) fun y1 =>
    bif (bif true then y1 else false) then
      ob (impl_areRising.m N a0) fun y2 =>
      some (bif true then y2 else false)
    else
    some false
  else
  some false
@[reducible] noncomputable def sp (N : Nat) : Spec E := { ps := [.val (.slice 3 (.int .i64))], rs := [.bool], own := true, dp := false, R := R, fn := fun x => m N x.1, res := fun r => (r, ()), out := fun r => ((), ()), shut := fun a b => a.1, res_shut := fun _ _ => rfl, out_shut := fun _ _ => rfl }
end impl_membersOK
/-! ### impl_readMembers: loop.example/g00220/impl.readMembers -/
namespace impl_readMembers
abbrev R := (List Int) × Bool
noncomputable def step3 (N : Nat) (a0 : ByteArray) (rec : (Int × Int × (List Int)) → Option R) : (Int × Int × (List Int)) → Option R
  | (v1, v2, v3) =>
    bif (decide (v2 < v1)) then
      bif (decide (0 ≤ v2)) then
      bif (decide (v2 < (a0.size : Int))) then
      bif (room (v3.length + ([(w64 (sb a0 v2))]).length) 8) then
      rec (v1, (w64 (v2 + (1:Int))), (v3 ++ [(w64 (sb a0 v2))]))
      else none
      else none
      else none
    else
    ob (impl_membersOK.m N v3) fun y1 =>
    some (v3, y1)
noncomputable def lp3 (N : Nat) (a0 : ByteArray) : (Int × Int × (List Int)) → Option R :=
  miter (fun rec => step3 N a0 rec) N
noncomputable def m (N : Nat) (a0 : ByteArray) : Option R :=
  lp3 N a0 ((a0.size : Int), (0:Int), ([] : List Int))
@[reducible] noncomputable def sp (N : Nat) : Spec E := { ps := [.val .str], rs := [(.slice 3 (.int .i64)), .bool], own := true, dp := false, R := R, fn := fun x => m N x.1, res := fun r => (r.1, r.2, ()), out := fun r => ((), ()), shut := fun a b => (a.1, a.2.1), res_shut := fun _ _ => rfl, out_shut := fun _ _ => rfl }
end impl_readMembers
/-! ### impl_entryOK: loop.example/g00220/impl.entryOK -/
namespace impl_entryOK
abbrev R := Bool
noncomputable def m (N : Nat) (a0 : Entry) : Option R :=
  ob (impl_within.m N a0.Term (1:Int) (1000000:Int)) fun y1 =>
  bif (!y1) then
    some false
  else
  bif (a0.Kind == (0:Int)) then
    some (seq a0.Data ByteArray.empty)
  else
  bif (a0.Kind == (1:Int)) then
    ob (impl_within.m N (a0.Data.size : Int) (1:Int) (100:Int)) fun y2 =>
    some y2
  else
  bif (a0.Kind == (2:Int)) then
    ob (impl_readMembers.m N a0.Data) fun y3 =>
    some y3.2
  else
  some false
@[reducible] noncomputable def sp (N : Nat) : Spec E := { ps := [.val (.st 58)], rs := [.bool], own := true, dp := false, R := R, fn := fun x => m N x.1, res := fun r => (r, ()), out := fun r => ((), ()), shut := fun a b => a.1, res_shut := fun _ _ => rfl, out_shut := fun _ _ => rfl }
end impl_entryOK
/-! ### impl_logOK: loop.example/g00220/impl.logOK -/
namespace impl_logOK
abbrev R := Bool
noncomputable def step2 (N : Nat) (a0 : List Entry) (a1 : Int) (rec : (Int × Int) → Option R) : (Int × Int) → Option R
  | (v3, v4) =>
    bif (decide (v4 < v3)) then
      bif (decide (0 ≤ v4)) then
      bif (decide (v4 < (a0.length : Int))) then
      ob (impl_entryOK.m N (a0.getD (Int.toNat v4) Entry.dz)) fun y1 =>
      bif (!y1) then
        some false
      else
      bif (bif false then true else (decide ((a0.getD (Int.toNat v4) Entry.dz).Term > a1))) then
        some false
      else
      bif (decide (v4 > (0:Int))) then
        bif (decide (0 ≤ (w64 (v4 - (1:Int))))) then
        bif (decide ((w64 (v4 - (1:Int))) < (a0.length : Int))) then
        (let w2 : Bool := (bif false then true else (bif true then (decide ((a0.getD (Int.toNat (w64 (v4 - (1:Int)))) Entry.dz).Term > (a0.getD (Int.toNat v4) Entry.dz).Term)) else false))
        bif w2 then
          some false
        else
        rec (v3, (w64 (v4 + (1:Int)))))
        else none
        else none
      else
      bif (bif false then true else false) then
        some false
      else
      rec (v3, (w64 (v4 + (1:Int))))
      else none
      else none
    else
    some (decide ((a0.length : Int) ≤ (60:Int)))
noncomputable def lp2 (N : Nat) (a0 : List Entry) (a1 : Int) : (Int × Int) → Option R :=
  miter (fun rec => step2 N a0 a1 rec) N
noncomputable def m (N : Nat) (a0 : List Entry) (a1 : Int) : Option R :=
  lp2 N a0 a1 ((a0.length : Int), (0:Int))
@[reducible] noncomputable def sp (N : Nat) : Spec E := { ps := [.val (.slice 58 (.st 58)), .val (.int .i64)], rs := [.bool], own := true, dp := false, R := R, fn := fun x => m N x.1 x.2.1, res := fun r => (r, ()), out := fun r => ((), (), ()), shut := fun a b => a.1, res_shut := fun _ _ => rfl, out_shut := fun _ _ => rfl }
end impl_logOK
/-! ### impl_StateOK: loop.example/g00220/impl.StateOK -/
namespace impl_StateOK
abbrev R := Bool
noncomputable def m (N : Nat) (a0 : State) : Option R :=
  ob (impl_within.m N a0.Term (0:Int) (1000000:Int)) fun y1 =>
  bif y1 then
    ob (impl_within.m N a0.Vote (-1:Int) (6:Int)) fun y2 =>
    bif (bif true then y2 else false) then
      ob (impl_logOK.m N a0.Log a0.Term) fun y3 =>
      some (bif true then y3 else false)
    else
    some false
  else
  some false
@[reducible] noncomputable def sp (N : Nat) : Spec E := { ps := [.val (.st 133)], rs := [.bool], own := true, dp := false, R := R, fn := fun x => m N x.1, res := fun r => (r, ()), out := fun r => ((), ()), shut := fun a b => a.1, res_shut := fun _ _ => rfl, out_shut := fun _ _ => rfl }
end impl_StateOK
/-! ### impl_reachOK: loop.example/g00220/impl.reachOK -/
namespace impl_reachOK
abbrev R := Bool
noncomputable def step4 (N : Nat) (a0 : List Int) (a1 : List Int) (a2 : Int) (rec : (Int × Int) → Option R) : (Int × Int) → Option R
  | (v3, v4) =>
    bif (decide (v4 < v3)) then
      bif (decide (0 ≤ v4)) then
      bif (decide (v4 < (a0.length : Int))) then
      ob (impl_within.m N (a0.getD (Int.toNat v4) (0:Int)) (1:Int) (w64 (a2 + (1:Int)))) fun y1 =>
      bif (!y1) then
        some false
      else
      bif (decide (0 ≤ v4)) then
      bif (decide (v4 < (a1.length : Int))) then
      bif (decide (0 ≤ v4)) then
      bif (decide (v4 < (a0.length : Int))) then
      ob (impl_within.m N (a1.getD (Int.toNat v4) (0:Int)) (0:Int) (w64 ((a0.getD (Int.toNat v4) (0:Int)) - (1:Int)))) fun y2 =>
      bif (bif false then true else (!y2)) then
        some false
      else
      rec (v3, (w64 (v4 + (1:Int))))
      else none
      else none
      else none
      else none
      else none
      else none
    else
    some true
noncomputable def lp4 (N : Nat) (a0 : List Int) (a1 : List Int) (a2 : Int) : (Int × Int) → Option R :=
  miter (fun rec => step4 N a0 a1 a2 rec) N
noncomputable def m (N : Nat) (a0 : List Int) (a1 : List Int) (a2 : Int) : Option R :=
  bif ((a0.length : Int) != (7:Int)) then
    some false
  else
  bif (bif false then true else ((a1.length : Int) != (7:Int))) then
    some false
  else
  lp4 N a0 a1 a2 ((a0.length : Int), (0:Int))
@[reducible] noncomputable def sp (N : Nat) : Spec E := { ps := [.val (.slice 3 (.int .i64)), .val (.slice 3 (.int .i64)), .val (.int .i64)], rs := [.bool], own := true, dp := false, R := R, fn := fun x => m N x.1 x.2.1 x.2.2.1, res := fun r => (r, ()), out := fun r => ((), (), (), ()), shut := fun a b => a.1, res_shut := fun _ _ => rfl, out_shut := fun _ _ => rfl }
end impl_reachOK
/-! ### impl_NodeOK: loop.example/g00220/impl.NodeOK -/
namespace impl_NodeOK
abbrev R := Bool
noncomputable def m (N : Nat) (a0 : Node) : Option R :=
  ob (impl_isNumber.m N a0.Id) fun y1 =>
  bif (!y1) then
    some false
  else
  ob (impl_StateOK.m N (State.mk a0.Term a0.Vote a0.Log)) fun y2 =>
  bif (bif false then true else (!y2)) then
    some false
  else
  ob (impl_membersOK.m N a0.Start) fun y3 =>
  bif (bif false then true else (!y3)) then
    some false
  else
  ob (impl_areNumbers.m N a0.Votes) fun y4 =>
  bif (bif false then true else (!y4)) then
    some false
  else
  ob (impl_areRising.m N a0.Votes) fun y5 =>
  bif (bif false then true else (!y5)) then
    some false
  else
  ob (impl_within.m N a0.Role (0:Int) (2:Int)) fun y6 =>
  bif (!y6) then
    some false
  else
  bif (!a0.Up) then
    bif (bif false then true else (bif true then (a0.Role != (0:Int)) else false)) then
      some false
    else
    ob (impl_reachOK.m N a0.Next a0.Match (a0.Log.length : Int)) fun y7 =>
    bif (bif false then true else (!y7)) then
      some false
    else
    ob (impl_within.m N a0.Commit (0:Int) (a0.Log.length : Int)) fun y8 =>
    bif y8 then
      ob (impl_within.m N a0.Elapsed (0:Int) (1000:Int)) fun y9 =>
      bif (bif true then y9 else false) then
        ob (impl_within.m N a0.Wait (5:Int) (100:Int)) fun y10 =>
        some (bif true then y10 else false)
      else
      some false
    else
    some false
  else
  bif (bif false then true else false) then
    some false
  else
  ob (impl_reachOK.m N a0.Next a0.Match (a0.Log.length : Int)) fun y11 =>
  bif (bif false then true else (!y11)) then
    some false
  else
  ob (impl_within.m N a0.Commit (0:Int) (a0.Log.length : Int)) fun y12 =>
  bif y12 then
    ob (impl_within.m N a0.Elapsed (0:Int) (1000:Int)) fun y13 =>
    bif (bif true then y13 else false) then
      ob (impl_within.m N a0.Wait (5:Int) (100:Int)) fun y14 =>
      some (bif true then y14 else false)
    else
    some false
  else
  some false
@[reducible] noncomputable def sp (N : Nat) : Spec E := { ps := [.val (.st 50)], rs := [.bool], own := true, dp := false, R := R, fn := fun x => m N x.1, res := fun r => (r, ()), out := fun r => ((), ()), shut := fun a b => a.1, res_shut := fun _ _ => rfl, out_shut := fun _ _ => rfl }
end impl_NodeOK
end Mir.Y
