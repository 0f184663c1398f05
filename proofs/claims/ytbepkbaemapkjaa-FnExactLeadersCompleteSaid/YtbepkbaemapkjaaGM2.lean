/- Models of functions. -/
import Derived.Test.YtbepkbaemapkjaaGM1
namespace Mir.Y
set_option linter.unusedVariables false
set_option maxRecDepth 10000
open Go Go.Proofs Mir
/-! ### impl_Message_entriesOK: (loop.example/g00220/impl.Message).entriesOK -/
namespace impl_Message_entriesOK
abbrev R := Bool
noncomputable def step3 (N : Nat) (a0 : Message) (rec : (Int × Int × Int) → Option R) : (Int × Int × Int) → Option R
  | (v0, v2, v3) =>
    bif (decide (v3 < v2)) then
      bif (decide (0 ≤ v3)) then
      bif (decide (v3 < (a0.Entries.length : Int))) then
      ob (impl_entryOK.m N (a0.Entries.getD (Int.toNat v3) Entry.dz)) fun y1 =>
      bif (!y1) then
        some false
      else
      ob (impl_within.m N ((a0.Entries.getD (Int.toNat v3) Entry.dz).Term) v0 a0.Term) fun y2 =>
      bif (bif false then true else (!y2)) then
        some false
      else
      rec ((a0.Entries.getD (Int.toNat v3) Entry.dz).Term, v2, (w64 (v3 + (1:Int))))
      else none
      else none
    else
    bif (decide ((w64 (a0.Index + (a0.Entries.length : Int))) ≤ (60:Int))) then
      bif (decide (a0.Index > (0:Int))) then
        some (bif true then true else false)
      else
      some (bif true then (bif false then true else (a0.LogTerm == (0:Int))) else false)
    else
    some false
noncomputable def lp3 (N : Nat) (a0 : Message) : (Int × Int × Int) → Option R :=
  miter (fun rec => step3 N a0 rec) N
noncomputable def m (N : Nat) (a0 : Message) : Option R :=
  lp3 N a0 (a0.LogTerm, (a0.Entries.length : Int), (0:Int))
@[reducible] noncomputable def sp (N : Nat) : Spec E := { ps := [.val (.st 113)], rs := [.bool], own := true, dp := false, R := R, fn := fun x => m N x.1, res := fun r => (r, ()), out := fun r => ((), ()), shut := fun a b => a.1, res_shut := fun _ _ => rfl, out_shut := fun _ _ => rfl }
end impl_Message_entriesOK
/-! ### impl_messageOK: loop.example/g00220/impl.messageOK -/
namespace impl_messageOK
abbrev R := Bool
noncomputable def m (N : Nat) (a0 : Message) : Option R :=
  ob (impl_within.m N a0.Kind (1:Int) (4:Int)) fun y1 =>
  bif (!y1) then
    some false
  else
  ob (impl_isNumber.m N a0.From) fun y2 =>
  bif (bif false then true else (!y2)) then
    some false
  else
  ob (impl_isNumber.m N a0.To) fun y3 =>
  bif (bif false then true else (!y3)) then
    some false
  else
  bif (bif false then true else (a0.From == a0.To)) then
    some false
  else
  ob (impl_within.m N a0.Term (1:Int) (1000000:Int)) fun y4 =>
  bif (bif false then true else (!y4)) then
    some false
  else
  ob (impl_within.m N a0.LogTerm (0:Int) a0.Term) fun y5 =>
  bif (!y5) then
    some false
  else
  ob (impl_within.m N a0.Index (0:Int) (60:Int)) fun y6 =>
  bif (bif false then true else (!y6)) then
    some false
  else
  ob (impl_within.m N a0.Commit (0:Int) (60:Int)) fun y7 =>
  bif (bif false then true else (!y7)) then
    some false
  else
  bif (a0.Kind != (3:Int)) then
    some ((a0.Entries.length : Int) == (0:Int))
  else
  bif (decide ((a0.Entries.length : Int) ≤ (60:Int))) then
    ob (impl_Message_entriesOK.m N a0) fun y8 =>
    some (bif true then y8 else false)
  else
  some false
@[reducible] noncomputable def sp (N : Nat) : Spec E := { ps := [.val (.st 113)], rs := [.bool], own := true, dp := false, R := R, fn := fun x => m N x.1, res := fun r => (r, ()), out := fun r => ((), ()), shut := fun a b => a.1, res_shut := fun _ _ => rfl, out_shut := fun _ _ => rfl }
end impl_messageOK
/-! ### impl_GroupOK_1: loop.example/g00220/impl.GroupOK$1 -/
namespace impl_GroupOK_1
abbrev R := Bool
noncomputable def m (N : Nat) (a0 : Message) : Option R :=
  ob (impl_messageOK.m N a0) fun y1 =>
  some (!y1)
@[reducible] noncomputable def sp (N : Nat) : Spec E := { ps := [.val (.st 113)], rs := [.bool], own := true, dp := false, R := R, fn := fun x => m N x.1, res := fun r => (r, ()), out := fun r => ((), ()), shut := fun a b => a.1, res_shut := fun _ _ => rfl, out_shut := fun _ _ => rfl }
end impl_GroupOK_1
/-! ### slices_IndexFunc_impl_Message_impl_Message__impl_GroupOK_1: slices.IndexFunc[[]loop.example/g00220/impl.Message,loop.example/g00220/impl.Message] -/
namespace slices_IndexFunc_impl_Message_impl_Message__impl_GroupOK_1
abbrev R := Int
noncomputable def step2 (N : Nat) (a0 : List Message) (rec : (Int × Int) → Option R) : (Int × Int) → Option R
  | (v1, v2) =>
    bif (decide (v2 < v1)) then
      bif (decide (0 ≤ v2)) then
      bif (decide (v2 < (a0.length : Int))) then
      ob (impl_GroupOK_1.m N (a0.getD (Int.toNat v2) Message.dz)) fun y1 =>
      bif y1 then
        some v2
      else
      rec (v1, (w64 (v2 + (1:Int))))
      else none
      else none
    else
    some (-1:Int)
noncomputable def lp2 (N : Nat) (a0 : List Message) : (Int × Int) → Option R :=
  miter (fun rec => step2 N a0 rec) N
noncomputable def m (N : Nat) (a0 : List Message) : Option R :=
  lp2 N a0 ((a0.length : Int), (0:Int))
@[reducible] noncomputable def sp (N : Nat) : Spec E := { ps := [.val (.slice 113 (.st 113)), .clo 79 []], rs := [(.int .i64)], own := true, dp := false, R := R, fn := fun x => m N x.1, res := fun r => (r, ()), out := fun r => ((), (), ()), shut := fun a b => a.1, res_shut := fun _ _ => rfl, out_shut := fun _ _ => rfl }
end slices_IndexFunc_impl_Message_impl_Message__impl_GroupOK_1
/-! ### slices_ContainsFunc_impl_Message_impl_Message__impl_GroupOK_1: slices.ContainsFunc[[]loop.example/g00220/impl.Message,loop.example/g00220/impl.Message] -/
namespace slices_ContainsFunc_impl_Message_impl_Message__impl_GroupOK_1
abbrev R := Bool
noncomputable def m (N : Nat) (a0 : List Message) : Option R :=
  ob (slices_IndexFunc_impl_Message_impl_Message__impl_GroupOK_1.m N a0) fun y1 =>
  some (decide (y1 ≥ (0:Int)))
@[reducible] noncomputable def sp (N : Nat) : Spec E := { ps := [.val (.slice 113 (.st 113)), .clo 79 []], rs := [.bool], own := true, dp := false, R := R, fn := fun x => m N x.1, res := fun r => (r, ()), out := fun r => ((), (), ()), shut := fun a b => a.1, res_shut := fun _ _ => rfl, out_shut := fun _ _ => rfl }
end slices_ContainsFunc_impl_Message_impl_Message__impl_GroupOK_1
/-! ### impl_GroupOK: loop.example/g00220/impl.GroupOK -/
namespace impl_GroupOK
abbrev R := Bool
noncomputable def step4 (N : Nat) (a0 : Group) (rec : (Int × Int) → Option R) : (Int × Int) → Option R
  | (v1, v2) =>
    bif (decide (v2 < v1)) then
      bif (decide (0 ≤ v2)) then
      bif (decide (v2 < (a0.Nodes.length : Int))) then
      ob (impl_NodeOK.m N (a0.Nodes.getD (Int.toNat v2) Node.dz)) fun y4 =>
      bif (!y4) then
        some false
      else
      bif (bif false then true else ((a0.Nodes.getD (Int.toNat v2) Node.dz).Id != v2)) then
        some false
      else
      rec (v1, (w64 (v2 + (1:Int))))
      else none
      else none
    else
    ob (slices_ContainsFunc_impl_Message_impl_Message__impl_GroupOK_1.m N a0.Wire) fun y5 =>
    some (!y5)
noncomputable def lp4 (N : Nat) (a0 : Group) : (Int × Int) → Option R :=
  miter (fun rec => step4 N a0 rec) N
noncomputable def m (N : Nat) (a0 : Group) : Option R :=
  ob (impl_within.m N (a0.Nodes.length : Int) (1:Int) (5:Int)) fun y1 =>
  bif (!y1) then
    some false
  else
  bif (bif false then true else (decide ((a0.Wire.length : Int) > (60:Int)))) then
    some false
  else
  ob (impl_isList_impl_Lead.m N a0.Leads) fun y2 =>
  bif (bif false then true else (!y2)) then
    some false
  else
  ob (impl_isList_impl_Done.m N a0.Dones) fun y3 =>
  bif (bif false then true else (!y3)) then
    some false
  else
  lp4 N a0 ((a0.Nodes.length : Int), (0:Int))
@[reducible] noncomputable def sp (N : Nat) : Spec E := { ps := [.val (.st 36)], rs := [.bool], own := true, dp := false, R := R, fn := fun x => m N x.1, res := fun r => (r, ()), out := fun r => ((), ()), shut := fun a b => a.1, res_shut := fun _ _ => rfl, out_shut := fun _ _ => rfl }
end impl_GroupOK
/-! ### impl_CommitsAgree: loop.example/g00220/impl.CommitsAgree -/
namespace impl_CommitsAgree
abbrev R := Bool × Int
noncomputable def m (N : Nat) (a0 : Group) : Option R :=
  ob (impl_GroupOK.m N a0) fun y1 =>
  bif (!y1) then
    some (false, (1:Int))
  else
  none
@[reducible] noncomputable def sp (N : Nat) : Spec E := { ps := [.val (.st 36)], rs := [.bool, (.int .i64)], own := true, dp := false, R := R, fn := fun x => m N x.1, res := fun r => (r.1, r.2, ()), out := fun r => ((), ()), shut := fun a b => (a.1, a.2.1), res_shut := fun _ _ => rfl, out_shut := fun _ _ => rfl }
end impl_CommitsAgree
/-! ### laws_eqEntry: loop.example/g00220/laws.eqEntry -/
namespace laws_eqEntry
abbrev R := Bool
noncomputable def m (N : Nat) (a0 : Entry) (a1 : Entry) : Option R :=
  bif (a0.Term != a1.Term) then
    some false
  else
  bif (a0.Kind != a1.Kind) then
    some false
  else
  bif (!seq a0.Data a1.Data) then
    some false
  else
  some true
@[reducible] noncomputable def sp (N : Nat) : Spec E := { ps := [.val (.st 58), .val (.st 58)], rs := [.bool], own := true, dp := false, R := R, fn := fun x => m N x.1 x.2.1, res := fun r => (r, ()), out := fun r => ((), (), ()), shut := fun a b => a.1, res_shut := fun _ _ => rfl, out_shut := fun _ _ => rfl }
end laws_eqEntry
/-! ### laws_eqEntryS: loop.example/g00220/laws.eqEntryS -/
namespace laws_eqEntryS
abbrev R := Bool
noncomputable def step4 (N : Nat) (a0 : List Entry) (a1 : List Entry) (rec : Int → Option R) : Int → Option R
  | v2 =>
    bif (decide (v2 < (a0.length : Int))) then
      bif (decide (0 ≤ v2)) then
      bif (decide (v2 < (a0.length : Int))) then
      bif (decide (0 ≤ v2)) then
      bif (decide (v2 < (a1.length : Int))) then
      ob (laws_eqEntry.m N (a0.getD (Int.toNat v2) Entry.dz) (a1.getD (Int.toNat v2) Entry.dz)) fun y1 =>
      bif (!y1) then
        some false
      else
      rec (w64 (v2 + (1:Int)))
      else none
      else none
      else none
      else none
    else
    some true
noncomputable def lp4 (N : Nat) (a0 : List Entry) (a1 : List Entry) : Int → Option R :=
  miter (fun rec => step4 N a0 a1 rec) N
noncomputable def m (N : Nat) (a0 : List Entry) (a1 : List Entry) : Option R :=
  bif ((a0.length : Int) != (a1.length : Int)) then
    some false
  else
  lp4 N a0 a1 (0:Int)
@[reducible] noncomputable def sp (N : Nat) : Spec E := { ps := [.val (.slice 58 (.st 58)), .val (.slice 58 (.st 58))], rs := [.bool], own := true, dp := false, R := R, fn := fun x => m N x.1 x.2.1, res := fun r => (r, ()), out := fun r => ((), (), ()), shut := fun a b => a.1, res_shut := fun _ _ => rfl, out_shut := fun _ _ => rfl }
end laws_eqEntryS
/-! ### laws_eqIntS: loop.example/g00220/laws.eqIntS -/
namespace laws_eqIntS
abbrev R := Bool
noncomputable def step4 (N : Nat) (a0 : List Int) (a1 : List Int) (rec : Int → Option R) : Int → Option R
  | v2 =>
    bif (decide (v2 < (a0.length : Int))) then
      bif (decide (0 ≤ v2)) then
      bif (decide (v2 < (a0.length : Int))) then
      bif (decide (0 ≤ v2)) then
      bif (decide (v2 < (a1.length : Int))) then
      bif ((a0.getD (Int.toNat v2) (0:Int)) != (a1.getD (Int.toNat v2) (0:Int))) then
        some false
      else
      rec (w64 (v2 + (1:Int)))
      else none
      else none
      else none
      else none
    else
    some true
noncomputable def lp4 (N : Nat) (a0 : List Int) (a1 : List Int) : Int → Option R :=
  miter (fun rec => step4 N a0 a1 rec) N
noncomputable def m (N : Nat) (a0 : List Int) (a1 : List Int) : Option R :=
  bif ((a0.length : Int) != (a1.length : Int)) then
    some false
  else
  lp4 N a0 a1 (0:Int)
@[reducible] noncomputable def sp (N : Nat) : Spec E := { ps := [.val (.slice 3 (.int .i64)), .val (.slice 3 (.int .i64))], rs := [.bool], own := true, dp := false, R := R, fn := fun x => m N x.1 x.2.1, res := fun r => (r, ()), out := fun r => ((), (), ()), shut := fun a b => a.1, res_shut := fun _ _ => rfl, out_shut := fun _ _ => rfl }
end laws_eqIntS
/-! ### laws_eqNode: loop.example/g00220/laws.eqNode -/
namespace laws_eqNode
abbrev R := Bool
noncomputable def m (N : Nat) (a0 : Node) (a1 : Node) : Option R :=
  bif (a0.Id != a1.Id) then
    some false
  else
  bif (a0.Term != a1.Term) then
    some false
  else
  bif (a0.Vote != a1.Vote) then
    some false
  else
  ob (laws_eqEntryS.m N a0.Log a1.Log) fun y1 =>
  bif (!y1) then
    some false
  else
  ob (laws_eqIntS.m N a0.Start a1.Start) fun y2 =>
  bif (!y2) then
    some false
  else
  bif (a0.Role != a1.Role) then
    some false
  else
  ob (laws_eqIntS.m N a0.Votes a1.Votes) fun y3 =>
  bif (!y3) then
    some false
  else
  ob (laws_eqIntS.m N a0.Next a1.Next) fun y4 =>
  bif (!y4) then
    some false
  else
  ob (laws_eqIntS.m N a0.Match a1.Match) fun y5 =>
  bif (!y5) then
    some false
  else
  bif (a0.Commit != a1.Commit) then
    some false
  else
  bif (a0.Elapsed != a1.Elapsed) then
    some false
  else
  bif (a0.Wait != a1.Wait) then
    some false
  else
  bif (!(a0.Up == a1.Up)) then
    some false
  else
  some true
@[reducible] noncomputable def sp (N : Nat) : Spec E := { ps := [.val (.st 50), .val (.st 50)], rs := [.bool], own := true, dp := false, R := R, fn := fun x => m N x.1 x.2.1, res := fun r => (r, ()), out := fun r => ((), (), ()), shut := fun a b => a.1, res_shut := fun _ _ => rfl, out_shut := fun _ _ => rfl }
end laws_eqNode
/-! ### laws_eqNodeS: loop.example/g00220/laws.eqNodeS -/
namespace laws_eqNodeS
abbrev R := Bool
noncomputable def step4 (N : Nat) (a0 : List Node) (a1 : List Node) (rec : Int → Option R) : Int → Option R
  | v2 =>
    bif (decide (v2 < (a0.length : Int))) then
      bif (decide (0 ≤ v2)) then
      bif (decide (v2 < (a0.length : Int))) then
      bif (decide (0 ≤ v2)) then
      bif (decide (v2 < (a1.length : Int))) then
      ob (laws_eqNode.m N (a0.getD (Int.toNat v2) Node.dz) (a1.getD (Int.toNat v2) Node.dz)) fun y1 =>
      bif (!y1) then
        some false
      else
      rec (w64 (v2 + (1:Int)))
      else none
      else none
      else none
      else none
    else
    some true
noncomputable def lp4 (N : Nat) (a0 : List Node) (a1 : List Node) : Int → Option R :=
  miter (fun rec => step4 N a0 a1 rec) N
noncomputable def m (N : Nat) (a0 : List Node) (a1 : List Node) : Option R :=
  bif ((a0.length : Int) != (a1.length : Int)) then
    some false
  else
  lp4 N a0 a1 (0:Int)
@[reducible] noncomputable def sp (N : Nat) : Spec E := { ps := [.val (.slice 50 (.st 50)), .val (.slice 50 (.st 50))], rs := [.bool], own := true, dp := false, R := R, fn := fun x => m N x.1 x.2.1, res := fun r => (r, ()), out := fun r => ((), (), ()), shut := fun a b => a.1, res_shut := fun _ _ => rfl, out_shut := fun _ _ => rfl }
end laws_eqNodeS
/-! ### laws_eqMessage: loop.example/g00220/laws.eqMessage -/
namespace laws_eqMessage
abbrev R := Bool
noncomputable def m (N : Nat) (a0 : Message) (a1 : Message) : Option R :=
  bif (a0.Kind != a1.Kind) then
    some false
  else
  bif (a0.From != a1.From) then
    some false
  else
  bif (a0.To != a1.To) then
    some false
  else
  bif (a0.Term != a1.Term) then
    some false
  else
  bif (a0.Index != a1.Index) then
    some false
  else
  bif (a0.LogTerm != a1.LogTerm) then
    some false
  else
  bif (a0.Commit != a1.Commit) then
    some false
  else
  ob (laws_eqEntryS.m N a0.Entries a1.Entries) fun y1 =>
  bif (!y1) then
    some false
  else
  bif (!(a0.Ok == a1.Ok)) then
    some false
  else
  some true
@[reducible] noncomputable def sp (N : Nat) : Spec E := { ps := [.val (.st 113), .val (.st 113)], rs := [.bool], own := true, dp := false, R := R, fn := fun x => m N x.1 x.2.1, res := fun r => (r, ()), out := fun r => ((), (), ()), shut := fun a b => a.1, res_shut := fun _ _ => rfl, out_shut := fun _ _ => rfl }
end laws_eqMessage
/-! ### laws_eqMessageS: loop.example/g00220/laws.eqMessageS -/
namespace laws_eqMessageS
abbrev R := Bool
noncomputable def step4 (N : Nat) (a0 : List Message) (a1 : List Message) (rec : Int → Option R) : Int → Option R
  | v2 =>
    bif (decide (v2 < (a0.length : Int))) then
      bif (decide (0 ≤ v2)) then
      bif (decide (v2 < (a0.length : Int))) then
      bif (decide (0 ≤ v2)) then
      bif (decide (v2 < (a1.length : Int))) then
      ob (laws_eqMessage.m N (a0.getD (Int.toNat v2) Message.dz) (a1.getD (Int.toNat v2) Message.dz)) fun y1 =>
      bif (!y1) then
        some false
      else
      rec (w64 (v2 + (1:Int)))
      else none
      else none
      else none
      else none
    else
    some true
noncomputable def lp4 (N : Nat) (a0 : List Message) (a1 : List Message) : Int → Option R :=
  miter (fun rec => step4 N a0 a1 rec) N
noncomputable def m (N : Nat) (a0 : List Message) (a1 : List Message) : Option R :=
  bif ((a0.length : Int) != (a1.length : Int)) then
    some false
  else
  lp4 N a0 a1 (0:Int)
@[reducible] noncomputable def sp (N : Nat) : Spec E := { ps := [.val (.slice 113 (.st 113)), .val (.slice 113 (.st 113))], rs := [.bool], own := true, dp := false, R := R, fn := fun x => m N x.1 x.2.1, res := fun r => (r, ()), out := fun r => ((), (), ()), shut := fun a b => a.1, res_shut := fun _ _ => rfl, out_shut := fun _ _ => rfl }
end laws_eqMessageS
/-! ### laws_eqLead: loop.example/g00220/laws.eqLead -/
namespace laws_eqLead
abbrev R := Bool
noncomputable def m (N : Nat) (a0 : Lead) (a1 : Lead) : Option R :=
  bif (a0.Term != a1.Term) then
    some false
  else
  bif (a0.Id != a1.Id) then
    some false
  else
  ob (laws_eqEntryS.m N a0.Log a1.Log) fun y1 =>
  bif (!y1) then
    some false
  else
  some true
@[reducible] noncomputable def sp (N : Nat) : Spec E := { ps := [.val (.st 78), .val (.st 78)], rs := [.bool], own := true, dp := false, R := R, fn := fun x => m N x.1 x.2.1, res := fun r => (r, ()), out := fun r => ((), (), ()), shut := fun a b => a.1, res_shut := fun _ _ => rfl, out_shut := fun _ _ => rfl }
end laws_eqLead
/-! ### laws_eqLeadS: loop.example/g00220/laws.eqLeadS -/
namespace laws_eqLeadS
abbrev R := Bool
noncomputable def step4 (N : Nat) (a0 : List Lead) (a1 : List Lead) (rec : Int → Option R) : Int → Option R
  | v2 =>
    bif (decide (v2 < (a0.length : Int))) then
      bif (decide (0 ≤ v2)) then
      bif (decide (v2 < (a0.length : Int))) then
      bif (decide (0 ≤ v2)) then
      bif (decide (v2 < (a1.length : Int))) then
      ob (laws_eqLead.m N (a0.getD (Int.toNat v2) Lead.dz) (a1.getD (Int.toNat v2) Lead.dz)) fun y1 =>
      bif (!y1) then
        some false
      else
      rec (w64 (v2 + (1:Int)))
      else none
      else none
      else none
      else none
    else
    some true
noncomputable def lp4 (N : Nat) (a0 : List Lead) (a1 : List Lead) : Int → Option R :=
  miter (fun rec => step4 N a0 a1 rec) N
noncomputable def m (N : Nat) (a0 : List Lead) (a1 : List Lead) : Option R :=
  bif ((a0.length : Int) != (a1.length : Int)) then
    some false
  else
  lp4 N a0 a1 (0:Int)
@[reducible] noncomputable def sp (N : Nat) : Spec E := { ps := [.val (.slice 78 (.st 78)), .val (.slice 78 (.st 78))], rs := [.bool], own := true, dp := false, R := R, fn := fun x => m N x.1 x.2.1, res := fun r => (r, ()), out := fun r => ((), (), ()), shut := fun a b => a.1, res_shut := fun _ _ => rfl, out_shut := fun _ _ => rfl }
end laws_eqLeadS
/-! ### laws_eqDone: loop.example/g00220/laws.eqDone -/
namespace laws_eqDone
abbrev R := Bool
noncomputable def m (N : Nat) (a0 : Done) (a1 : Done) : Option R :=
  bif (a0.Node != a1.Node) then
    some false
  else
  bif (a0.Term != a1.Term) then
    some false
  else
  bif (a0.Index != a1.Index) then
    some false
  else
  ob (laws_eqEntry.m N (Entry.mk a0.Entry.Term a0.Entry.Kind a0.Entry.Data) (Entry.mk a1.Entry.Term a1.Entry.Kind a1.Entry.Data)) fun y1 =>
  bif (!y1) then
    some false
  else
  some true
@[reducible] noncomputable def sp (N : Nat) : Spec E := { ps := [.val (.st 66), .val (.st 66)], rs := [.bool], own := true, dp := false, R := R, fn := fun x => m N x.1 x.2.1, res := fun r => (r, ()), out := fun r => ((), (), ()), shut := fun a b => a.1, res_shut := fun _ _ => rfl, out_shut := fun _ _ => rfl }
end laws_eqDone
/-! ### laws_eqDoneS: loop.example/g00220/laws.eqDoneS -/
namespace laws_eqDoneS
abbrev R := Bool
noncomputable def step4 (N : Nat) (a0 : List Done) (a1 : List Done) (rec : Int → Option R) : Int → Option R
  | v2 =>
    bif (decide (v2 < (a0.length : Int))) then
      bif (decide (0 ≤ v2)) then
      bif (decide (v2 < (a0.length : Int))) then
      bif (decide (0 ≤ v2)) then
      bif (decide (v2 < (a1.length : Int))) then
      ob (laws_eqDone.m N (Done.mk ((a0.getD (Int.toNat v2) Done.dz).Node) ((a0.getD (Int.toNat v2) Done.dz).Term) ((a0.getD (Int.toNat v2) Done.dz).Index) (Entry.mk ((a0.getD (Int.toNat v2) Done.dz).Entry.Term) ((a0.getD (Int.toNat v2) Done.dz).Entry.Kind) ((a0.getD (Int.toNat v2) Done.dz).Entry.Data))) (Done.mk ((a1.getD (Int.toNat v2) Done.dz).Node) ((a1.getD (Int.toNat v2) Done.dz).Term) ((a1.getD (Int.toNat v2) Done.dz).Index) (Entry.mk ((a1.getD (Int.toNat v2) Done.dz).Entry.Term) ((a1.getD (Int.toNat v2) Done.dz).Entry.Kind) ((a1.getD (Int.toNat v2) Done.dz).Entry.Data)))) fun y1 =>
      bif (!y1) then
        some false
      else
      rec (w64 (v2 + (1:Int)))
      else none
      else none
      else none
      else none
    else
    some true
noncomputable def lp4 (N : Nat) (a0 : List Done) (a1 : List Done) : Int → Option R :=
  miter (fun rec => step4 N a0 a1 rec) N
noncomputable def m (N : Nat) (a0 : List Done) (a1 : List Done) : Option R :=
  bif ((a0.length : Int) != (a1.length : Int)) then
    some false
  else
  lp4 N a0 a1 (0:Int)
@[reducible] noncomputable def sp (N : Nat) : Spec E := { ps := [.val (.slice 66 (.st 66)), .val (.slice 66 (.st 66))], rs := [.bool], own := true, dp := false, R := R, fn := fun x => m N x.1 x.2.1, res := fun r => (r, ()), out := fun r => ((), (), ()), shut := fun a b => a.1, res_shut := fun _ _ => rfl, out_shut := fun _ _ => rfl }
end laws_eqDoneS
/-! ### laws_eqGroup: loop.example/g00220/laws.eqGroup -/
namespace laws_eqGroup
abbrev R := Bool
noncomputable def m (N : Nat) (a0 : Group) (a1 : Group) : Option R :=
  ob (laws_eqNodeS.m N a0.Nodes a1.Nodes) fun y1 =>
  bif (!y1) then
    some false
  else
  ob (laws_eqMessageS.m N a0.Wire a1.Wire) fun y2 =>
  bif (!y2) then
    some false
  else
  ob (laws_eqLeadS.m N a0.Leads a1.Leads) fun y3 =>
  bif (!y3) then
    some false
  else
  ob (laws_eqDoneS.m N a0.Dones a1.Dones) fun y4 =>
  bif (!y4) then
    some false
  else
  some true
@[reducible] noncomputable def sp (N : Nat) : Spec E := { ps := [.val (.st 36), .val (.st 36)], rs := [.bool], own := true, dp := false, R := R, fn := fun x => m N x.1 x.2.1, res := fun r => (r, ()), out := fun r => ((), (), ()), shut := fun a b => a.1, res_shut := fun _ _ => rfl, out_shut := fun _ _ => rfl }
end laws_eqGroup
/-! ### laws_FnExactCommitsAgree: loop.example/g00220/laws.FnExactCommitsAgree -/
namespace laws_FnExactCommitsAgree
abbrev R := Bool
noncomputable def m (N : Nat) (a0 : Group) : Option R :=
  ob (laws_szGroup.m N (Group.mk a0.Nodes a0.Wire a0.Leads a0.Dones) (1048576:Int)) fun y1 =>
  bif (decide (y1 < (0:Int))) then
    some true
  else
  ob (laws_toGroup.m N (Group.mk a0.Nodes a0.Wire a0.Leads a0.Dones)) fun y2 =>
  ob (spec_CommitsAgree.m N y2) fun y3 =>
  ob (laws_toGroup.m N a0) fun y4 =>
  ob (impl_CommitsAgree.m N y4) fun y5 =>
  bif (!(y5.1 == y3.1)) then
    some false
  else
  bif (bif false then true else (y5.2 != y3.2)) then
    some false
  else
  ob (laws_toGroup.m N a0) fun y6 =>
  ob (laws_eqGroup.m N y4 y6) fun y7 =>
  bif (!y7) then
    some false
  else
  some true
@[reducible] noncomputable def sp (N : Nat) : Spec E := { ps := [.val (.st 27)], rs := [.bool], own := true, dp := false, R := R, fn := fun x => m N x.1, res := fun r => (r, ()), out := fun r => ((), ()), shut := fun a b => a.1, res_shut := fun _ _ => rfl, out_shut := fun _ _ => rfl }
end laws_FnExactCommitsAgree
/-! ### spec_LeadersComplete: loop.example/g00220/spec.LeadersComplete -/
namespace spec_LeadersComplete
abbrev R := Bool × Int
noncomputable def step4 (N : Nat) (a0 : Group) (lp8 : Int × Int × (List Node) × (List Message) × (List Lead) × (List Done) × Int × Int × Int × Int × Int × ByteArray → Option R) (rec : (Int × (List Node) × (List Message) × (List Lead) × (List Done)) → Option R) : (Int × (List Node) × (List Message) × (List Lead) × (List Done)) → Option R
  | (v0, v1, v2, v3, v4) =>
    bif (decide (v0 < (v4.length : Int))) then
      bif (decide (0 ≤ v0)) then
      bif (decide (v0 < (v4.length : Int))) then
      lp8 (v0, (0:Int), v1, v2, v3, v4, (v4.getD (Int.toNat v0) Done.dz).Node, (v4.getD (Int.toNat v0) Done.dz).Term, (v4.getD (Int.toNat v0) Done.dz).Index, (v4.getD (Int.toNat v0) Done.dz).Entry.Term, (v4.getD (Int.toNat v0) Done.dz).Entry.Kind, (v4.getD (Int.toNat v0) Done.dz).Entry.Data)
      else none
      else none
    else
    some (true, (0:Int))
noncomputable def step8 (N : Nat) (a0 : Group) (lp4 : Int × (List Node) × (List Message) × (List Lead) × (List Done) → Option R) (rec : (Int × Int × (List Node) × (List Message) × (List Lead) × (List Done) × Int × Int × Int × Int × Int × ByteArray) → Option R) : (Int × Int × (List Node) × (List Message) × (List Lead) × (List Done) × Int × Int × Int × Int × Int × ByteArray) → Option R
  | (v0, v1, v2, v3, v4, v5, v6, v7, v8, v9, v10, v11) =>
    bif (decide (v1 < (v4.length : Int))) then
      bif (decide (0 ≤ v1)) then
      bif (decide (v1 < (v4.length : Int))) then
      bif (decide ((v4.getD (Int.toNat v1) Lead.dz).Term > v7)) then
        bif (decide (v8 < (1:Int))) then
          bif (bif true then true else false) then
            some (false, (0:Int))
          else
          rec (v0, (w64 (v1 + (1:Int))), v2, v3, v4, v5, v6, v7, v8, v9, v10, v11)
        else
        bif (bif false then true else (decide (v8 > (((v4.getD (Int.toNat v1) Lead.dz).Log).length : Int)))) then
          bif (bif true then true else false) then
            some (false, (0:Int))
          else
          rec (v0, (w64 (v1 + (1:Int))), v2, v3, v4, v5, v6, v7, v8, v9, v10, v11)
        else
        bif (decide (0 ≤ (w64 (v8 - (1:Int))))) then
        bif (decide ((w64 (v8 - (1:Int))) < (((v4.getD (Int.toNat v1) Lead.dz).Log).length : Int))) then
        (let w2 : Bool := (!(((((v4.getD (Int.toNat v1) Lead.dz).Log).getD (Int.toNat (w64 (v8 - (1:Int)))) Entry.dz).Term == v9) && (((((v4.getD (Int.toNat v1) Lead.dz).Log).getD (Int.toNat (w64 (v8 - (1:Int)))) Entry.dz).Kind == v10) && (seq ((((v4.getD (Int.toNat v1) Lead.dz).Log).getD (Int.toNat (w64 (v8 - (1:Int)))) Entry.dz).Data) v11))))
        bif (bif true then (bif false then true else w2) else false) then
          some (false, (0:Int))
        else
        rec (v0, (w64 (v1 + (1:Int))), v2, v3, v4, v5, v6, v7, v8, v9, v10, v11))
        else none
        else none
      else
      rec (v0, (w64 (v1 + (1:Int))), v2, v3, v4, v5, v6, v7, v8, v9, v10, v11)
      else none
      else none
    else
    lp4 ((w64 (v0 + (1:Int))), v2, v3, v4, v5)
noncomputable def lp8 (N : Nat) (a0 : Group) (r4 : Int × (List Node) × (List Message) × (List Lead) × (List Done) → Option R) : (Int × Int × (List Node) × (List Message) × (List Lead) × (List Done) × Int × Int × Int × Int × Int × ByteArray) → Option R :=
  miter (fun rec => step8 N a0 r4 rec) N
noncomputable def lp4 (N : Nat) (a0 : Group) : (Int × (List Node) × (List Message) × (List Lead) × (List Done)) → Option R :=
  miter (fun rec => step4 N a0 (lp8 N a0 rec) rec) N
noncomputable def m (N : Nat) (a0 : Group) : Option R :=
  ob (spec_GroupOK.m N a0) fun y1 =>
  bif (!y1) then
    some (false, (1:Int))
  else
  lp4 N a0 ((0:Int), a0.Nodes, a0.Wire, a0.Leads, a0.Dones)
@[reducible] noncomputable def sp (N : Nat) : Spec E := { ps := [.val (.st 36)], rs := [.bool, (.int .i64)], own := true, dp := false, R := R, fn := fun x => m N x.1, res := fun r => (r.1, r.2, ()), out := fun r => ((), ()), shut := fun a b => (a.1, a.2.1), res_shut := fun _ _ => rfl, out_shut := fun _ _ => rfl }
end spec_LeadersComplete
/-! ### impl_Lead_has: (loop.example/g00220/impl.Lead).has -/
namespace impl_Lead_has
abbrev R := Bool
noncomputable def m (N : Nat) (a0 : Lead) (a1 : Done) : Option R :=
  ob (impl_within.m N a1.Index (1:Int) (a0.Log.length : Int)) fun y1 =>
  bif y1 then
    bif (decide (0 ≤ (w64 (a1.Index - (1:Int))))) then
    bif (decide ((w64 (a1.Index - (1:Int))) < (a0.Log.length : Int))) then
    (let w2 : Bool := (((a0.Log.getD (Int.toNat (w64 (a1.Index - (1:Int)))) Entry.dz).Term == a1.Entry.Term) && (((a0.Log.getD (Int.toNat (w64 (a1.Index - (1:Int)))) Entry.dz).Kind == a1.Entry.Kind) && (seq ((a0.Log.getD (Int.toNat (w64 (a1.Index - (1:Int)))) Entry.dz).Data) a1.Entry.Data)))
    some (bif true then w2 else false))
    else none
    else none
  else
  some false
@[reducible] noncomputable def sp (N : Nat) : Spec E := { ps := [.val (.st 78), .val (.st 66)], rs := [.bool], own := true, dp := false, R := R, fn := fun x => m N x.1 x.2.1, res := fun r => (r, ()), out := fun r => ((), (), ()), shut := fun a b => a.1, res_shut := fun _ _ => rfl, out_shut := fun _ _ => rfl }
end impl_Lead_has
/-! ### impl_LeadersComplete: loop.example/g00220/impl.LeadersComplete -/
namespace impl_LeadersComplete
abbrev R := Bool × Int
noncomputable def step4 (N : Nat) (a0 : Group) (lp7 : Int × Int × (List Done) × Int × Int × (List Node) × (List Message) × (List Lead) × (List Done) × Int × Int × (List Entry) → Option R) (rec : (Int × Int × (List Node) × (List Message) × (List Lead) × (List Done)) → Option R) : (Int × Int × (List Node) × (List Message) × (List Lead) × (List Done)) → Option R
  | (v1, v2, v3, v4, v5, v6) =>
    bif (decide (v2 < v1)) then
      bif (decide (0 ≤ v2)) then
      bif (decide (v2 < (a0.Leads.length : Int))) then
      lp7 (v1, v2, v6, (v6.length : Int), (0:Int), v3, v4, v5, v6, (a0.Leads.getD (Int.toNat v2) Lead.dz).Term, (a0.Leads.getD (Int.toNat v2) Lead.dz).Id, (a0.Leads.getD (Int.toNat v2) Lead.dz).Log)
      else none
      else none
    else
    some (true, (0:Int))
noncomputable def step7 (N : Nat) (a0 : Group) (lp4 : Int × Int × (List Node) × (List Message) × (List Lead) × (List Done) → Option R) (rec : (Int × Int × (List Done) × Int × Int × (List Node) × (List Message) × (List Lead) × (List Done) × Int × Int × (List Entry)) → Option R) : (Int × Int × (List Done) × Int × Int × (List Node) × (List Message) × (List Lead) × (List Done) × Int × Int × (List Entry)) → Option R
  | (v1, v2, v3, v4, v5, v6, v7, v8, v9, v10, v11, v12) =>
    bif (decide (v5 < v4)) then
      bif (decide (0 ≤ v5)) then
      bif (decide (v5 < (v3.length : Int))) then
      bif (decide (v10 > (v3.getD (Int.toNat v5) Done.dz).Term)) then
        ob (impl_Lead_has.m N (Lead.mk v10 v11 v12) (Done.mk ((v3.getD (Int.toNat v5) Done.dz).Node) ((v3.getD (Int.toNat v5) Done.dz).Term) ((v3.getD (Int.toNat v5) Done.dz).Index) (Entry.mk ((v3.getD (Int.toNat v5) Done.dz).Entry.Term) ((v3.getD (Int.toNat v5) Done.dz).Entry.Kind) ((v3.getD (Int.toNat v5) Done.dz).Entry.Data)))) fun y2 =>
        bif (bif true then (!y2) else false) then
          some (false, (0:Int))
        else
        rec (v1, v2, v3, v4, (w64 (v5 + (1:Int))), v6, v7, v8, v9, v10, v11, v12)
      else
      rec (v1, v2, v3, v4, (w64 (v5 + (1:Int))), v6, v7, v8, v9, v10, v11, v12)
      else none
      else none
    else
    lp4 (v1, (w64 (v2 + (1:Int))), v6, v7, v8, v9)
noncomputable def lp7 (N : Nat) (a0 : Group) (r4 : Int × Int × (List Node) × (List Message) × (List Lead) × (List Done) → Option R) : (Int × Int × (List Done) × Int × Int × (List Node) × (List Message) × (List Lead) × (List Done) × Int × Int × (List Entry)) → Option R :=
  miter (fun rec => step7 N a0 r4 rec) N
noncomputable def lp4 (N : Nat) (a0 : Group) : (Int × Int × (List Node) × (List Message) × (List Lead) × (List Done)) → Option R :=
  miter (fun rec => step4 N a0 (lp7 N a0 rec) rec) N
noncomputable def m (N : Nat) (a0 : Group) : Option R :=
  ob (impl_GroupOK.m N a0) fun y1 =>
  bif (!y1) then
    some (false, (1:Int))
  else
  lp4 N a0 ((a0.Leads.length : Int), (0:Int), a0.Nodes, a0.Wire, a0.Leads, a0.Dones)
@[reducible] noncomputable def sp (N : Nat) : Spec E := { ps := [.val (.st 36)], rs := [.bool, (.int .i64)], own := true, dp := false, R := R, fn := fun x => m N x.1, res := fun r => (r.1, r.2, ()), out := fun r => ((), ()), shut := fun a b => (a.1, a.2.1), res_shut := fun _ _ => rfl, out_shut := fun _ _ => rfl }
end impl_LeadersComplete
/-! ### laws_FnExactLeadersComplete: loop.example/g00220/laws.FnExactLeadersComplete -/
namespace laws_FnExactLeadersComplete
abbrev R := Bool
noncomputable def m (N : Nat) (a0 : Group) : Option R :=
  ob (laws_szGroup.m N a0 (1048576:Int)) fun y1 =>
  bif (decide (y1 < (0:Int))) then
    some true
  else
  ob (laws_toGroup.m N a0) fun y2 =>
  ob (spec_LeadersComplete.m N y2) fun y3 =>
  ob (laws_toGroup.m N a0) fun y4 =>
  ob (impl_LeadersComplete.m N y4) fun y5 =>
  bif (!(y5.1 == y3.1)) then
    some false
  else
  bif (bif false then true else (y5.2 != y3.2)) then
    some false
  else
  ob (laws_toGroup.m N a0) fun y6 =>
  ob (laws_eqGroup.m N y4 y6) fun y7 =>
  bif (!y7) then
    some false
  else
  some true
@[reducible] noncomputable def sp (N : Nat) : Spec E := { ps := [.val (.st 27)], rs := [.bool], own := true, dp := false, R := R, fn := fun x => m N x.1, res := fun r => (r, ()), out := fun r => ((), ()), shut := fun a b => a.1, res_shut := fun _ _ => rfl, out_shut := fun _ _ => rfl }
end laws_FnExactLeadersComplete
/-! ### spec_l12One: loop.example/g00220/spec.l12One -/
namespace spec_l12One
abbrev R := Bool
noncomputable def step2 (N : Nat) (a0 : Group) (lp5 : Int × Int × (List Node) × (List Message) × (List Lead) × (List Done) → Option R) (rec : (Int × (List Node) × (List Message) × (List Lead) × (List Done)) → Option R) : (Int × (List Node) × (List Message) × (List Lead) × (List Done)) → Option R
  | (v0, v1, v2, v3, v4) =>
    bif (decide (v0 < (v3.length : Int))) then
      lp5 (v0, (0:Int), v1, v2, v3, v4)
    else
    some true
noncomputable def step5 (N : Nat) (a0 : Group) (lp2 : Int × (List Node) × (List Message) × (List Lead) × (List Done) → Option R) (rec : (Int × Int × (List Node) × (List Message) × (List Lead) × (List Done)) → Option R) : (Int × Int × (List Node) × (List Message) × (List Lead) × (List Done)) → Option R
  | (v0, v1, v2, v3, v4, v5) =>
    bif (decide (v1 < v0)) then
      bif (decide (0 ≤ v0)) then
      bif (decide (v0 < (v4.length : Int))) then
      bif (decide (0 ≤ v1)) then
      bif (decide (v1 < (v4.length : Int))) then
      bif ((v4.getD (Int.toNat v0) Lead.dz).Term == (v4.getD (Int.toNat v1) Lead.dz).Term) then
        bif (decide (0 ≤ v0)) then
        bif (decide (v0 < (v4.length : Int))) then
        bif (decide (0 ≤ v1)) then
        bif (decide (v1 < (v4.length : Int))) then
        bif (bif true then ((v4.getD (Int.toNat v0) Lead.dz).Id != (v4.getD (Int.toNat v1) Lead.dz).Id) else false) then
          some false
        else
        rec (v0, (w64 (v1 + (1:Int))), v2, v3, v4, v5)
        else none
        else none
        else none
        else none
      else
      rec (v0, (w64 (v1 + (1:Int))), v2, v3, v4, v5)
      else none
      else none
      else none
      else none
    else
    lp2 ((w64 (v0 + (1:Int))), v2, v3, v4, v5)
noncomputable def lp5 (N : Nat) (a0 : Group) (r2 : Int × (List Node) × (List Message) × (List Lead) × (List Done) → Option R) : (Int × Int × (List Node) × (List Message) × (List Lead) × (List Done)) → Option R :=
  miter (fun rec => step5 N a0 r2 rec) N
noncomputable def lp2 (N : Nat) (a0 : Group) : (Int × (List Node) × (List Message) × (List Lead) × (List Done)) → Option R :=
  miter (fun rec => step2 N a0 (lp5 N a0 rec) rec) N
noncomputable def m (N : Nat) (a0 : Group) : Option R :=
  lp2 N a0 ((0:Int), a0.Nodes, a0.Wire, a0.Leads, a0.Dones)
@[reducible] noncomputable def sp (N : Nat) : Spec E := { ps := [.val (.st 36)], rs := [.bool], own := true, dp := false, R := R, fn := fun x => m N x.1, res := fun r => (r, ()), out := fun r => ((), ()), shut := fun a b => a.1, res_shut := fun _ _ => rfl, out_shut := fun _ _ => rfl }
end spec_l12One
/-! ### spec_OneLeader: loop.example/g00220/spec.OneLeader -/
namespace spec_OneLeader
abbrev R := Bool × Int
noncomputable def m (N : Nat) (a0 : Group) : Option R :=
  ob (spec_GroupOK.m N a0) fun y1 =>
  bif (!y1) then
    some (false, (1:Int))
  else
  ob (spec_l12One.m N a0) fun y2 =>
  some (y2, (0:Int))
@[reducible] noncomputable def sp (N : Nat) : Spec E := { ps := [.val (.st 36)], rs := [.bool, (.int .i64)], own := true, dp := false, R := R, fn := fun x => m N x.1, res := fun r => (r.1, r.2, ()), out := fun r => ((), ()), shut := fun a b => (a.1, a.2.1), res_shut := fun _ _ => rfl, out_shut := fun _ _ => rfl }
end spec_OneLeader
/-! ### impl_OneLeader_1: loop.example/g00220/impl.OneLeader$1 -/
namespace impl_OneLeader_1
abbrev R := Bool
noncomputable def m (N : Nat) (a0 : Lead) (a1 : Lead) : Option R :=
  bif (a0.Term != a1.Term) then
    some true
  else
  some (bif false then true else (a0.Id == a1.Id))
@[reducible] noncomputable def sp (N : Nat) : Spec E := { ps := [.val (.st 78), .val (.st 78)], rs := [.bool], own := true, dp := false, R := R, fn := fun x => m N x.1 x.2.1, res := fun r => (r, ()), out := fun r => ((), (), ()), shut := fun a b => a.1, res_shut := fun _ _ => rfl, out_shut := fun _ _ => rfl }
end impl_OneLeader_1
/-! ### impl_pairsHold_impl_Lead__impl_OneLeader_1: loop.example/g00220/impl.pairsHold[loop.example/g00220/impl.Lead] -/
namespace impl_pairsHold_impl_Lead__impl_OneLeader_1
abbrev R := Bool
noncomputable def step2 (N : Nat) (a0 : List Lead) (lp5 : Int × Int × (List Lead) × Int × Int × Int × Int × (List Entry) → Option R) (rec : (Int × Int) → Option R) : (Int × Int) → Option R
  | (v2, v3) =>
    bif (decide (v3 < v2)) then
      bif (decide (0 ≤ v3)) then
      bif (decide (v3 < (a0.length : Int))) then
      bif (decide (0 ≤ v3)) then
      bif (decide (v3 ≤ ((a0.length : Nat) : Int))) then
      lp5 (v2, v3, (a0.take (Int.toNat v3)), ((a0.take (Int.toNat v3)).length : Int), (0:Int), (a0.getD (Int.toNat v3) Lead.dz).Term, (a0.getD (Int.toNat v3) Lead.dz).Id, (a0.getD (Int.toNat v3) Lead.dz).Log)
      else none
      else none
      else none
      else none
    else
    some true
noncomputable def step5 (N : Nat) (a0 : List Lead) (lp2 : Int × Int → Option R) (rec : (Int × Int × (List Lead) × Int × Int × Int × Int × (List Entry)) → Option R) : (Int × Int × (List Lead) × Int × Int × Int × Int × (List Entry)) → Option R
  | (v2, v3, v4, v5, v6, v7, v8, v9) =>
    bif (decide (v6 < v5)) then
      bif (decide (0 ≤ v6)) then
      bif (decide (v6 < (v4.length : Int))) then
      ob (impl_OneLeader_1.m N (Lead.mk v7 v8 v9) (v4.getD (Int.toNat v6) Lead.dz)) fun y1 =>
      bif (!y1) then
        some false
      else
      rec (v2, v3, v4, v5, (w64 (v6 + (1:Int))), v7, v8, v9)
      else none
      else none
    else
    lp2 (v2, (w64 (v3 + (1:Int))))
noncomputable def lp5 (N : Nat) (a0 : List Lead) (r2 : Int × Int → Option R) : (Int × Int × (List Lead) × Int × Int × Int × Int × (List Entry)) → Option R :=
  miter (fun rec => step5 N a0 r2 rec) N
noncomputable def lp2 (N : Nat) (a0 : List Lead) : (Int × Int) → Option R :=
  miter (fun rec => step2 N a0 (lp5 N a0 rec) rec) N
noncomputable def m (N : Nat) (a0 : List Lead) : Option R :=
  lp2 N a0 ((a0.length : Int), (0:Int))
@[reducible] noncomputable def sp (N : Nat) : Spec E := { ps := [.val (.slice 78 (.st 78)), .clo 47 []], rs := [.bool], own := true, dp := false, R := R, fn := fun x => m N x.1, res := fun r => (r, ()), out := fun r => ((), (), ()), shut := fun a b => a.1, res_shut := fun _ _ => rfl, out_shut := fun _ _ => rfl }
end impl_pairsHold_impl_Lead__impl_OneLeader_1
/-! ### impl_OneLeader: loop.example/g00220/impl.OneLeader -/
namespace impl_OneLeader
abbrev R := Bool × Int
noncomputable def m (N : Nat) (a0 : Group) : Option R :=
  ob (impl_GroupOK.m N a0) fun y1 =>
  bif (!y1) then
    some (false, (1:Int))
  else
  ob (impl_pairsHold_impl_Lead__impl_OneLeader_1.m N a0.Leads) fun y2 =>
  some (y2, (0:Int))
@[reducible] noncomputable def sp (N : Nat) : Spec E := { ps := [.val (.st 36)], rs := [.bool, (.int .i64)], own := true, dp := false, R := R, fn := fun x => m N x.1, res := fun r => (r.1, r.2, ()), out := fun r => ((), ()), shut := fun a b => (a.1, a.2.1), res_shut := fun _ _ => rfl, out_shut := fun _ _ => rfl }
end impl_OneLeader
/-! ### laws_FnExactOneLeader: loop.example/g00220/laws.FnExactOneLeader -/
namespace laws_FnExactOneLeader
abbrev R := Bool
noncomputable def m (N : Nat) (a0 : Group) : Option R :=
  ob (laws_szGroup.m N a0 (1048576:Int)) fun y1 =>
  bif (decide (y1 < (0:Int))) then
    some true
  else
  ob (laws_toGroup.m N a0) fun y2 =>
  ob (spec_OneLeader.m N y2) fun y3 =>
  ob (laws_toGroup.m N a0) fun y4 =>
  ob (impl_OneLeader.m N y4) fun y5 =>
  bif (!(y5.1 == y3.1)) then
    some false
  else
  bif (bif false then true else (y5.2 != y3.2)) then
    some false
  else
  ob (laws_toGroup.m N (Group.mk a0.Nodes a0.Wire a0.Leads a0.Dones)) fun y6 =>
  ob (laws_eqGroup.m N y4 y6) fun y7 =>
  bif (!y7) then
    some false
  else
  some true
@[reducible] noncomputable def sp (N : Nat) : Spec E := { ps := [.val (.st 27)], rs := [.bool], own := true, dp := false, R := R, fn := fun x => m N x.1, res := fun r => (r, ()), out := fun r => ((), ()), shut := fun a b => a.1, res_shut := fun _ _ => rfl, out_shut := fun _ _ => rfl }
end laws_FnExactOneLeader
end Mir.Y
