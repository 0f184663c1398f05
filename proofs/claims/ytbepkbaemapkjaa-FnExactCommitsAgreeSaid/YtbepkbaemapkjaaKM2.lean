/- Models of functions. -/
import Derived.Test.YtbepkbaemapkjaaKM1
namespace Mir.Y
set_option linter.unusedVariables false
set_option maxRecDepth 10000
open Go Go.Proofs Mir
/-! ### impl_Message_entriesOK: (loop.example/g00220/impl.Message).entriesOK -/
namespace impl_Message_entriesOK
abbrev R := Bool
noncomputable def step3 (N : Nat) (a0 : Message) (rec : (Int × Int × Int) → Option R) : (Int × Int × Int) → Option R
  | (v0, v2, v3) =>
    bif (decide (v3 < v2)) then
      bif (decide (0 ≤ v3)) then
      bif (decide (v3 < (a0.Entries.length : Int))) then
      ob (impl_entryOK.m N (a0.Entries.getD (Int.toNat v3) Entry.dz)) fun y1 =>
      bif (!y1) then
        some false
      else
      ob (impl_within.m N ((a0.Entries.getD (Int.toNat v3) Entry.dz).Term) v0 a0.Term) fun y2 =>
      bif (bif false then true else (!y2)) then
        some false
      else
      rec ((a0.Entries.getD (Int.toNat v3) Entry.dz).Term, v2, (w64 (v3 + (1:Int))))
      else none
      else none
    else
    bif (decide ((w64 (a0.Index + (a0.Entries.length : Int))) ≤ (60:Int))) then
      bif (decide (a0.Index > (0:Int))) then
        some (bif true then true else false)
      else
      some (bif true then (bif false then true else (a0.LogTerm == (0:Int))) else false)
    else
    some false
noncomputable def lp3 (N : Nat) (a0 : Message) : (Int × Int × Int) → Option R :=
  miter (fun rec => step3 N a0 rec) N
noncomputable def m (N : Nat) (a0 : Message) : Option R :=
  lp3 N a0 (a0.LogTerm, (a0.Entries.length : Int), (0:Int))
@[reducible] noncomputable def sp (N : Nat) : Spec E := { ps := [.val (.st 113)], rs := [.bool], own := true, dp := false, R := R, fn := fun x => m N x.1, res := fun r => (r, ()), out := fun r => ((), ()), shut := fun a b => a.1, res_shut := fun _ _ => rfl, out_shut := fun _ _ => rfl }
end impl_Message_entriesOK
/-! ### impl_messageOK: loop.example/g00220/impl.messageOK -/
namespace impl_messageOK
abbrev R := Bool
noncomputable def m (N : Nat) (a0 : Message) : Option R :=
  ob (impl_within.m N a0.Kind (1:Int) (4:Int)) fun y1 =>
  bif (!y1) then
    some false
  else
  ob (impl_isNumber.m N a0.From) fun y2 =>
  bif (bif false then true else (!y2)) then
    some false
  else
  ob (impl_isNumber.m N a0.To) fun y3 =>
  bif (bif false then true else (!y3)) then
    some false
  else
  bif (bif false then true else (a0.From == a0.To)) then
    some false
  else
  ob (impl_within.m N a0.Term (1:Int) (1000000:Int)) fun y4 =>
  bif (bif false then true else (!y4)) then
    some false
  else
  ob (impl_within.m N a0.LogTerm (0:Int) a0.Term) fun y5 =>
  bif (!y5) then
    some false
  else
  ob (impl_within.m N a0.Index (0:Int) (60:Int)) fun y6 =>
  bif (bif false then true else (!y6)) then
    some false
  else
  ob (impl_within.m N a0.Commit (0:Int) (60:Int)) fun y7 =>
  bif (bif false then true else (!y7)) then
    some false
  else
  bif (a0.Kind != (3:Int)) then
    some ((a0.Entries.length : Int) == (0:Int))
  else
  bif (decide ((a0.Entries.length : Int) ≤ (60:Int))) then
    ob (impl_Message_entriesOK.m N a0) fun y8 =>
    some (bif true then y8 else false)
  else
  some false
@[reducible] noncomputable def sp (N : Nat) : Spec E := { ps := [.val (.st 113)], rs := [.bool], own := true, dp := false, R := R, fn := fun x => m N x.1, res := fun r => (r, ()), out := fun r => ((), ()), shut := fun a b => a.1, res_shut := fun _ _ => rfl, out_shut := fun _ _ => rfl }
end impl_messageOK
/-! ### impl_GroupOK_1: loop.example/g00220/impl.GroupOK$1 -/
namespace impl_GroupOK_1
abbrev R := Bool
noncomputable def m (N : Nat) (a0 : Message) : Option R :=
  ob (impl_messageOK.m N a0) fun y1 =>
  some (!y1)
@[reducible] noncomputable def sp (N : Nat) : Spec E := { ps := [.val (.st 113)], rs := [.bool], own := true, dp := false, R := R, fn := fun x => m N x.1, res := fun r => (r, ()), out := fun r => ((), ()), shut := fun a b => a.1, res_shut := fun _ _ => rfl, out_shut := fun _ _ => rfl }
end impl_GroupOK_1
/-! ### slices_IndexFunc_impl_Message_impl_Message__impl_GroupOK_1: slices.IndexFunc[[]loop.example/g00220/impl.Message,loop.example/g00220/impl.Message] -/
namespace slices_IndexFunc_impl_Message_impl_Message__impl_GroupOK_1
abbrev R := Int
noncomputable def step2 (N : Nat) (a0 : List Message) (rec : (Int × Int) → Option R) : (Int × Int) → Option R
  | (v1, v2) =>
    bif (decide (v2 < v1)) then
      bif (decide (0 ≤ v2)) then
      bif (decide (v2 < (a0.length : Int))) then
      ob (impl_GroupOK_1.m N (a0.getD (Int.toNat v2) Message.dz)) fun y1 =>
      bif y1 then
        some v2
      else
      rec (v1, (w64 (v2 + (1:Int))))
      else none
      else none
    else
    some (-1:Int)
noncomputable def lp2 (N : Nat) (a0 : List Message) : (Int × Int) → Option R :=
  miter (fun rec => step2 N a0 rec) N
noncomputable def m (N : Nat) (a0 : List Message) : Option R :=
  lp2 N a0 ((a0.length : Int), (0:Int))
@[reducible] noncomputable def sp (N : Nat) : Spec E := { ps := [.val (.slice 113 (.st 113)), .clo 79 []], rs := [(.int .i64)], own := true, dp := false, R := R, fn := fun x => m N x.1, res := fun r => (r, ()), out := fun r => ((), (), ()), shut := fun a b => a.1, res_shut := fun _ _ => rfl, out_shut := fun _ _ => rfl }
end slices_IndexFunc_impl_Message_impl_Message__impl_GroupOK_1
/-! ### slices_ContainsFunc_impl_Message_impl_Message__impl_GroupOK_1: slices.ContainsFunc[[]loop.example/g00220/impl.Message,loop.example/g00220/impl.Message] -/
namespace slices_ContainsFunc_impl_Message_impl_Message__impl_GroupOK_1
abbrev R := Bool
noncomputable def m (N : Nat) (a0 : List Message) : Option R :=
  ob (slices_IndexFunc_impl_Message_impl_Message__impl_GroupOK_1.m N a0) fun y1 =>
  some (decide (y1 ≥ (0:Int)))
@[reducible] noncomputable def sp (N : Nat) : Spec E := { ps := [.val (.slice 113 (.st 113)), .clo 79 []], rs := [.bool], own := true, dp := false, R := R, fn := fun x => m N x.1, res := fun r => (r, ()), out := fun r => ((), (), ()), shut := fun a b => a.1, res_shut := fun _ _ => rfl, out_shut := fun _ _ => rfl }
end slices_ContainsFunc_impl_Message_impl_Message__impl_GroupOK_1
/-! ### impl_GroupOK: loop.example/g00220/impl.GroupOK -/
namespace impl_GroupOK
abbrev R := Bool
noncomputable def step4 (N : Nat) (a0 : Group) (rec : (Int × Int) → Option R) : (Int × Int) → Option R
  | (v1, v2) =>
    bif (decide (v2 < v1)) then
      bif (decide (0 ≤ v2)) then
      bif (decide (v2 < (a0.Nodes.length : Int))) then
      ob (impl_NodeOK.m N (a0.Nodes.getD (Int.toNat v2) Node.dz)) fun y4 =>
      bif (!y4) then
        some false
      else
      bif (bif false then true else ((a0.Nodes.getD (Int.toNat v2) Node.dz).Id != v2)) then
        some false
      else
      rec (v1, (w64 (v2 + (1:Int))))
      else none
      else none
    else
    ob (slices_ContainsFunc_impl_Message_impl_Message__impl_GroupOK_1.m N a0.Wire) fun y5 =>
    some (!y5)
noncomputable def lp4 (N : Nat) (a0 : Group) : (Int × Int) → Option R :=
  miter (fun rec => step4 N a0 rec) N
noncomputable def m (N : Nat) (a0 : Group) : Option R :=
  ob (impl_within.m N (a0.Nodes.length : Int) (1:Int) (5:Int)) fun y1 =>
  bif (!y1) then
    some false
  else
  bif (bif false then true else (decide ((a0.Wire.length : Int) > (60:Int)))) then
    some false
  else
  ob (impl_isList_impl_Lead.m N a0.Leads) fun y2 =>
  bif (bif false then true else (!y2)) then
    some false
  else
  ob (impl_isList_impl_Done.m N a0.Dones) fun y3 =>
  bif (bif false then true else (!y3)) then
    some false
  else
  lp4 N a0 ((a0.Nodes.length : Int), (0:Int))
@[reducible] noncomputable def sp (N : Nat) : Spec E := { ps := [.val (.st 36)], rs := [.bool], own := true, dp := false, R := R, fn := fun x => m N x.1, res := fun r => (r, ()), out := fun r => ((), ()), shut := fun a b => a.1, res_shut := fun _ _ => rfl, out_shut := fun _ _ => rfl }
end impl_GroupOK
/-! ### impl_CommitsAgree: loop.example/g00220/impl.CommitsAgree -/
namespace impl_CommitsAgree
abbrev R := Bool × Int
noncomputable def step5 (N : Nat) (a0 : Group) (rec : (Int × Int × (List (Int × Entry))) → Option R) : (Int × Int × (List (Int × Entry))) → Option R
  | (v1, v2, v3) =>
    bif (decide (v2 < v1)) then
      bif (decide (0 ≤ v2)) then
      bif (decide (v2 < (a0.Dones.length : Int))) then
      bif (mpGet ((a0.Dones.getD (Int.toNat v2) Done.dz).Index) v3).isSome then
        (let w2 : Bool := (!((((mpGet ((a0.Dones.getD (Int.toNat v2) Done.dz).Index) v3).getD (Entry.mk (0:Int) (0:Int) ByteArray.empty)).Term == (a0.Dones.getD (Int.toNat v2) Done.dz).Entry.Term) && ((((mpGet ((a0.Dones.getD (Int.toNat v2) Done.dz).Index) v3).getD (Entry.mk (0:Int) (0:Int) ByteArray.empty)).Kind == (a0.Dones.getD (Int.toNat v2) Done.dz).Entry.Kind) && (seq (((mpGet ((a0.Dones.getD (Int.toNat v2) Done.dz).Index) v3).getD (Entry.mk (0:Int) (0:Int) ByteArray.empty)).Data) ((a0.Dones.getD (Int.toNat v2) Done.dz).Entry.Data)))))
        bif (bif true then w2 else false) then
          some (false, (0:Int))
        else
        (let w3 : List (Int × Entry) := (mpSet ((a0.Dones.getD (Int.toNat v2) Done.dz).Index) (Entry.mk ((a0.Dones.getD (Int.toNat v2) Done.dz).Entry.Term) ((a0.Dones.getD (Int.toNat v2) Done.dz).Entry.Kind) ((a0.Dones.getD (Int.toNat v2) Done.dz).Entry.Data)) v3)
        rec (v1, (w64 (v2 + (1:Int))), w3)))
      else
      (let w4 : List (Int × Entry) := (mpSet ((a0.Dones.getD (Int.toNat v2) Done.dz).Index) (Entry.mk ((a0.Dones.getD (Int.toNat v2) Done.dz).Entry.Term) ((a0.Dones.getD (Int.toNat v2) Done.dz).Entry.Kind) ((a0.Dones.getD (Int.toNat v2) Done.dz).Entry.Data)) v3)
      rec (v1, (w64 (v2 + (1:Int))), w4))
      else none
      else none
    else
    some (true, (0:Int))
noncomputable def lp5 (N : Nat) (a0 : Group) : (Int × Int × (List (Int × Entry))) → Option R :=
  miter (fun rec => step5 N a0 rec) N
noncomputable def m (N : Nat) (a0 : Group) : Option R :=
  ob (impl_GroupOK.m N a0) fun y1 =>
  bif (!y1) then
    some (false, (1:Int))
  else
  lp5 N a0 ((a0.Dones.length : Int), (0:Int), ([] : List (Int × Entry)))
@[reducible] noncomputable def sp (N : Nat) : Spec E := { ps := [.val (.st 36)], rs := [.bool, (.int .i64)], own := true, dp := false, R := R, fn := fun x => m N x.1, res := fun r => (r.1, r.2, ()), out := fun r => ((), ()), shut := fun a b => (a.1, a.2.1), res_shut := fun _ _ => rfl, out_shut := fun _ _ => rfl }
end impl_CommitsAgree
/-! ### laws_eqEntry: loop.example/g00220/laws.eqEntry -/
namespace laws_eqEntry
abbrev R := Bool
noncomputable def m (N : Nat) (a0 : Entry) (a1 : Entry) : Option R :=
  bif (a0.Term != a1.Term) then
    some false
  else
  bif (a0.Kind != a1.Kind) then
    some false
  else
  bif (!seq a0.Data a1.Data) then
    some false
  else
  some true
@[reducible] noncomputable def sp (N : Nat) : Spec E := { ps := [.val (.st 58), .val (.st 58)], rs := [.bool], own := true, dp := false, R := R, fn := fun x => m N x.1 x.2.1, res := fun r => (r, ()), out := fun r => ((), (), ()), shut := fun a b => a.1, res_shut := fun _ _ => rfl, out_shut := fun _ _ => rfl }
end laws_eqEntry
/-! ### laws_eqEntryS: loop.example/g00220/laws.eqEntryS -/
namespace laws_eqEntryS
abbrev R := Bool
noncomputable def step4 (N : Nat) (a0 : List Entry) (a1 : List Entry) (rec : Int → Option R) : Int → Option R
  | v2 =>
    bif (decide (v2 < (a0.length : Int))) then
      bif (decide (0 ≤ v2)) then
      bif (decide (v2 < (a0.length : Int))) then
      bif (decide (0 ≤ v2)) then
      bif (decide (v2 < (a1.length : Int))) then
      ob (laws_eqEntry.m N (a0.getD (Int.toNat v2) Entry.dz) (a1.getD (Int.toNat v2) Entry.dz)) fun y1 =>
      bif (!y1) then
        some false
      else
      rec (w64 (v2 + (1:Int)))
      else none
      else none
      else none
      else none
    else
    some true
noncomputable def lp4 (N : Nat) (a0 : List Entry) (a1 : List Entry) : Int → Option R :=
  miter (fun rec => step4 N a0 a1 rec) N
noncomputable def m (N : Nat) (a0 : List Entry) (a1 : List Entry) : Option R :=
  bif ((a0.length : Int) != (a1.length : Int)) then
    some false
  else
  lp4 N a0 a1 (0:Int)
@[reducible] noncomputable def sp (N : Nat) : Spec E := { ps := [.val (.slice 58 (.st 58)), .val (.slice 58 (.st 58))], rs := [.bool], own := true, dp := false, R := R, fn := fun x => m N x.1 x.2.1, res := fun r => (r, ()), out := fun r => ((), (), ()), shut := fun a b => a.1, res_shut := fun _ _ => rfl, out_shut := fun _ _ => rfl }
end laws_eqEntryS
/-! ### laws_eqIntS: loop.example/g00220/laws.eqIntS -/
namespace laws_eqIntS
abbrev R := Bool
noncomputable def step4 (N : Nat) (a0 : List Int) (a1 : List Int) (rec : Int → Option R) : Int → Option R
  | v2 =>
    bif (decide (v2 < (a0.length : Int))) then
      bif (decide (0 ≤ v2)) then
      bif (decide (v2 < (a0.length : Int))) then
      bif (decide (0 ≤ v2)) then
      bif (decide (v2 < (a1.length : Int))) then
      bif ((a0.getD (Int.toNat v2) (0:Int)) != (a1.getD (Int.toNat v2) (0:Int))) then
        some false
      else
      rec (w64 (v2 + (1:Int)))
      else none
      else none
      else none
      else none
    else
    some true
noncomputable def lp4 (N : Nat) (a0 : List Int) (a1 : List Int) : Int → Option R :=
  miter (fun rec => step4 N a0 a1 rec) N
noncomputable def m (N : Nat) (a0 : List Int) (a1 : List Int) : Option R :=
  bif ((a0.length : Int) != (a1.length : Int)) then
    some false
  else
  lp4 N a0 a1 (0:Int)
@[reducible] noncomputable def sp (N : Nat) : Spec E := { ps := [.val (.slice 3 (.int .i64)), .val (.slice 3 (.int .i64))], rs := [.bool], own := true, dp := false, R := R, fn := fun x => m N x.1 x.2.1, res := fun r => (r, ()), out := fun r => ((), (), ()), shut := fun a b => a.1, res_shut := fun _ _ => rfl, out_shut := fun _ _ => rfl }
end laws_eqIntS
/-! ### laws_eqNode: loop.example/g00220/laws.eqNode -/
namespace laws_eqNode
abbrev R := Bool
noncomputable def m (N : Nat) (a0 : Node) (a1 : Node) : Option R :=
  bif (a0.Id != a1.Id) then
    some false
  else
  bif (a0.Term != a1.Term) then
    some false
  else
  bif (a0.Vote != a1.Vote) then
    some false
  else
  ob (laws_eqEntryS.m N a0.Log a1.Log) fun y1 =>
  bif (!y1) then
    some false
  else
  ob (laws_eqIntS.m N a0.Start a1.Start) fun y2 =>
  bif (!y2) then
    some false
  else
  bif (a0.Role != a1.Role) then
    some false
  else
  ob (laws_eqIntS.m N a0.Votes a1.Votes) fun y3 =>
  bif (!y3) then
    some false
  else
  ob (laws_eqIntS.m N a0.Next a1.Next) fun y4 =>
  bif (!y4) then
    some false
  else
  ob (laws_eqIntS.m N a0.Match a1.Match) fun y5 =>
  bif (!y5) then
    some false
  else
  bif (a0.Commit != a1.Commit) then
    some false
  else
  bif (a0.Elapsed != a1.Elapsed) then
    some false
  else
  bif (a0.Wait != a1.Wait) then
    some false
  else
  bif (!(a0.Up == a1.Up)) then
    some false
  else
  some true
@[reducible] noncomputable def sp (N : Nat) : Spec E := { ps := [.val (.st 50), .val (.st 50)], rs := [.bool], own := true, dp := false, R := R, fn := fun x => m N x.1 x.2.1, res := fun r => (r, ()), out := fun r => ((), (), ()), shut := fun a b => a.1, res_shut := fun _ _ => rfl, out_shut := fun _ _ => rfl }
end laws_eqNode
/-! ### laws_eqNodeS: loop.example/g00220/laws.eqNodeS -/
namespace laws_eqNodeS
abbrev R := Bool
noncomputable def step4 (N : Nat) (a0 : List Node) (a1 : List Node) (rec : Int → Option R) : Int → Option R
  | v2 =>
    bif (decide (v2 < (a0.length : Int))) then
      bif (decide (0 ≤ v2)) then
      bif (decide (v2 < (a0.length : Int))) then
      bif (decide (0 ≤ v2)) then
      bif (decide (v2 < (a1.length : Int))) then
      ob (laws_eqNode.m N (a0.getD (Int.toNat v2) Node.dz) (a1.getD (Int.toNat v2) Node.dz)) fun y1 =>
      bif (!y1) then
        some false
      else
      rec (w64 (v2 + (1:Int)))
      else none
      else none
      else none
      else none
    else
    some true
noncomputable def lp4 (N : Nat) (a0 : List Node) (a1 : List Node) : Int → Option R :=
  miter (fun rec => step4 N a0 a1 rec) N
noncomputable def m (N : Nat) (a0 : List Node) (a1 : List Node) : Option R :=
  bif ((a0.length : Int) != (a1.length : Int)) then
    some false
  else
  lp4 N a0 a1 (0:Int)
@[reducible] noncomputable def sp (N : Nat) : Spec E := { ps := [.val (.slice 50 (.st 50)), .val (.slice 50 (.st 50))], rs := [.bool], own := true, dp := false, R := R, fn := fun x => m N x.1 x.2.1, res := fun r => (r, ()), out := fun r => ((), (), ()), shut := fun a b => a.1, res_shut := fun _ _ => rfl, out_shut := fun _ _ => rfl }
end laws_eqNodeS
/-! ### laws_eqMessage: loop.example/g00220/laws.eqMessage -/
namespace laws_eqMessage
abbrev R := Bool
noncomputable def m (N : Nat) (a0 : Message) (a1 : Message) : Option R :=
  bif (a0.Kind != a1.Kind) then
    some false
  else
  bif (a0.From != a1.From) then
    some false
  else
  bif (a0.To != a1.To) then
    some false
  else
  bif (a0.Term != a1.Term) then
    some false
  else
  bif (a0.Index != a1.Index) then
    some false
  else
  bif (a0.LogTerm != a1.LogTerm) then
    some false
  else
  bif (a0.Commit != a1.Commit) then
    some false
  else
  ob (laws_eqEntryS.m N a0.Entries a1.Entries) fun y1 =>
  bif (!y1) then
    some false
  else
  bif (!(a0.Ok == a1.Ok)) then
    some false
  else
  some true
@[reducible] noncomputable def sp (N : Nat) : Spec E := { ps := [.val (.st 113), .val (.st 113)], rs := [.bool], own := true, dp := false, R := R, fn := fun x => m N x.1 x.2.1, res := fun r => (r, ()), out := fun r => ((), (), ()), shut := fun a b => a.1, res_shut := fun _ _ => rfl, out_shut := fun _ _ => rfl }
end laws_eqMessage
/-! ### laws_eqMessageS: loop.example/g00220/laws.eqMessageS -/
namespace laws_eqMessageS
abbrev R := Bool
noncomputable def step4 (N : Nat) (a0 : List Message) (a1 : List Message) (rec : Int → Option R) : Int → Option R
  | v2 =>
    bif (decide (v2 < (a0.length : Int))) then
      bif (decide (0 ≤ v2)) then
      bif (decide (v2 < (a0.length : Int))) then
      bif (decide (0 ≤ v2)) then
      bif (decide (v2 < (a1.length : Int))) then
      ob (laws_eqMessage.m N (a0.getD (Int.toNat v2) Message.dz) (a1.getD (Int.toNat v2) Message.dz)) fun y1 =>
      bif (!y1) then
        some false
      else
      rec (w64 (v2 + (1:Int)))
      else none
      else none
      else none
      else none
    else
    some true
noncomputable def lp4 (N : Nat) (a0 : List Message) (a1 : List Message) : Int → Option R :=
  miter (fun rec => step4 N a0 a1 rec) N
noncomputable def m (N : Nat) (a0 : List Message) (a1 : List Message) : Option R :=
  bif ((a0.length : Int) != (a1.length : Int)) then
    some false
  else
  lp4 N a0 a1 (0:Int)
@[reducible] noncomputable def sp (N : Nat) : Spec E := { ps := [.val (.slice 113 (.st 113)), .val (.slice 113 (.st 113))], rs := [.bool], own := true, dp := false, R := R, fn := fun x => m N x.1 x.2.1, res := fun r => (r, ()), out := fun r => ((), (), ()), shut := fun a b => a.1, res_shut := fun _ _ => rfl, out_shut := fun _ _ => rfl }
end laws_eqMessageS
/-! ### laws_eqLead: loop.example/g00220/laws.eqLead -/
namespace laws_eqLead
abbrev R := Bool
noncomputable def m (N : Nat) (a0 : Lead) (a1 : Lead) : Option R :=
  bif (a0.Term != a1.Term) then
    some false
  else
  bif (a0.Id != a1.Id) then
    some false
  else
  ob (laws_eqEntryS.m N a0.Log a1.Log) fun y1 =>
  bif (!y1) then
    some false
  else
  some true
@[reducible] noncomputable def sp (N : Nat) : Spec E := { ps := [.val (.st 78), .val (.st 78)], rs := [.bool], own := true, dp := false, R := R, fn := fun x => m N x.1 x.2.1, res := fun r => (r, ()), out := fun r => ((), (), ()), shut := fun a b => a.1, res_shut := fun _ _ => rfl, out_shut := fun _ _ => rfl }
end laws_eqLead
/-! ### laws_eqLeadS: loop.example/g00220/laws.eqLeadS -/
namespace laws_eqLeadS
abbrev R := Bool
noncomputable def step4 (N : Nat) (a0 : List Lead) (a1 : List Lead) (rec : Int → Option R) : Int → Option R
  | v2 =>
    bif (decide (v2 < (a0.length : Int))) then
      bif (decide (0 ≤ v2)) then
      bif (decide (v2 < (a0.length : Int))) then
      bif (decide (0 ≤ v2)) then
      bif (decide (v2 < (a1.length : Int))) then
      ob (laws_eqLead.m N (a0.getD (Int.toNat v2) Lead.dz) (a1.getD (Int.toNat v2) Lead.dz)) fun y1 =>
      bif (!y1) then
        some false
      else
      rec (w64 (v2 + (1:Int)))
      else none
      else none
      else none
      else none
    else
    some true
noncomputable def lp4 (N : Nat) (a0 : List Lead) (a1 : List Lead) : Int → Option R :=
  miter (fun rec => step4 N a0 a1 rec) N
noncomputable def m (N : Nat) (a0 : List Lead) (a1 : List Lead) : Option R :=
  bif ((a0.length : Int) != (a1.length : Int)) then
    some false
  else
  lp4 N a0 a1 (0:Int)
@[reducible] noncomputable def sp (N : Nat) : Spec E := { ps := [.val (.slice 78 (.st 78)), .val (.slice 78 (.st 78))], rs := [.bool], own := true, dp := false, R := R, fn := fun x => m N x.1 x.2.1, res := fun r => (r, ()), out := fun r => ((), (), ()), shut := fun a b => a.1, res_shut := fun _ _ => rfl, out_shut := fun _ _ => rfl }
end laws_eqLeadS
/-! ### laws_eqDone: loop.example/g00220/laws.eqDone -/
namespace laws_eqDone
abbrev R := Bool
noncomputable def m (N : Nat) (a0 : Done) (a1 : Done) : Option R :=
  bif (a0.Node != a1.Node) then
    some false
  else
  bif (a0.Term != a1.Term) then
    some false
  else
  bif (a0.Index != a1.Index) then
    some false
  else
  ob (laws_eqEntry.m N (Entry.mk a0.Entry.Term a0.Entry.Kind a0.Entry.Data) (Entry.mk a1.Entry.Term a1.Entry.Kind a1.Entry.Data)) fun y1 =>
  bif (!y1) then
    some false
  else
  some true
@[reducible] noncomputable def sp (N : Nat) : Spec E := { ps := [.val (.st 66), .val (.st 66)], rs := [.bool], own := true, dp := false, R := R, fn := fun x => m N x.1 x.2.1, res := fun r => (r, ()), out := fun r => ((), (), ()), shut := fun a b => a.1, res_shut := fun _ _ => rfl, out_shut := fun _ _ => rfl }
end laws_eqDone
/-! ### laws_eqDoneS: loop.example/g00220/laws.eqDoneS -/
namespace laws_eqDoneS
abbrev R := Bool
noncomputable def step4 (N : Nat) (a0 : List Done) (a1 : List Done) (rec : Int → Option R) : Int → Option R
  | v2 =>
    bif (decide (v2 < (a0.length : Int))) then
      bif (decide (0 ≤ v2)) then
      bif (decide (v2 < (a0.length : Int))) then
      bif (decide (0 ≤ v2)) then
      bif (decide (v2 < (a1.length : Int))) then
      ob (laws_eqDone.m N (Done.mk ((a0.getD (Int.toNat v2) Done.dz).Node) ((a0.getD (Int.toNat v2) Done.dz).Term) ((a0.getD (Int.toNat v2) Done.dz).Index) (Entry.mk ((a0.getD (Int.toNat v2) Done.dz).Entry.Term) ((a0.getD (Int.toNat v2) Done.dz).Entry.Kind) ((a0.getD (Int.toNat v2) Done.dz).Entry.Data))) (Done.mk ((a1.getD (Int.toNat v2) Done.dz).Node) ((a1.getD (Int.toNat v2) Done.dz).Term) ((a1.getD (Int.toNat v2) Done.dz).Index) (Entry.mk ((a1.getD (Int.toNat v2) Done.dz).Entry.Term) ((a1.getD (Int.toNat v2) Done.dz).Entry.Kind) ((a1.getD (Int.toNat v2) Done.dz).Entry.Data)))) fun y1 =>
      bif (!y1) then
        some false
      else
      rec (w64 (v2 + (1:Int)))
      else none
      else none
      else none
      else none
    else
    some true
noncomputable def lp4 (N : Nat) (a0 : List Done) (a1 : List Done) : Int → Option R :=
  miter (fun rec => step4 N a0 a1 rec) N
noncomputable def m (N : Nat) (a0 : List Done) (a1 : List Done) : Option R :=
  bif ((a0.length : Int) != (a1.length : Int)) then
    some false
  else
  lp4 N a0 a1 (0:Int)
@[reducible] noncomputable def sp (N : Nat) : Spec E := { ps := [.val (.slice 66 (.st 66)), .val (.slice 66 (.st 66))], rs := [.bool], own := true, dp := false, R := R, fn := fun x => m N x.1 x.2.1, res := fun r => (r, ()), out := fun r => ((), (), ()), shut := fun a b => a.1, res_shut := fun _ _ => rfl, out_shut := fun _ _ => rfl }
end laws_eqDoneS
/-! ### laws_eqGroup: loop.example/g00220/laws.eqGroup -/
namespace laws_eqGroup
abbrev R := Bool
noncomputable def m (N : Nat) (a0 : Group) (a1 : Group) : Option R :=
  ob (laws_eqNodeS.m N a0.Nodes a1.Nodes) fun y1 =>
  bif (!y1) then
    some false
  else
  ob (laws_eqMessageS.m N a0.Wire a1.Wire) fun y2 =>
  bif (!y2) then
    some false
  else
  ob (laws_eqLeadS.m N a0.Leads a1.Leads) fun y3 =>
  bif (!y3) then
    some false
  else
  ob (laws_eqDoneS.m N a0.Dones a1.Dones) fun y4 =>
  bif (!y4) then
    some false
  else
  some true
@[reducible] noncomputable def sp (N : Nat) : Spec E := { ps := [.val (.st 36), .val (.st 36)], rs := [.bool], own := true, dp := false, R := R, fn := fun x => m N x.1 x.2.1, res := fun r => (r, ()), out := fun r => ((), (), ()), shut := fun a b => a.1, res_shut := fun _ _ => rfl, out_shut := fun _ _ => rfl }
end laws_eqGroup
/-! ### laws_FnExactCommitsAgree: loop.example/g00220/laws.FnExactCommitsAgree -/
namespace laws_FnExactCommitsAgree
abbrev R := Bool
noncomputable def m (N : Nat) (a0 : Group) : Option R :=
  ob (laws_szGroup.m N (Group.mk a0.Nodes a0.Wire a0.Leads a0.Dones) (1048576:Int)) fun y1 =>
  bif (decide (y1 < (0:Int))) then
    some true
  else
  ob (laws_toGroup.m N (Group.mk a0.Nodes a0.Wire a0.Leads a0.Dones)) fun y2 =>
  ob (spec_CommitsAgree.m N y2) fun y3 =>
  ob (laws_toGroup.m N a0) fun y4 =>
  ob (impl_CommitsAgree.m N y4) fun y5 =>
  bif (!(y5.1 == y3.1)) then
    some false
  else
  bif (bif false then true else (y5.2 != y3.2)) then
    some false
  else
  ob (laws_toGroup.m N a0) fun y6 =>
  ob (laws_eqGroup.m N y4 y6) fun y7 =>
  bif (!y7) then
    some false
  else
  some true
@[reducible] noncomputable def sp (N : Nat) : Spec E := { ps := [.val (.st 27)], rs := [.bool], own := true, dp := false, R := R, fn := fun x => m N x.1, res := fun r => (r, ()), out := fun r => ((), ()), shut := fun a b => a.1, res_shut := fun _ _ => rfl, out_shut := fun _ _ => rfl }
end laws_FnExactCommitsAgree
end Mir.Y
