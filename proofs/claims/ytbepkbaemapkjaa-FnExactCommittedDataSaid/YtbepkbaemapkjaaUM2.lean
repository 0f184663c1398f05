/- Models of functions. -/
import Derived.Test.YtbepkbaemapkjaaUM1
namespace Mir.Y
set_option linter.unusedVariables false
set_option maxRecDepth 10000
open Go Go.Proofs Mir
/-! ### impl_Message_entriesOK: (loop.example/g00220/impl.Message).entriesOK -/
namespace impl_Message_entriesOK
abbrev R := Bool
noncomputable def step3 (N : Nat) (a0 : Message) (rec : (Int × Int × Int) → Option R) : (Int × Int × Int) → Option R
  | (v0, v2, v3) =>
    bif (decide (v3 < v2)) then
      bif (decide (0 ≤ v3)) then
      bif (decide (v3 < (a0.Entries.length : Int))) then
      ob (impl_entryOK.m N (a0.Entries.getD (Int.toNat v3) Entry.dz)) fun y1 =>
      bif (!y1) then
        some false
      else
      ob (impl_within.m N ((a0.Entries.getD (Int.toNat v3) Entry.dz).Term) v0 a0.Term) fun y2 =>
      bif (bif false then true else (!y2)) then
        some false
      else
      rec ((a0.Entries.getD (Int.toNat v3) Entry.dz).Term, v2, (w64 (v3 + (1:Int))))
      else none
      else none
    else
    bif (decide ((w64 (a0.Index + (a0.Entries.length : Int))) ≤ (60:Int))) then
      bif (decide (a0.Index > (0:Int))) then
        some (bif true then true else false)
      else
      some (bif true then (bif false then true else (a0.LogTerm == (0:Int))) else false)
    else
    some false
noncomputable def lp3 (N : Nat) (a0 : Message) : (Int × Int × Int) → Option R :=
  miter (fun rec => step3 N a0 rec) N
noncomputable def m (N : Nat) (a0 : Message) : Option R :=
  lp3 N a0 (a0.LogTerm, (a0.Entries.length : Int), (0:Int))
@[reducible] noncomputable def sp (N : Nat) : Spec E := { ps := [.val (.st 113)], rs := [.bool], own := true, dp := false, R := R, fn := fun x => m N x.1, res := fun r => (r, ()), out := fun r => ((), ()), shut := fun a b => a.1, res_shut := fun _ _ => rfl, out_shut := fun _ _ => rfl }
end impl_Message_entriesOK
/-! ### impl_messageOK: loop.example/g00220/impl.messageOK -/
namespace impl_messageOK
abbrev R := Bool
noncomputable def m (N : Nat) (a0 : Message) : Option R :=
  ob (impl_within.m N a0.Kind (1:Int) (4:Int)) fun y1 =>
  bif (!y1) then
    some false
  else
  ob (impl_isNumber.m N a0.From) fun y2 =>
  bif (bif false then true else (!y2)) then
    some false
  else
  ob (impl_isNumber.m N a0.To) fun y3 =>
  bif (bif false then true else (!y3)) then
    some false
  else
  bif (bif false then true else (a0.From == a0.To)) then
    some false
  else
  ob (impl_within.m N a0.Term (1:Int) (1000000:Int)) fun y4 =>
  bif (bif false then true else (!y4)) then
    some false
  else
  ob (impl_within.m N a0.LogTerm (0:Int) a0.Term) fun y5 =>
  bif (!y5) then
    some false
  else
  ob (impl_within.m N a0.Index (0:Int) (60:Int)) fun y6 =>
  bif (bif false then true else (!y6)) then
    some false
  else
  ob (impl_within.m N a0.Commit (0:Int) (60:Int)) fun y7 =>
  bif (bif false then true else (!y7)) then
    some false
  else
  bif (a0.Kind != (3:Int)) then
    some ((a0.Entries.length : Int) == (0:Int))
  else
  bif (decide ((a0.Entries.length : Int) ≤ (60:Int))) then
    ob (impl_Message_entriesOK.m N a0) fun y8 =>
    some (bif true then y8 else false)
  else
  some false
@[reducible] noncomputable def sp (N : Nat) : Spec E := { ps := [.val (.st 113)], rs := [.bool], own := true, dp := false, R := R, fn := fun x => m N x.1, res := fun r => (r, ()), out := fun r => ((), ()), shut := fun a b => a.1, res_shut := fun _ _ => rfl, out_shut := fun _ _ => rfl }
end impl_messageOK
/-! ### impl_GroupOK_1: loop.example/g00220/impl.GroupOK$1 -/
namespace impl_GroupOK_1
abbrev R := Bool
noncomputable def m (N : Nat) (a0 : Message) : Option R :=
  ob (impl_messageOK.m N a0) fun y1 =>
  some (!y1)
@[reducible] noncomputable def sp (N : Nat) : Spec E := { ps := [.val (.st 113)], rs := [.bool], own := true, dp := false, R := R, fn := fun x => m N x.1, res := fun r => (r, ()), out := fun r => ((), ()), shut := fun a b => a.1, res_shut := fun _ _ => rfl, out_shut := fun _ _ => rfl }
end impl_GroupOK_1
/-! ### slices_IndexFunc_impl_Message_impl_Message__impl_GroupOK_1: slices.IndexFunc[[]loop.example/g00220/impl.Message,loop.example/g00220/impl.Message] -/
namespace slices_IndexFunc_impl_Message_impl_Message__impl_GroupOK_1
abbrev R := Int
noncomputable def step2 (N : Nat) (a0 : List Message) (rec : (Int × Int) → Option R) : (Int × Int) → Option R
  | (v1, v2) =>
    bif (decide (v2 < v1)) then
      bif (decide (0 ≤ v2)) then
      bif (decide (v2 < (a0.length : Int))) then
      ob (impl_GroupOK_1.m N (a0.getD (Int.toNat v2) Message.dz)) fun y1 =>
      bif y1 then
        some v2
      else
      rec (v1, (w64 (v2 + (1:Int))))
      else none
      else none
    else
    some (-1:Int)
noncomputable def lp2 (N : Nat) (a0 : List Message) : (Int × Int) → Option R :=
  miter (fun rec => step2 N a0 rec) N
noncomputable def m (N : Nat) (a0 : List Message) : Option R :=
  lp2 N a0 ((a0.length : Int), (0:Int))
@[reducible] noncomputable def sp (N : Nat) : Spec E := { ps := [.val (.slice 113 (.st 113)), .clo 79 []], rs := [(.int .i64)], own := true, dp := false, R := R, fn := fun x => m N x.1, res := fun r => (r, ()), out := fun r => ((), (), ()), shut := fun a b => a.1, res_shut := fun _ _ => rfl, out_shut := fun _ _ => rfl }
end slices_IndexFunc_impl_Message_impl_Message__impl_GroupOK_1
/-! ### slices_ContainsFunc_impl_Message_impl_Message__impl_GroupOK_1: slices.ContainsFunc[[]loop.example/g00220/impl.Message,loop.example/g00220/impl.Message] -/
namespace slices_ContainsFunc_impl_Message_impl_Message__impl_GroupOK_1
abbrev R := Bool
noncomputable def m (N : Nat) (a0 : List Message) : Option R :=
  ob (slices_IndexFunc_impl_Message_impl_Message__impl_GroupOK_1.m N a0) fun y1 =>
  some (decide (y1 ≥ (0:Int)))
@[reducible] noncomputable def sp (N : Nat) : Spec E := { ps := [.val (.slice 113 (.st 113)), .clo 79 []], rs := [.bool], own := true, dp := false, R := R, fn := fun x => m N x.1, res := fun r => (r, ()), out := fun r => ((), (), ()), shut := fun a b => a.1, res_shut := fun _ _ => rfl, out_shut := fun _ _ => rfl }
end slices_ContainsFunc_impl_Message_impl_Message__impl_GroupOK_1
/-! ### impl_GroupOK: loop.example/g00220/impl.GroupOK -/
namespace impl_GroupOK
abbrev R := Bool
noncomputable def step4 (N : Nat) (a0 : Group) (rec : (Int × Int) → Option R) : (Int × Int) → Option R
  | (v1, v2) =>
    bif (decide (v2 < v1)) then
      bif (decide (0 ≤ v2)) then
      bif (decide (v2 < (a0.Nodes.length : Int))) then
      ob (impl_NodeOK.m N (a0.Nodes.getD (Int.toNat v2) Node.dz)) fun y4 =>
      bif (!y4) then
        some false
      else
      bif (bif false then true else ((a0.Nodes.getD (Int.toNat v2) Node.dz).Id != v2)) then
        some false
      else
      rec (v1, (w64 (v2 + (1:Int))))
      else none
      else none
    else
    ob (slices_ContainsFunc_impl_Message_impl_Message__impl_GroupOK_1.m N a0.Wire) fun y5 =>
    some (!y5)
noncomputable def lp4 (N : Nat) (a0 : Group) : (Int × Int) → Option R :=
  miter (fun rec => step4 N a0 rec) N
noncomputable def m (N : Nat) (a0 : Group) : Option R :=
  ob (impl_within.m N (a0.Nodes.length : Int) (1:Int) (5:Int)) fun y1 =>
  bif (!y1) then
    some false
  else
  bif (bif false then true else (decide ((a0.Wire.length : Int) > (60:Int)))) then
    some false
  else
  ob (impl_isList_impl_Lead.m N a0.Leads) fun y2 =>
  bif (bif false then true else (!y2)) then
    some false
  else
  ob (impl_isList_impl_Done.m N a0.Dones) fun y3 =>
  bif (bif false then true else (!y3)) then
    some false
  else
  lp4 N a0 ((a0.Nodes.length : Int), (0:Int))
@[reducible] noncomputable def sp (N : Nat) : Spec E := { ps := [.val (.st 36)], rs := [.bool], own := true, dp := false, R := R, fn := fun x => m N x.1, res := fun r => (r, ()), out := fun r => ((), ()), shut := fun a b => a.1, res_shut := fun _ _ => rfl, out_shut := fun _ _ => rfl }
end impl_GroupOK
/-! ### impl_CommittedData: loop.example/g00220/impl.CommittedData -/
namespace impl_CommittedData
abbrev R := (List ByteArray) × Int
noncomputable def step5 (N : Nat) (a0 : Group) (lp12 : Int × (List (Int × Entry)) × (List ByteArray) → Option R) (rec : (Int × Int × (List (Int × Entry)) × (List ByteArray)) → Option R) : (Int × Int × (List (Int × Entry)) × (List ByteArray)) → Option R
  | (v1, v2, v3, v4) =>
    bif (decide (v2 < v1)) then
      bif (decide (0 ≤ v2)) then
      bif (decide (v2 < (a0.Dones.length : Int))) then
      bif (!((mpGet ((a0.Dones.getD (Int.toNat v2) Done.dz).Index) v3).isSome)) then
        (let w2 : List (Int × Entry) := (mpSet ((a0.Dones.getD (Int.toNat v2) Done.dz).Index) (Entry.mk ((a0.Dones.getD (Int.toNat v2) Done.dz).Entry.Term) ((a0.Dones.getD (Int.toNat v2) Done.dz).Entry.Kind) ((a0.Dones.getD (Int.toNat v2) Done.dz).Entry.Data)) v3)
        rec (v1, (w64 (v2 + (1:Int))), w2, v4))
      else
      rec (v1, (w64 (v2 + (1:Int))), v3, v4)
      else none
      else none
    else
    lp12 ((1:Int), v3, v4)
noncomputable def step12 (N : Nat) (a0 : Group) (rec : (Int × (List (Int × Entry)) × (List ByteArray)) → Option R) : (Int × (List (Int × Entry)) × (List ByteArray)) → Option R
  | (v0, v1, v2) =>
    bif (decide (v0 ≤ (60:Int))) then
      bif (((mpGet v0 v1).getD (Entry.mk (0:Int) (0:Int) ByteArray.empty)).Kind == (1:Int)) then
        bif (room (v2.length + ([((mpGet v0 v1).getD (Entry.mk (0:Int) (0:Int) ByteArray.empty)).Data]).length) 16) then
        rec ((w64 (v0 + (1:Int))), v1, (v2 ++ [((mpGet v0 v1).getD (Entry.mk (0:Int) (0:Int) ByteArray.empty)).Data]))
        else none
      else
      rec ((w64 (v0 + (1:Int))), v1, v2)
    else
    some (v2, (0:Int))
noncomputable def lp12 (N : Nat) (a0 : Group) : (Int × (List (Int × Entry)) × (List ByteArray)) → Option R :=
  miter (fun rec => step12 N a0 rec) N
noncomputable def lp5 (N : Nat) (a0 : Group) : (Int × Int × (List (Int × Entry)) × (List ByteArray)) → Option R :=
  miter (fun rec => step5 N a0 (lp12 N a0) rec) N
noncomputable def m (N : Nat) (a0 : Group) : Option R :=
  ob (impl_GroupOK.m N a0) fun y1 =>
  bif (!y1) then
    some (([] : List ByteArray), (1:Int))
  else
  lp5 N a0 ((a0.Dones.length : Int), (0:Int), ([] : List (Int × Entry)), ([] : List ByteArray))
@[reducible] noncomputable def sp (N : Nat) : Spec E := { ps := [.val (.st 36)], rs := [(.slice 9 .str), (.int .i64)], own := true, dp := false, R := R, fn := fun x => m N x.1, res := fun r => (r.1, r.2, ()), out := fun r => ((), ()), shut := fun a b => (a.1, a.2.1), res_shut := fun _ _ => rfl, out_shut := fun _ _ => rfl }
end impl_CommittedData
/-! ### laws_eqStringS: loop.example/g00220/laws.eqStringS -/
namespace laws_eqStringS
abbrev R := Bool
noncomputable def step4 (N : Nat) (a0 : List ByteArray) (a1 : List ByteArray) (rec : Int → Option R) : Int → Option R
  | v2 =>
    bif (decide (v2 < (a0.length : Int))) then
      bif (decide (0 ≤ v2)) then
      bif (decide (v2 < (a0.length : Int))) then
      bif (decide (0 ≤ v2)) then
      bif (decide (v2 < (a1.length : Int))) then
      bif (!seq (a0.getD (Int.toNat v2) ByteArray.empty) (a1.getD (Int.toNat v2) ByteArray.empty)) then
        some false
      else
      rec (w64 (v2 + (1:Int)))
      else none
      else none
      else none
      else none
    else
    some true
noncomputable def lp4 (N : Nat) (a0 : List ByteArray) (a1 : List ByteArray) : Int → Option R :=
  miter (fun rec => step4 N a0 a1 rec) N
noncomputable def m (N : Nat) (a0 : List ByteArray) (a1 : List ByteArray) : Option R :=
  bif ((a0.length : Int) != (a1.length : Int)) then
    some false
  else
  lp4 N a0 a1 (0:Int)
@[reducible] noncomputable def sp (N : Nat) : Spec E := { ps := [.val (.slice 9 .str), .val (.slice 9 .str)], rs := [.bool], own := true, dp := false, R := R, fn := fun x => m N x.1 x.2.1, res := fun r => (r, ()), out := fun r => ((), (), ()), shut := fun a b => a.1, res_shut := fun _ _ => rfl, out_shut := fun _ _ => rfl }
end laws_eqStringS
/-! ### laws_eqEntry: loop.example/g00220/laws.eqEntry -/
namespace laws_eqEntry
abbrev R := Bool
noncomputable def m (N : Nat) (a0 : Entry) (a1 : Entry) : Option R :=
  bif (a0.Term != a1.Term) then
    some false
  else
  bif (a0.Kind != a1.Kind) then
    some false
  else
  bif (!seq a0.Data a1.Data) then
    some false
  else
  some true
@[reducible] noncomputable def sp (N : Nat) : Spec E := { ps := [.val (.st 58), .val (.st 58)], rs := [.bool], own := true, dp := false, R := R, fn := fun x => m N x.1 x.2.1, res := fun r => (r, ()), out := fun r => ((), (), ()), shut := fun a b => a.1, res_shut := fun _ _ => rfl, out_shut := fun _ _ => rfl }
end laws_eqEntry
/-! ### laws_eqEntryS: loop.example/g00220/laws.eqEntryS -/
namespace laws_eqEntryS
abbrev R := Bool
noncomputable def step4 (N : Nat) (a0 : List Entry) (a1 : List Entry) (rec : Int → Option R) : Int → Option R
  | v2 =>
    bif (decide (v2 < (a0.length : Int))) then
      bif (decide (0 ≤ v2)) then
      bif (decide (v2 < (a0.length : Int))) then
      bif (decide (0 ≤ v2)) then
      bif (decide (v2 < (a1.length : Int))) then
      ob (laws_eqEntry.m N (a0.getD (Int.toNat v2) Entry.dz) (a1.getD (Int.toNat v2) Entry.dz)) fun y1 =>
      bif (!y1) then
        some false
      else
      rec (w64 (v2 + (1:Int)))
      else none
      else none
      else none
      else none
    else
    some true
noncomputable def lp4 (N : Nat) (a0 : List Entry) (a1 : List Entry) : Int → Option R :=
  miter (fun rec => step4 N a0 a1 rec) N
noncomputable def m (N : Nat) (a0 : List Entry) (a1 : List Entry) : Option R :=
  bif ((a0.length : Int) != (a1.length : Int)) then
    some false
  else
  lp4 N a0 a1 (0:Int)
@[reducible] noncomputable def sp (N : Nat) : Spec E := { ps := [.val (.slice 58 (.st 58)), .val (.slice 58 (.st 58))], rs := [.bool], own := true, dp := false, R := R, fn := fun x => m N x.1 x.2.1, res := fun r => (r, ()), out := fun r => ((), (), ()), shut := fun a b => a.1, res_shut := fun _ _ => rfl, out_shut := fun _ _ => rfl }
end laws_eqEntryS
/-! ### laws_eqIntS: loop.example/g00220/laws.eqIntS -/
namespace laws_eqIntS
abbrev R := Bool
noncomputable def step4 (N : Nat) (a0 : List Int) (a1 : List Int) (rec : Int → Option R) : Int → Option R
  | v2 =>
    bif (decide (v2 < (a0.length : Int))) then
      bif (decide (0 ≤ v2)) then
      bif (decide (v2 < (a0.length : Int))) then
      bif (decide (0 ≤ v2)) then
      bif (decide (v2 < (a1.length : Int))) then
      bif ((a0.getD (Int.toNat v2) (0:Int)) != (a1.getD (Int.toNat v2) (0:Int))) then
        some false
      else
      rec (w64 (v2 + (1:Int)))
      else none
      else none
      else none
      else none
    else
    some true
noncomputable def lp4 (N : Nat) (a0 : List Int) (a1 : List Int) : Int → Option R :=
  miter (fun rec => step4 N a0 a1 rec) N
noncomputable def m (N : Nat) (a0 : List Int) (a1 : List Int) : Option R :=
  bif ((a0.length : Int) != (a1.length : Int)) then
    some false
  else
  lp4 N a0 a1 (0:Int)
@[reducible] noncomputable def sp (N : Nat) : Spec E := { ps := [.val (.slice 3 (.int .i64)), .val (.slice 3 (.int .i64))], rs := [.bool], own := true, dp := false, R := R, fn := fun x => m N x.1 x.2.1, res := fun r => (r, ()), out := fun r => ((), (), ()), shut := fun a b => a.1, res_shut := fun _ _ => rfl, out_shut := fun _ _ => rfl }
end laws_eqIntS
/-! ### laws_eqNode: loop.example/g00220/laws.eqNode -/
namespace laws_eqNode
abbrev R := Bool
noncomputable def m (N : Nat) (a0 : Node) (a1 : Node) : Option R :=
  bif (a0.Id != a1.Id) then
    some false
  else
  bif (a0.Term != a1.Term) then
    some false
  else
  bif (a0.Vote != a1.Vote) then
    some false
  else
  ob (laws_eqEntryS.m N a0.Log a1.Log) fun y1 =>
  bif (!y1) then
    some false
  else
  ob (laws_eqIntS.m N a0.Start a1.Start) fun y2 =>
  bif (!y2) then
    some false
  else
  bif (a0.Role != a1.Role) then
    some false
  else
  ob (laws_eqIntS.m N a0.Votes a1.Votes) fun y3 =>
  bif (!y3) then
    some false
  else
  ob (laws_eqIntS.m N a0.Next a1.Next) fun y4 =>
  bif (!y4) then
    some false
  else
  ob (laws_eqIntS.m N a0.Match a1.Match) fun y5 =>
  bif (!y5) then
    some false
  else
  bif (a0.Commit != a1.Commit) then
    some false
  else
  bif (a0.Elapsed != a1.Elapsed) then
    some false
  else
  bif (a0.Wait != a1.Wait) then
    some false
  else
  bif (!(a0.Up == a1.Up)) then
    some false
  else
  some true
@[reducible] noncomputable def sp (N : Nat) : Spec E := { ps := [.val (.st 50), .val (.st 50)], rs := [.bool], own := true, dp := false, R := R, fn := fun x => m N x.1 x.2.1, res := fun r => (r, ()), out := fun r => ((), (), ()), shut := fun a b => a.1, res_shut := fun _ _ => rfl, out_shut := fun _ _ => rfl }
end laws_eqNode
/-! ### laws_eqNodeS: loop.example/g00220/laws.eqNodeS -/
namespace laws_eqNodeS
abbrev R := Bool
noncomputable def step4 (N : Nat) (a0 : List Node) (a1 : List Node) (rec : Int → Option R) : Int → Option R
  | v2 =>
    bif (decide (v2 < (a0.length : Int))) then
      bif (decide (0 ≤ v2)) then
      bif (decide (v2 < (a0.length : Int))) then
      bif (decide (0 ≤ v2)) then
      bif (decide (v2 < (a1.length : Int))) then
      ob (laws_eqNode.m N (a0.getD (Int.toNat v2) Node.dz) (a1.getD (Int.toNat v2) Node.dz)) fun y1 =>
      bif (!y1) then
        some false
      else
      rec (w64 (v2 + (1:Int)))
      else none
      else none
      else none
      else none
    else
    some true
noncomputable def lp4 (N : Nat) (a0 : List Node) (a1 : List Node) : Int → Option R :=
  miter (fun rec => step4 N a0 a1 rec) N
noncomputable def m (N : Nat) (a0 : List Node) (a1 : List Node) : Option R :=
  bif ((a0.length : Int) != (a1.length : Int)) then
    some false
  else
  lp4 N a0 a1 (0:Int)
@[reducible] noncomputable def sp (N : Nat) : Spec E := { ps := [.val (.slice 50 (.st 50)), .val (.slice 50 (.st 50))], rs := [.bool], own := true, dp := false, R := R, fn := fun x => m N x.1 x.2.1, res := fun r => (r, ()), out := fun r => ((), (), ()), shut := fun a b => a.1, res_shut := fun _ _ => rfl, out_shut := fun _ _ => rfl }
end laws_eqNodeS
/-! ### laws_eqMessage: loop.example/g00220/laws.eqMessage -/
namespace laws_eqMessage
abbrev R := Bool
noncomputable def m (N : Nat) (a0 : Message) (a1 : Message) : Option R :=
  bif (a0.Kind != a1.Kind) then
    some false
  else
  bif (a0.From != a1.From) then
    some false
  else
  bif (a0.To != a1.To) then
    some false
  else
  bif (a0.Term != a1.Term) then
    some false
  else
  bif (a0.Index != a1.Index) then
    some false
  else
  bif (a0.LogTerm != a1.LogTerm) then
    some false
  else
  bif (a0.Commit != a1.Commit) then
    some false
  else
  ob (laws_eqEntryS.m N a0.Entries a1.Entries) fun y1 =>
  bif (!y1) then
    some false
  else
  bif (!(a0.Ok == a1.Ok)) then
    some false
  else
  some true
@[reducible] noncomputable def sp (N : Nat) : Spec E := { ps := [.val (.st 113), .val (.st 113)], rs := [.bool], own := true, dp := false, R := R, fn := fun x => m N x.1 x.2.1, res := fun r => (r, ()), out := fun r => ((), (), ()), shut := fun a b => a.1, res_shut := fun _ _ => rfl, out_shut := fun _ _ => rfl }
end laws_eqMessage
/-! ### laws_eqMessageS: loop.example/g00220/laws.eqMessageS -/
namespace laws_eqMessageS
abbrev R := Bool
noncomputable def step4 (N : Nat) (a0 : List Message) (a1 : List Message) (rec : Int → Option R) : Int → Option R
  | v2 =>
    bif (decide (v2 < (a0.length : Int))) then
      bif (decide (0 ≤ v2)) then
      bif (decide (v2 < (a0.length : Int))) then
      bif (decide (0 ≤ v2)) then
      bif (decide (v2 < (a1.length : Int))) then
      ob (laws_eqMessage.m N (a0.getD (Int.toNat v2) Message.dz) (a1.getD (Int.toNat v2) Message.dz)) fun y1 =>
      bif (!y1) then
        some false
      else
      rec (w64 (v2 + (1:Int)))
      else none
      else none
      else none
      else none
    else
    some true
noncomputable def lp4 (N : Nat) (a0 : List Message) (a1 : List Message) : Int → Option R :=
  miter (fun rec => step4 N a0 a1 rec) N
noncomputable def m (N : Nat) (a0 : List Message) (a1 : List Message) : Option R :=
  bif ((a0.length : Int) != (a1.length : Int)) then
    some false
  else
  lp4 N a0 a1 (0:Int)
@[reducible] noncomputable def sp (N : Nat) : Spec E := { ps := [.val (.slice 113 (.st 113)), .val (.slice 113 (.st 113))], rs := [.bool], own := true, dp := false, R := R, fn := fun x => m N x.1 x.2.1, res := fun r => (r, ()), out := fun r => ((), (), ()), shut := fun a b => a.1, res_shut := fun _ _ => rfl, out_shut := fun _ _ => rfl }
end laws_eqMessageS
/-! ### laws_eqLead: loop.example/g00220/laws.eqLead -/
namespace laws_eqLead
abbrev R := Bool
noncomputable def m (N : Nat) (a0 : Lead) (a1 : Lead) : Option R :=
  bif (a0.Term != a1.Term) then
    some false
  else
  bif (a0.Id != a1.Id) then
    some false
  else
  ob (laws_eqEntryS.m N a0.Log a1.Log) fun y1 =>
  bif (!y1) then
    some false
  else
  some true
@[reducible] noncomputable def sp (N : Nat) : Spec E := { ps := [.val (.st 78), .val (.st 78)], rs := [.bool], own := true, dp := false, R := R, fn := fun x => m N x.1 x.2.1, res := fun r => (r, ()), out := fun r => ((), (), ()), shut := fun a b => a.1, res_shut := fun _ _ => rfl, out_shut := fun _ _ => rfl }
end laws_eqLead
/-! ### laws_eqLeadS: loop.example/g00220/laws.eqLeadS -/
namespace laws_eqLeadS
abbrev R := Bool
noncomputable def step4 (N : Nat) (a0 : List Lead) (a1 : List Lead) (rec : Int → Option R) : Int → Option R
  | v2 =>
    bif (decide (v2 < (a0.length : Int))) then
      bif (decide (0 ≤ v2)) then
      bif (decide (v2 < (a0.length : Int))) then
      bif (decide (0 ≤ v2)) then
      bif (decide (v2 < (a1.length : Int))) then
      ob (laws_eqLead.m N (a0.getD (Int.toNat v2) Lead.dz) (a1.getD (Int.toNat v2) Lead.dz)) fun y1 =>
      bif (!y1) then
        some false
      else
      rec (w64 (v2 + (1:Int)))
      else none
      else none
      else none
      else none
    else
    some true
noncomputable def lp4 (N : Nat) (a0 : List Lead) (a1 : List Lead) : Int → Option R :=
  miter (fun rec => step4 N a0 a1 rec) N
noncomputable def m (N : Nat) (a0 : List Lead) (a1 : List Lead) : Option R :=
  bif ((a0.length : Int) != (a1.length : Int)) then
    some false
  else
  lp4 N a0 a1 (0:Int)
@[reducible] noncomputable def sp (N : Nat) : Spec E := { ps := [.val (.slice 78 (.st 78)), .val (.slice 78 (.st 78))], rs := [.bool], own := true, dp := false, R := R, fn := fun x => m N x.1 x.2.1, res := fun r => (r, ()), out := fun r => ((), (), ()), shut := fun a b => a.1, res_shut := fun _ _ => rfl, out_shut := fun _ _ => rfl }
end laws_eqLeadS
/-! ### laws_eqDone: loop.example/g00220/laws.eqDone -/
namespace laws_eqDone
abbrev R := Bool
noncomputable def m (N : Nat) (a0 : Done) (a1 : Done) : Option R :=
  bif (a0.Node != a1.Node) then
    some false
  else
  bif (a0.Term != a1.Term) then
    some false
  else
  bif (a0.Index != a1.Index) then
    some false
  else
  ob (laws_eqEntry.m N (Entry.mk a0.Entry.Term a0.Entry.Kind a0.Entry.Data) (Entry.mk a1.Entry.Term a1.Entry.Kind a1.Entry.Data)) fun y1 =>
  bif (!y1) then
    some false
  else
  some true
@[reducible] noncomputable def sp (N : Nat) : Spec E := { ps := [.val (.st 66), .val (.st 66)], rs := [.bool], own := true, dp := false, R := R, fn := fun x => m N x.1 x.2.1, res := fun r => (r, ()), out := fun r => ((), (), ()), shut := fun a b => a.1, res_shut := fun _ _ => rfl, out_shut := fun _ _ => rfl }
end laws_eqDone
/-! ### laws_eqDoneS: loop.example/g00220/laws.eqDoneS -/
namespace laws_eqDoneS
abbrev R := Bool
noncomputable def step4 (N : Nat) (a0 : List Done) (a1 : List Done) (rec : Int → Option R) : Int → Option R
  | v2 =>
    bif (decide (v2 < (a0.length : Int))) then
      bif (decide (0 ≤ v2)) then
      bif (decide (v2 < (a0.length : Int))) then
      bif (decide (0 ≤ v2)) then
      bif (decide (v2 < (a1.length : Int))) then
      ob (laws_eqDone.m N (Done.mk ((a0.getD (Int.toNat v2) Done.dz).Node) ((a0.getD (Int.toNat v2) Done.dz).Term) ((a0.getD (Int.toNat v2) Done.dz).Index) (Entry.mk ((a0.getD (Int.toNat v2) Done.dz).Entry.Term) ((a0.getD (Int.toNat v2) Done.dz).Entry.Kind) ((a0.getD (Int.toNat v2) Done.dz).Entry.Data))) (Done.mk ((a1.getD (Int.toNat v2) Done.dz).Node) ((a1.getD (Int.toNat v2) Done.dz).Term) ((a1.getD (Int.toNat v2) Done.dz).Index) (Entry.mk ((a1.getD (Int.toNat v2) Done.dz).Entry.Term) ((a1.getD (Int.toNat v2) Done.dz).Entry.Kind) ((a1.getD (Int.toNat v2) Done.dz).Entry.Data)))) fun y1 =>
      bif (!y1) then
        some false
      else
      rec (w64 (v2 + (1:Int)))
      else none
      else none
      else none
      else none
    else
    some true
noncomputable def lp4 (N : Nat) (a0 : List Done) (a1 : List Done) : Int → Option R :=
  miter (fun rec => step4 N a0 a1 rec) N
noncomputable def m (N : Nat) (a0 : List Done) (a1 : List Done) : Option R :=
  bif ((a0.length : Int) != (a1.length : Int)) then
    some false
  else
  lp4 N a0 a1 (0:Int)
@[reducible] noncomputable def sp (N : Nat) : Spec E := { ps := [.val (.slice 66 (.st 66)), .val (.slice 66 (.st 66))], rs := [.bool], own := true, dp := false, R := R, fn := fun x => m N x.1 x.2.1, res := fun r => (r, ()), out := fun r => ((), (), ()), shut := fun a b => a.1, res_shut := fun _ _ => rfl, out_shut := fun _ _ => rfl }
end laws_eqDoneS
/-! ### laws_eqGroup: loop.example/g00220/laws.eqGroup -/
namespace laws_eqGroup
abbrev R := Bool
noncomputable def m (N : Nat) (a0 : Group) (a1 : Group) : Option R :=
  ob (laws_eqNodeS.m N a0.Nodes a1.Nodes) fun y1 =>
  bif (!y1) then
    some false
  else
  ob (laws_eqMessageS.m N a0.Wire a1.Wire) fun y2 =>
  bif (!y2) then
    some false
  else
  ob (laws_eqLeadS.m N a0.Leads a1.Leads) fun y3 =>
  bif (!y3) then
    some false
  else
  ob (laws_eqDoneS.m N a0.Dones a1.Dones) fun y4 =>
  bif (!y4) then
    some false
  else
  some true
@[reducible] noncomputable def sp (N : Nat) : Spec E := { ps := [.val (.st 36), .val (.st 36)], rs := [.bool], own := true, dp := false, R := R, fn := fun x => m N x.1 x.2.1, res := fun r => (r, ()), out := fun r => ((), (), ()), shut := fun a b => a.1, res_shut := fun _ _ => rfl, out_shut := fun _ _ => rfl }
end laws_eqGroup
/-! ### laws_markText: loop.example/g00220/laws.markText -/
namespace laws_markText
abbrev R := ByteArray
noncomputable def step4 (N : Nat) (a0 : Int) (rec : (Int × ByteArray) → Option R) : (Int × ByteArray) → Option R
  | (v0, v1) =>
    bif (decide (v0 > (0:Int))) then
      bif (!decide ((10:Int) = 0)) then
      bif (decide ((strOf ([(wu8 (w64 ((48:Int) + (Int.tmod v0 (10:Int)))))])).size + v1.size ≤ 9223372036854775807)) then
      bif (!decide ((10:Int) = 0)) then
      rec ((w64 (Int.tdiv v0 (10:Int))), ((strOf ([(wu8 (w64 ((48:Int) + (Int.tmod v0 (10:Int)))))])) ++ v1))
      else none
      else none
      else none
    else
    bif (decide ((⟨#[109]⟩ : ByteArray).size + v1.size ≤ 9223372036854775807)) then
    some ((⟨#[109]⟩ : ByteArray) ++ v1)
    else none
noncomputable def lp4 (N : Nat) (a0 : Int) : (Int × ByteArray) → Option R :=
  miter (fun rec => step4 N a0 rec) N
noncomputable def m (N : Nat) (a0 : Int) : Option R :=
  bif (decide (a0 ≤ (0:Int))) then
    some (⟨#[109, 48]⟩ : ByteArray)
  else
  lp4 N a0 (a0, ByteArray.empty)
@[reducible] noncomputable def sp (N : Nat) : Spec E := { ps := [.val (.int .i64)], rs := [.str], own := true, dp := false, R := R, fn := fun x => m N x.1, res := fun r => (r, ()), out := fun r => ((), ()), shut := fun a b => a.1, res_shut := fun _ _ => rfl, out_shut := fun _ _ => rfl }
end laws_markText
/-! ### laws_markEntryS: loop.example/g00220/laws.markEntryS -/
namespace laws_markEntryS
abbrev R := Int × (List Entry)
noncomputable def step2 (N : Nat) (a0 : List Entry) (a1 : Int) (rec : (Int × Int × (List Entry)) → Option R) : (Int × Int × (List Entry)) → Option R
  | (v0, v1, v2) =>
    bif (decide (v1 < (v2.length : Int))) then
      bif (decide (0 ≤ v1)) then
      bif (decide (v1 < (v2.length : Int))) then
      bif (decide (0 ≤ v1)) then
      bif (decide (v1 < ((v2.set (Int.toNat v1) (Entry.mk v0 ((v2.getD (Int.toNat v1) Entry.dz).Kind) ((v2.getD (Int.toNat v1) Entry.dz).Data))).length : Int))) then
      (let w1 : Entry := ((v2.set (Int.toNat v1) (Entry.mk v0 ((v2.getD (Int.toNat v1) Entry.dz).Kind) ((v2.getD (Int.toNat v1) Entry.dz).Data))).getD (Int.toNat v1) Entry.dz)
      (let w2 : List Entry := ((v2.set (Int.toNat v1) (Entry.mk v0 ((v2.getD (Int.toNat v1) Entry.dz).Kind) ((v2.getD (Int.toNat v1) Entry.dz).Data))).set (Int.toNat v1) (Entry.mk w1.Term (w64 (v0 + (1:Int))) w1.Data))
      ob (laws_markText.m N (w64 ((w64 (v0 + (1:Int))) + (1:Int)))) fun y3 =>
      bif (decide (0 ≤ v1)) then
      bif (decide (v1 < (w2.length : Int))) then
      rec ((w64 ((w64 ((w64 (v0 + (1:Int))) + (1:Int))) + (1:Int))), (w64 (v1 + (1:Int))), (w2.set (Int.toNat v1) (Entry.mk ((w2.getD (Int.toNat v1) Entry.dz).Term) ((w2.getD (Int.toNat v1) Entry.dz).Kind) y3)))
      else none
      else none))
      else none
      else none
      else none
      else none
    else
    some (v0, v2)
noncomputable def lp2 (N : Nat) (a0 : List Entry) (a1 : Int) : (Int × Int × (List Entry)) → Option R :=
  miter (fun rec => step2 N a0 a1 rec) N
noncomputable def m (N : Nat) (a0 : List Entry) (a1 : Int) : Option R :=
  lp2 N a0 a1 (a1, (0:Int), a0)
@[reducible] noncomputable def sp (N : Nat) : Spec E := { ps := [.mut false (.slice 58 (.st 58)), .val (.int .i64)], rs := [(.int .i64)], own := true, dp := false, R := R, fn := fun x => m N x.1 x.2.1, res := fun r => (r.1, ()), out := fun r => (r.2, (), ()), shut := fun a b => (a.1, b.1), res_shut := fun _ _ => rfl, out_shut := fun _ _ => rfl }
end laws_markEntryS
/-! ### laws_markIntS: loop.example/g00220/laws.markIntS -/
namespace laws_markIntS
abbrev R := Int × (List Int)
noncomputable def step2 (N : Nat) (a0 : List Int) (a1 : Int) (rec : (Int × Int × (List Int)) → Option R) : (Int × Int × (List Int)) → Option R
  | (v0, v1, v2) =>
    bif (decide (v1 < (v2.length : Int))) then
      bif (decide (0 ≤ v1)) then
      bif (decide (v1 < (v2.length : Int))) then
      rec ((w64 (v0 + (1:Int))), (w64 (v1 + (1:Int))), (v2.set (Int.toNat v1) v0))
      else none
      else none
    else
    some (v0, v2)
noncomputable def lp2 (N : Nat) (a0 : List Int) (a1 : Int) : (Int × Int × (List Int)) → Option R :=
  miter (fun rec => step2 N a0 a1 rec) N
noncomputable def m (N : Nat) (a0 : List Int) (a1 : Int) : Option R :=
  lp2 N a0 a1 (a1, (0:Int), a0)
@[reducible] noncomputable def sp (N : Nat) : Spec E := { ps := [.mut false (.slice 3 (.int .i64)), .val (.int .i64)], rs := [(.int .i64)], own := true, dp := false, R := R, fn := fun x => m N x.1 x.2.1, res := fun r => (r.1, ()), out := fun r => (r.2, (), ()), shut := fun a b => (a.1, b.1), res_shut := fun _ _ => rfl, out_shut := fun _ _ => rfl }
end laws_markIntS
/-! ### laws_markNodeS: loop.example/g00220/laws.markNodeS -/
namespace laws_markNodeS
abbrev R := Int × (List Node)
noncomputable def step2 (N : Nat) (a0 : List Node) (a1 : Int) (rec : (Int × Int × (List Node)) → Option R) : (Int × Int × (List Node)) → Option R
  | (v0, v1, v2) =>
    bif (decide (v1 < (v2.length : Int))) then
      bif (decide (0 ≤ v1)) then
      bif (decide (v1 < (v2.length : Int))) then
      (let w1 : List Node := (v2.set (Int.toNat v1) (Node.mk v0 ((v2.getD (Int.toNat v1) Node.dz).Term) ((v2.getD (Int.toNat v1) Node.dz).Vote) ((v2.getD (Int.toNat v1) Node.dz).Log) ((v2.getD (Int.toNat v1) Node.dz).Start) ((v2.getD (Int.toNat v1) Node.dz).Role) ((v2.getD (Int.toNat v1) Node.dz).Votes) ((v2.getD (Int.toNat v1) Node.dz).Next) ((v2.getD (Int.toNat v1) Node.dz).Match) ((v2.getD (Int.toNat v1) Node.dz).Commit) ((v2.getD (Int.toNat v1) Node.dz).Elapsed) ((v2.getD (Int.toNat v1) Node.dz).Wait) ((v2.getD (Int.toNat v1) Node.dz).Up)))
      bif (decide (0 ≤ v1)) then
      bif (decide (v1 < (w1.length : Int))) then
      (let w2 : List Node := (w1.set (Int.toNat v1) (Node.mk ((w1.getD (Int.toNat v1) Node.dz).Id) (w64 (v0 + (1:Int))) ((w1.getD (Int.toNat v1) Node.dz).Vote) ((w1.getD (Int.toNat v1) Node.dz).Log) ((w1.getD (Int.toNat v1) Node.dz).Start) ((w1.getD (Int.toNat v1) Node.dz).Role) ((w1.getD (Int.toNat v1) Node.dz).Votes) ((w1.getD (Int.toNat v1) Node.dz).Next) ((w1.getD (Int.toNat v1) Node.dz).Match) ((w1.getD (Int.toNat v1) Node.dz).Commit) ((w1.getD (Int.toNat v1) Node.dz).Elapsed) ((w1.getD (Int.toNat v1) Node.dz).Wait) ((w1.getD (Int.toNat v1) Node.dz).Up)))
      bif (decide (0 ≤ v1)) then
      bif (decide (v1 < (w2.length : Int))) then
      (let w3 : List Node := (w2.set (Int.toNat v1) (Node.mk ((w2.getD (Int.toNat v1) Node.dz).Id) ((w2.getD (Int.toNat v1) Node.dz).Term) (w64 ((w64 (v0 + (1:Int))) + (1:Int))) ((w2.getD (Int.toNat v1) Node.dz).Log) ((w2.getD (Int.toNat v1) Node.dz).Start) ((w2.getD (Int.toNat v1) Node.dz).Role) ((w2.getD (Int.toNat v1) Node.dz).Votes) ((w2.getD (Int.toNat v1) Node.dz).Next) ((w2.getD (Int.toNat v1) Node.dz).Match) ((w2.getD (Int.toNat v1) Node.dz).Commit) ((w2.getD (Int.toNat v1) Node.dz).Elapsed) ((w2.getD (Int.toNat v1) Node.dz).Wait) ((w2.getD (Int.toNat v1) Node.dz).Up)))
      bif (decide (0 ≤ v1)) then
      bif (decide (v1 < (w3.length : Int))) then
      bif (decide ((Int.toNat v1) < w3.length)) then
      ob (laws_markEntryS.m N ((w3.getD (Int.toNat v1) Node.dz).Log) (w64 ((w64 ((w64 (v0 + (1:Int))) + (1:Int))) + (1:Int)))) fun y4 =>
      (let w5 : List Node := (w3.set (Int.toNat v1) (Node.mk ((w3.getD (Int.toNat v1) Node.dz).Id) ((w3.getD (Int.toNat v1) Node.dz).Term) ((w3.getD (Int.toNat v1) Node.dz).Vote) y4.2 ((w3.getD (Int.toNat v1) Node.dz).Start) ((w3.getD (Int.toNat v1) Node.dz).Role) ((w3.getD (Int.toNat v1) Node.dz).Votes) ((w3.getD (Int.toNat v1) Node.dz).Next) ((w3.getD (Int.toNat v1) Node.dz).Match) ((w3.getD (Int.toNat v1) Node.dz).Commit) ((w3.getD (Int.toNat v1) Node.dz).Elapsed) ((w3.getD (Int.toNat v1) Node.dz).Wait) ((w3.getD (Int.toNat v1) Node.dz).Up)))
      bif (decide (0 ≤ v1)) then
      bif (decide (v1 < (w5.length : Int))) then
      bif (decide ((Int.toNat v1) < w5.length)) then
      ob (laws_markIntS.m N ((w5.getD (Int.toNat v1) Node.dz).Start) y4.1) fun y6 =>
      (let w7 : List Node := (w5.set (Int.toNat v1) (Node.mk ((w5.getD (Int.toNat v1) Node.dz).Id) ((w5.getD (Int.toNat v1) Node.dz).Term) ((w5.getD (Int.toNat v1) Node.dz).Vote) ((w5.getD (Int.toNat v1) Node.dz).Log) y6.2 ((w5.getD (Int.toNat v1) Node.dz).Role) ((w5.getD (Int.toNat v1) Node.dz).Votes) ((w5.getD (Int.toNat v1) Node.dz).Next) ((w5.getD (Int.toNat v1) Node.dz).Match) ((w5.getD (Int.toNat v1) Node.dz).Commit) ((w5.getD (Int.toNat v1) Node.dz).Elapsed) ((w5.getD (Int.toNat v1) Node.dz).Wait) ((w5.getD (Int.toNat v1) Node.dz).Up)))
      bif (decide (0 ≤ v1)) then
      bif (decide (v1 < (w7.length : Int))) then
      (let w8 : List Node := (w7.set (Int.toNat v1) (Node.mk ((w7.getD (Int.toNat v1) Node.dz).Id) ((w7.getD (Int.toNat v1) Node.dz).Term) ((w7.getD (Int.toNat v1) Node.dz).Vote) ((w7.getD (Int.toNat v1) Node.dz).Log) ((w7.getD (Int.toNat v1) Node.dz).Start) y6.1 ((w7.getD (Int.toNat v1) Node.dz).Votes) ((w7.getD (Int.toNat v1) Node.dz).Next) ((w7.getD (Int.toNat v1) Node.dz).Match) ((w7.getD (Int.toNat v1) Node.dz).Commit) ((w7.getD (Int.toNat v1) Node.dz).Elapsed) ((w7.getD (Int.toNat v1) Node.dz).Wait) ((w7.getD (Int.toNat v1) Node.dz).Up)))
      bif (decide (0 ≤ v1)) then
      bif (decide (v1 < (w8.length : Int))) then
      bif (decide ((Int.toNat v1) < w8.length)) then
      ob (laws_markIntS.m N ((w8.getD (Int.toNat v1) Node.dz).Votes) (w64 (y6.1 + (1:Int)))) fun y9 =>
      (let w10 : List Node := (w8.set (Int.toNat v1) (Node.mk ((w8.getD (Int.toNat v1) Node.dz).Id) ((w8.getD (Int.toNat v1) Node.dz).Term) ((w8.getD (Int.toNat v1) Node.dz).Vote) ((w8.getD (Int.toNat v1) Node.dz).Log) ((w8.getD (Int.toNat v1) Node.dz).Start) ((w8.getD (Int.toNat v1) Node.dz).Role) y9.2 ((w8.getD (Int.toNat v1) Node.dz).Next) ((w8.getD (Int.toNat v1) Node.dz).Match) ((w8.getD (Int.toNat v1) Node.dz).Commit) ((w8.getD (Int.toNat v1) Node.dz).Elapsed) ((w8.getD (Int.toNat v1) Node.dz).Wait) ((w8.getD (Int.toNat v1) Node.dz).Up)))
      bif (decide (0 ≤ v1)) then
      bif (decide (v1 < (w10.length : Int))) then
      bif (decide ((Int.toNat v1) < w10.length)) then
      ob (laws_markIntS.m N ((w10.getD (Int.toNat v1) Node.dz).Next) y9.1) fun y11 =>
      (let w12 : List Node := (w10.set (Int.toNat v1) (Node.mk ((w10.getD (Int.toNat v1) Node.dz).Id) ((w10.getD (Int.toNat v1) Node.dz).Term) ((w10.getD (Int.toNat v1) Node.dz).Vote) ((w10.getD (Int.toNat v1) Node.dz).Log) ((w10.getD (Int.toNat v1) Node.dz).Start) ((w10.getD (Int.toNat v1) Node.dz).Role) ((w10.getD (Int.toNat v1) Node.dz).Votes) y11.2 ((w10.getD (Int.toNat v1) Node.dz).Match) ((w10.getD (Int.toNat v1) Node.dz).Commit) ((w10.getD (Int.toNat v1) Node.dz).Elapsed) ((w10.getD (Int.toNat v1) Node.dz).Wait) ((w10.getD (Int.toNat v1) Node.dz).Up)))
      bif (decide (0 ≤ v1)) then
      bif (decide (v1 < (w12.length : Int))) then
      bif (decide ((Int.toNat v1) < w12.length)) then
      ob (laws_markIntS.m N ((w12.getD (Int.toNat v1) Node.dz).Match) y11.1) fun y13 =>
      (let w14 : List Node := (w12.set (Int.toNat v1) (Node.mk ((w12.getD (Int.toNat v1) Node.dz).Id) ((w12.getD (Int.toNat v1) Node.dz).Term) ((w12.getD (Int.toNat v1) Node.dz).Vote) ((w12.getD (Int.toNat v1) Node.dz).Log) ((w12.getD (Int.toNat v1) Node.dz).Start) ((w12.getD (Int.toNat v1) Node.dz).Role) ((w12.getD (Int.toNat v1) Node.dz).Votes) ((w12.getD (Int.toNat v1) Node.dz).Next) y13.2 ((w12.getD (Int.toNat v1) Node.dz).Commit) ((w12.getD (Int.toNat v1) Node.dz).Elapsed) ((w12.getD (Int.toNat v1) Node.dz).Wait) ((w12.getD (Int.toNat v1) Node.dz).Up)))
      bif (decide (0 ≤ v1)) then
      bif (decide (v1 < (w14.length : Int))) then
      (let w15 : List Node := (w14.set (Int.toNat v1) (Node.mk ((w14.getD (Int.toNat v1) Node.dz).Id) ((w14.getD (Int.toNat v1) Node.dz).Term) ((w14.getD (Int.toNat v1) Node.dz).Vote) ((w14.getD (Int.toNat v1) Node.dz).Log) ((w14.getD (Int.toNat v1) Node.dz).Start) ((w14.getD (Int.toNat v1) Node.dz).Role) ((w14.getD (Int.toNat v1) Node.dz).Votes) ((w14.getD (Int.toNat v1) Node.dz).Next) ((w14.getD (Int.toNat v1) Node.dz).Match) y13.1 ((w14.getD (Int.toNat v1) Node.dz).Elapsed) ((w14.getD (Int.toNat v1) Node.dz).Wait) ((w14.getD (Int.toNat v1) Node.dz).Up)))
      bif (decide (0 ≤ v1)) then
      bif (decide (v1 < (w15.length : Int))) then
      (let w16 : List Node := (w15.set (Int.toNat v1) (Node.mk ((w15.getD (Int.toNat v1) Node.dz).Id) ((w15.getD (Int.toNat v1) Node.dz).Term) ((w15.getD (Int.toNat v1) Node.dz).Vote) ((w15.getD (Int.toNat v1) Node.dz).Log) ((w15.getD (Int.toNat v1) Node.dz).Start) ((w15.getD (Int.toNat v1) Node.dz).Role) ((w15.getD (Int.toNat v1) Node.dz).Votes) ((w15.getD (Int.toNat v1) Node.dz).Next) ((w15.getD (Int.toNat v1) Node.dz).Match) ((w15.getD (Int.toNat v1) Node.dz).Commit) (w64 (y13.1 + (1:Int))) ((w15.getD (Int.toNat v1) Node.dz).Wait) ((w15.getD (Int.toNat v1) Node.dz).Up)))
      bif (decide (0 ≤ v1)) then
      bif (decide (v1 < (w16.length : Int))) then
      (let w17 : List Node := (w16.set (Int.toNat v1) (Node.mk ((w16.getD (Int.toNat v1) Node.dz).Id) ((w16.getD (Int.toNat v1) Node.dz).Term) ((w16.getD (Int.toNat v1) Node.dz).Vote) ((w16.getD (Int.toNat v1) Node.dz).Log) ((w16.getD (Int.toNat v1) Node.dz).Start) ((w16.getD (Int.toNat v1) Node.dz).Role) ((w16.getD (Int.toNat v1) Node.dz).Votes) ((w16.getD (Int.toNat v1) Node.dz).Next) ((w16.getD (Int.toNat v1) Node.dz).Match) ((w16.getD (Int.toNat v1) Node.dz).Commit) ((w16.getD (Int.toNat v1) Node.dz).Elapsed) (w64 ((w64 (y13.1 + (1:Int))) + (1:Int))) ((w16.getD (Int.toNat v1) Node.dz).Up)))
      bif (!decide ((3:Int) = 0)) then
      bif (decide (0 ≤ v1)) then
      bif (decide (v1 < (w17.length : Int))) then
      (let w18 : List Node := (w17.set (Int.toNat v1) (Node.mk ((w17.getD (Int.toNat v1) Node.dz).Id) ((w17.getD (Int.toNat v1) Node.dz).Term) ((w17.getD (Int.toNat v1) Node.dz).Vote) ((w17.getD (Int.toNat v1) Node.dz).Log) ((w17.getD (Int.toNat v1) Node.dz).Start) ((w17.getD (Int.toNat v1) Node.dz).Role) ((w17.getD (Int.toNat v1) Node.dz).Votes) ((w17.getD (Int.toNat v1) Node.dz).Next) ((w17.getD (Int.toNat v1) Node.dz).Match) ((w17.getD (Int.toNat v1) Node.dz).Commit) ((w17.getD (Int.toNat v1) Node.dz).Elapsed) ((w17.getD (Int.toNat v1) Node.dz).Wait) ((Int.tmod (w64 ((w64 ((w64 (y13.1 + (1:Int))) + (1:Int))) + (1:Int))) (3:Int)) == (0:Int))))
      rec ((w64 ((w64 ((w64 ((w64 (y13.1 + (1:Int))) + (1:Int))) + (1:Int))) + (1:Int))), (w64 (v1 + (1:Int))), w18))
      else none
      else none
      else none)
      else none
      else none)
      else none
      else none)
      else none
      else none)
      else none
      else none
      else none)
      else none
      else none
      else none)
      else none
      else none
      else none)
      else none
      else none)
      else none
      else none
      else none)
      else none
      else none
      else none)
      else none
      else none)
      else none
      else none)
      else none
      else none
    else
    some (v0, v2)
noncomputable def lp2 (N : Nat) (a0 : List Node) (a1 : Int) : (Int × Int × (List Node)) → Option R :=
  miter (fun rec => step2 N a0 a1 rec) N
noncomputable def m (N : Nat) (a0 : List Node) (a1 : Int) : Option R :=
  lp2 N a0 a1 (a1, (0:Int), a0)
@[reducible] noncomputable def sp (N : Nat) : Spec E := { ps := [.mut true (.slice 50 (.st 50)), .val (.int .i64)], rs := [(.int .i64)], own := true, dp := true, R := R, fn := fun x => m N x.1 x.2.1, res := fun r => (r.1, ()), out := fun r => (r.2, (), ()), shut := fun a b => (a.1, b.1), res_shut := fun _ _ => rfl, out_shut := fun _ _ => rfl }
end laws_markNodeS
/-! ### laws_markMessageS: loop.example/g00220/laws.markMessageS -/
namespace laws_markMessageS
abbrev R := Int × (List Message)
noncomputable def step2 (N : Nat) (a0 : List Message) (a1 : Int) (rec : (Int × Int × (List Message)) → Option R) : (Int × Int × (List Message)) → Option R
  | (v0, v1, v2) =>
    bif (decide (v1 < (v2.length : Int))) then
      bif (decide (0 ≤ v1)) then
      bif (decide (v1 < (v2.length : Int))) then
      (let w1 : List Message := (v2.set (Int.toNat v1) (Message.mk v0 ((v2.getD (Int.toNat v1) Message.dz).From) ((v2.getD (Int.toNat v1) Message.dz).To) ((v2.getD (Int.toNat v1) Message.dz).Term) ((v2.getD (Int.toNat v1) Message.dz).Index) ((v2.getD (Int.toNat v1) Message.dz).LogTerm) ((v2.getD (Int.toNat v1) Message.dz).Commit) ((v2.getD (Int.toNat v1) Message.dz).Entries) ((v2.getD (Int.toNat v1) Message.dz).Ok)))
      bif (decide (0 ≤ v1)) then
      bif (decide (v1 < (w1.length : Int))) then
      (let w2 : List Message := (w1.set (Int.toNat v1) (Message.mk ((w1.getD (Int.toNat v1) Message.dz).Kind) (w64 (v0 + (1:Int))) ((w1.getD (Int.toNat v1) Message.dz).To) ((w1.getD (Int.toNat v1) Message.dz).Term) ((w1.getD (Int.toNat v1) Message.dz).Index) ((w1.getD (Int.toNat v1) Message.dz).LogTerm) ((w1.getD (Int.toNat v1) Message.dz).Commit) ((w1.getD (Int.toNat v1) Message.dz).Entries) ((w1.getD (Int.toNat v1) Message.dz).Ok)))
      bif (decide (0 ≤ v1)) then
      bif (decide (v1 < (w2.length : Int))) then
      (let w3 : List Message := (w2.set (Int.toNat v1) (Message.mk ((w2.getD (Int.toNat v1) Message.dz).Kind) ((w2.getD (Int.toNat v1) Message.dz).From) (w64 ((w64 (v0 + (1:Int))) + (1:Int))) ((w2.getD (Int.toNat v1) Message.dz).Term) ((w2.getD (Int.toNat v1) Message.dz).Index) ((w2.getD (Int.toNat v1) Message.dz).LogTerm) ((w2.getD (Int.toNat v1) Message.dz).Commit) ((w2.getD (Int.toNat v1) Message.dz).Entries) ((w2.getD (Int.toNat v1) Message.dz).Ok)))
      bif (decide (0 ≤ v1)) then
      bif (decide (v1 < (w3.length : Int))) then
      (let w4 : List Message := (w3.set (Int.toNat v1) (Message.mk ((w3.getD (Int.toNat v1) Message.dz).Kind) ((w3.getD (Int.toNat v1) Message.dz).From) ((w3.getD (Int.toNat v1) Message.dz).To) (w64 ((w64 ((w64 (v0 + (1:Int))) + (1:Int))) + (1:Int))) ((w3.getD (Int.toNat v1) Message.dz).Index) ((w3.getD (Int.toNat v1) Message.dz).LogTerm) ((w3.getD (Int.toNat v1) Message.dz).Commit) ((w3.getD (Int.toNat v1) Message.dz).Entries) ((w3.getD (Int.toNat v1) Message.dz).Ok)))
      bif (decide (0 ≤ v1)) then
      bif (decide (v1 < (w4.length : Int))) then
      (let w5 : List Message := (w4.set (Int.toNat v1) (Message.mk ((w4.getD (Int.toNat v1) Message.dz).Kind) ((w4.getD (Int.toNat v1) Message.dz).From) ((w4.getD (Int.toNat v1) Message.dz).To) ((w4.getD (Int.toNat v1) Message.dz).Term) (w64 ((w64 ((w64 ((w64 (v0 + (1:Int))) + (1:Int))) + (1:Int))) + (1:Int))) ((w4.getD (Int.toNat v1) Message.dz).LogTerm) ((w4.getD (Int.toNat v1) Message.dz).Commit) ((w4.getD (Int.toNat v1) Message.dz).Entries) ((w4.getD (Int.toNat v1) Message.dz).Ok)))
      bif (decide (0 ≤ v1)) then
      bif (decide (v1 < (w5.length : Int))) then
      (let w6 : List Message := (w5.set (Int.toNat v1) (Message.mk ((w5.getD (Int.toNat v1) Message.dz).Kind) ((w5.getD (Int.toNat v1) Message.dz).From) ((w5.getD (Int.toNat v1) Message.dz).To) ((w5.getD (Int.toNat v1) Message.dz).Term) ((w5.getD (Int.toNat v1) Message.dz).Index) (w64 ((w64 ((w64 ((w64 ((w64 (v0 + (1:Int))) + (1:Int))) + (1:Int))) + (1:Int))) + (1:Int))) ((w5.getD (Int.toNat v1) Message.dz).Commit) ((w5.getD (Int.toNat v1) Message.dz).Entries) ((w5.getD (Int.toNat v1) Message.dz).Ok)))
      bif (decide (0 ≤ v1)) then
      bif (decide (v1 < (w6.length : Int))) then
      (let w7 : List Message := (w6.set (Int.toNat v1) (Message.mk ((w6.getD (Int.toNat v1) Message.dz).Kind) ((w6.getD (Int.toNat v1) Message.dz).From) ((w6.getD (Int.toNat v1) Message.dz).To) ((w6.getD (Int.toNat v1) Message.dz).Term) ((w6.getD (Int.toNat v1) Message.dz).Index) ((w6.getD (Int.toNat v1) Message.dz).LogTerm) (w64 ((w64 ((w64 ((w64 ((w64 ((w64 (v0 + (1:Int))) + (1:Int))) + (1:Int))) + (1:Int))) + (1:Int))) + (1:Int))) ((w6.getD (Int.toNat v1) Message.dz).Entries) ((w6.getD (Int.toNat v1) Message.dz).Ok)))
      bif (decide (0 ≤ v1)) then
      bif (decide (v1 < (w7.length : Int))) then
      bif (decide ((Int.toNat v1) < w7.length)) then
      ob (laws_markEntryS.m N ((w7.getD (Int.toNat v1) Message.dz).Entries) (w64 ((w64 ((w64 ((w64 ((w64 ((w64 ((w64 (v0 + (1:Int))) + (1:Int))) + (1:Int))) + (1:Int))) + (1:Int))) + (1:Int))) + (1:Int)))) fun y8 =>
      (let w9 : List Message := (w7.set (Int.toNat v1) (Message.mk ((w7.getD (Int.toNat v1) Message.dz).Kind) ((w7.getD (Int.toNat v1) Message.dz).From) ((w7.getD (Int.toNat v1) Message.dz).To) ((w7.getD (Int.toNat v1) Message.dz).Term) ((w7.getD (Int.toNat v1) Message.dz).Index) ((w7.getD (Int.toNat v1) Message.dz).LogTerm) ((w7.getD (Int.toNat v1) Message.dz).Commit) y8.2 ((w7.getD (Int.toNat v1) Message.dz).Ok)))
      bif (!decide ((3:Int) = 0)) then
      bif (decide (0 ≤ v1)) then
      bif (decide (v1 < (w9.length : Int))) then
      (let w10 : List Message := (w9.set (Int.toNat v1) (Message.mk ((w9.getD (Int.toNat v1) Message.dz).Kind) ((w9.getD (Int.toNat v1) Message.dz).From) ((w9.getD (Int.toNat v1) Message.dz).To) ((w9.getD (Int.toNat v1) Message.dz).Term) ((w9.getD (Int.toNat v1) Message.dz).Index) ((w9.getD (Int.toNat v1) Message.dz).LogTerm) ((w9.getD (Int.toNat v1) Message.dz).Commit) ((w9.getD (Int.toNat v1) Message.dz).Entries) ((Int.tmod y8.1 (3:Int)) == (0:Int))))
      rec ((w64 (y8.1 + (1:Int))), (w64 (v1 + (1:Int))), w10))
      else none
      else none
      else none)
      else none
      else none
      else none)
      else none
      else none)
      else none
      else none)
      else none
      else none)
      else none
      else none)
      else none
      else none)
      else none
      else none)
      else none
      else none
    else
    some (v0, v2)
noncomputable def lp2 (N : Nat) (a0 : List Message) (a1 : Int) : (Int × Int × (List Message)) → Option R :=
  miter (fun rec => step2 N a0 a1 rec) N
noncomputable def m (N : Nat) (a0 : List Message) (a1 : Int) : Option R :=
  lp2 N a0 a1 (a1, (0:Int), a0)
@[reducible] noncomputable def sp (N : Nat) : Spec E := { ps := [.mut true (.slice 113 (.st 113)), .val (.int .i64)], rs := [(.int .i64)], own := true, dp := true, R := R, fn := fun x => m N x.1 x.2.1, res := fun r => (r.1, ()), out := fun r => (r.2, (), ()), shut := fun a b => (a.1, b.1), res_shut := fun _ _ => rfl, out_shut := fun _ _ => rfl }
end laws_markMessageS
/-! ### laws_markLeadS: loop.example/g00220/laws.markLeadS -/
namespace laws_markLeadS
abbrev R := Int × (List Lead)
noncomputable def step2 (N : Nat) (a0 : List Lead) (a1 : Int) (rec : (Int × Int × (List Lead)) → Option R) : (Int × Int × (List Lead)) → Option R
  | (v0, v1, v2) =>
    bif (decide (v1 < (v2.length : Int))) then
      bif (decide (0 ≤ v1)) then
      bif (decide (v1 < (v2.length : Int))) then
      bif (decide (0 ≤ v1)) then
      bif (decide (v1 < ((v2.set (Int.toNat v1) (Lead.mk v0 ((v2.getD (Int.toNat v1) Lead.dz).Id) ((v2.getD (Int.toNat v1) Lead.dz).Log))).length : Int))) then
      (let w1 : Lead := ((v2.set (Int.toNat v1) (Lead.mk v0 ((v2.getD (Int.toNat v1) Lead.dz).Id) ((v2.getD (Int.toNat v1) Lead.dz).Log))).getD (Int.toNat v1) Lead.dz)
      (let w2 : List Lead := ((v2.set (Int.toNat v1) (Lead.mk v0 ((v2.getD (Int.toNat v1) Lead.dz).Id) ((v2.getD (Int.toNat v1) Lead.dz).Log))).set (Int.toNat v1) (Lead.mk w1.Term (w64 (v0 + (1:Int))) w1.Log))
      bif (decide (0 ≤ v1)) then
      bif (decide (v1 < (w2.length : Int))) then
      bif (decide ((Int.toNat v1) < w2.length)) then
      ob (laws_markEntryS.m N ((w2.getD (Int.toNat v1) Lead.dz).Log) (w64 ((w64 (v0 + (1:Int))) + (1:Int)))) fun y3 =>
      rec (y3.1, (w64 (v1 + (1:Int))), (w2.set (Int.toNat v1) (Lead.mk ((w2.getD (Int.toNat v1) Lead.dz).Term) ((w2.getD (Int.toNat v1) Lead.dz).Id) y3.2)))
      else none
      else none
      else none))
      else none
      else none
      else none
      else none
    else
    some (v0, v2)
noncomputable def lp2 (N : Nat) (a0 : List Lead) (a1 : Int) : (Int × Int × (List Lead)) → Option R :=
  miter (fun rec => step2 N a0 a1 rec) N
noncomputable def m (N : Nat) (a0 : List Lead) (a1 : Int) : Option R :=
  lp2 N a0 a1 (a1, (0:Int), a0)
@[reducible] noncomputable def sp (N : Nat) : Spec E := { ps := [.mut true (.slice 78 (.st 78)), .val (.int .i64)], rs := [(.int .i64)], own := true, dp := true, R := R, fn := fun x => m N x.1 x.2.1, res := fun r => (r.1, ()), out := fun r => (r.2, (), ()), shut := fun a b => (a.1, b.1), res_shut := fun _ _ => rfl, out_shut := fun _ _ => rfl }
end laws_markLeadS
/-! ### laws_markDoneS: loop.example/g00220/laws.markDoneS -/
namespace laws_markDoneS
abbrev R := Int × (List Done)
noncomputable def step2 (N : Nat) (a0 : List Done) (a1 : Int) (rec : (Int × Int × (List Done)) → Option R) : (Int × Int × (List Done)) → Option R
  | (v0, v1, v2) =>
    bif (decide (v1 < (v2.length : Int))) then
      bif (decide (0 ≤ v1)) then
      bif (decide (v1 < (v2.length : Int))) then
      (let w1 : List Done := (v2.set (Int.toNat v1) (Done.mk v0 ((v2.getD (Int.toNat v1) Done.dz).Term) ((v2.getD (Int.toNat v1) Done.dz).Index) (Entry.mk ((v2.getD (Int.toNat v1) Done.dz).Entry.Term) ((v2.getD (Int.toNat v1) Done.dz).Entry.Kind) ((v2.getD (Int.toNat v1) Done.dz).Entry.Data))))
      bif (decide (0 ≤ v1)) then
      bif (decide (v1 < (w1.length : Int))) then
      (let w2 : List Done := (w1.set (Int.toNat v1) (Done.mk ((w1.getD (Int.toNat v1) Done.dz).Node) (w64 (v0 + (1:Int))) ((w1.getD (Int.toNat v1) Done.dz).Index) (Entry.mk ((w1.getD (Int.toNat v1) Done.dz).Entry.Term) ((w1.getD (Int.toNat v1) Done.dz).Entry.Kind) ((w1.getD (Int.toNat v1) Done.dz).Entry.Data))))
      bif (decide (0 ≤ v1)) then
      bif (decide (v1 < (w2.length : Int))) then
      (let w3 : List Done := (w2.set (Int.toNat v1) (Done.mk ((w2.getD (Int.toNat v1) Done.dz).Node) ((w2.getD (Int.toNat v1) Done.dz).Term) (w64 ((w64 (v0 + (1:Int))) + (1:Int))) (Entry.mk ((w2.getD (Int.toNat v1) Done.dz).Entry.Term) ((w2.getD (Int.toNat v1) Done.dz).Entry.Kind) ((w2.getD (Int.toNat v1) Done.dz).Entry.Data))))
      bif (decide (0 ≤ v1)) then
      bif (decide (v1 < (w3.length : Int))) then
      (let w4 : List Done := (w3.set (Int.toNat v1) (Done.mk ((w3.getD (Int.toNat v1) Done.dz).Node) ((w3.getD (Int.toNat v1) Done.dz).Term) ((w3.getD (Int.toNat v1) Done.dz).Index) (Entry.mk (w64 ((w64 ((w64 (v0 + (1:Int))) + (1:Int))) + (1:Int))) ((w3.getD (Int.toNat v1) Done.dz).Entry.Kind) ((w3.getD (Int.toNat v1) Done.dz).Entry.Data))))
      bif (decide (0 ≤ v1)) then
      bif (decide (v1 < (w4.length : Int))) then
      (let w5 : List Done := (w4.set (Int.toNat v1) (Done.mk ((w4.getD (Int.toNat v1) Done.dz).Node) ((w4.getD (Int.toNat v1) Done.dz).Term) ((w4.getD (Int.toNat v1) Done.dz).Index) (Entry.mk ((w4.getD (Int.toNat v1) Done.dz).Entry.Term) (w64 ((w64 ((w64 ((w64 (v0 + (1:Int))) + (1:Int))) + (1:Int))) + (1:Int))) ((w4.getD (Int.toNat v1) Done.dz).Entry.Data))))
      ob (laws_markText.m N (w64 ((w64 ((w64 ((w64 ((w64 (v0 + (1:Int))) + (1:Int))) + (1:Int))) + (1:Int))) + (1:Int)))) fun y6 =>
      bif (decide (0 ≤ v1)) then
      bif (decide (v1 < (w5.length : Int))) then
      (let w7 : List Done := (w5.set (Int.toNat v1) (Done.mk ((w5.getD (Int.toNat v1) Done.dz).Node) ((w5.getD (Int.toNat v1) Done.dz).Term) ((w5.getD (Int.toNat v1) Done.dz).Index) (Entry.mk ((w5.getD (Int.toNat v1) Done.dz).Entry.Term) ((w5.getD (Int.toNat v1) Done.dz).Entry.Kind) y6)))
      rec ((w64 ((w64 ((w64 ((w64 ((w64 ((w64 (v0 + (1:Int))) + (1:Int))) + (1:Int))) + (1:Int))) + (1:Int))) + (1:Int))), (w64 (v1 + (1:Int))), w7))
      else none
      else none)
      else none
      else none)
      else none
      else none)
      else none
      else none)
      else none
      else none)
      else none
      else none
    else
    some (v0, v2)
noncomputable def lp2 (N : Nat) (a0 : List Done) (a1 : Int) : (Int × Int × (List Done)) → Option R :=
  miter (fun rec => step2 N a0 a1 rec) N
noncomputable def m (N : Nat) (a0 : List Done) (a1 : Int) : Option R :=
  lp2 N a0 a1 (a1, (0:Int), a0)
@[reducible] noncomputable def sp (N : Nat) : Spec E := { ps := [.mut false (.slice 66 (.st 66)), .val (.int .i64)], rs := [(.int .i64)], own := true, dp := false, R := R, fn := fun x => m N x.1 x.2.1, res := fun r => (r.1, ()), out := fun r => (r.2, (), ()), shut := fun a b => (a.1, b.1), res_shut := fun _ _ => rfl, out_shut := fun _ _ => rfl }
end laws_markDoneS
/-! ### laws_markGroup: loop.example/g00220/laws.markGroup -/
namespace laws_markGroup
abbrev R := Int × Group
noncomputable def m (N : Nat) (a0 : Group) (a1 : Int) : Option R :=
  ob (laws_markNodeS.m N a0.Nodes a1) fun y1 =>
  ob (laws_markMessageS.m N a0.Wire y1.1) fun y2 =>
  ob (laws_markLeadS.m N a0.Leads y2.1) fun y3 =>
  ob (laws_markDoneS.m N a0.Dones y3.1) fun y4 =>
  some (y4.1, (Group.mk y1.2 y2.2 y3.2 y4.2))
@[reducible] noncomputable def sp (N : Nat) : Spec E := { ps := [.mut true (.st 36), .val (.int .i64)], rs := [(.int .i64)], own := true, dp := true, R := R, fn := fun x => m N x.1 x.2.1, res := fun r => (r.1, ()), out := fun r => (r.2, (), ()), shut := fun a b => (a.1, b.1), res_shut := fun _ _ => rfl, out_shut := fun _ _ => rfl }
end laws_markGroup
/-! ### laws_markStringS: loop.example/g00220/laws.markStringS -/
namespace laws_markStringS
abbrev R := Int × (List ByteArray)
noncomputable def step2 (N : Nat) (a0 : List ByteArray) (a1 : Int) (rec : (Int × Int × (List ByteArray)) → Option R) : (Int × Int × (List ByteArray)) → Option R
  | (v0, v1, v2) =>
    bif (decide (v1 < (v2.length : Int))) then
      ob (laws_markText.m N v0) fun y1 =>
      bif (decide (0 ≤ v1)) then
      bif (decide (v1 < (v2.length : Int))) then
      rec ((w64 (v0 + (1:Int))), (w64 (v1 + (1:Int))), (v2.set (Int.toNat v1) y1))
      else none
      else none
    else
    some (v0, v2)
noncomputable def lp2 (N : Nat) (a0 : List ByteArray) (a1 : Int) : (Int × Int × (List ByteArray)) → Option R :=
  miter (fun rec => step2 N a0 a1 rec) N
noncomputable def m (N : Nat) (a0 : List ByteArray) (a1 : Int) : Option R :=
  lp2 N a0 a1 (a1, (0:Int), a0)
@[reducible] noncomputable def sp (N : Nat) : Spec E := { ps := [.mut false (.slice 9 .str), .val (.int .i64)], rs := [(.int .i64)], own := true, dp := false, R := R, fn := fun x => m N x.1 x.2.1, res := fun r => (r.1, ()), out := fun r => (r.2, (), ()), shut := fun a b => (a.1, b.1), res_shut := fun _ _ => rfl, out_shut := fun _ _ => rfl }
end laws_markStringS
/-! ### laws_heldStringS: loop.example/g00220/laws.heldStringS -/
namespace laws_heldStringS
abbrev R := Int
noncomputable def step2 (N : Nat) (a0 : List ByteArray) (a1 : Int) (rec : (Int × Int) → Option R) : (Int × Int) → Option R
  | (v1, v2) =>
    bif (decide (v2 < (a0.length : Int))) then
      bif (decide (0 ≤ v2)) then
      bif (decide (v2 < (a0.length : Int))) then
      ob (laws_markText.m N v1) fun y1 =>
      bif (!seq (a0.getD (Int.toNat v2) ByteArray.empty) y1) then
        some (-1:Int)
      else
      rec ((w64 (v1 + (1:Int))), (w64 (v2 + (1:Int))))
      else none
      else none
    else
    some v1
noncomputable def lp2 (N : Nat) (a0 : List ByteArray) (a1 : Int) : (Int × Int) → Option R :=
  miter (fun rec => step2 N a0 a1 rec) N
noncomputable def m (N : Nat) (a0 : List ByteArray) (a1 : Int) : Option R :=
  lp2 N a0 a1 (a1, (0:Int))
@[reducible] noncomputable def sp (N : Nat) : Spec E := { ps := [.val (.slice 9 .str), .val (.int .i64)], rs := [(.int .i64)], own := true, dp := false, R := R, fn := fun x => m N x.1 x.2.1, res := fun r => (r, ()), out := fun r => ((), (), ()), shut := fun a b => a.1, res_shut := fun _ _ => rfl, out_shut := fun _ _ => rfl }
end laws_heldStringS
/-! ### laws_FnExactCommittedData: loop.example/g00220/laws.FnExactCommittedData -/
namespace laws_FnExactCommittedData
abbrev R := Bool
noncomputable def m (N : Nat) (a0 : Group) : Option R :=
  ob (laws_szGroup.m N (Group.mk a0.Nodes a0.Wire a0.Leads a0.Dones) (1048576:Int)) fun y1 =>
  bif (decide (y1 < (0:Int))) then
    some true
  else
  ob (laws_toGroup.m N (Group.mk a0.Nodes a0.Wire a0.Leads a0.Dones)) fun y2 =>
  ob (spec_CommittedData.m N y2) fun y3 =>
  ob (laws_toGroup.m N a0) fun y4 =>
  ob (impl_CommittedData.m N y4) fun y5 =>
  ob (laws_eqStringS.m N y5.1 y3.1) fun y6 =>
  bif (!y6) then
    some false
  else
  bif (bif false then true else (y5.2 != y3.2)) then
    some false
  else
  ob (laws_toGroup.m N a0) fun y7 =>
  ob (laws_eqGroup.m N y4 y7) fun y8 =>
  bif (!y8) then
    some false
  else
  ob (laws_markGroup.m N y4 (1:Int)) fun y9 =>
  bif (decide (y9.1 < (0:Int))) then
    some false
  else
  ob (laws_eqStringS.m N y5.1 y3.1) fun y10 =>
  bif (bif false then true else (!y10)) then
    some false
  else
  bif (bif false then true else (y5.2 != y3.2)) then
    some false
  else
  ob (laws_markStringS.m N y5.1 (1:Int)) fun y11 =>
  ob (laws_heldStringS.m N y11.2 (1:Int)) fun y12 =>
  bif (decide (y12 < (0:Int))) then
    some false
  else
  bif (y12 != y11.1) then
    some false
  else
  ob (laws_toGroup.m N a0) fun y13 =>
  ob (impl_CommittedData.m N y13) fun y14 =>
  ob (laws_eqStringS.m N y14.1 y3.1) fun y15 =>
  bif (!y15) then
    some false
  else
  bif (bif false then true else (y14.2 != y3.2)) then
    some false
  else
  ob (laws_heldStringS.m N y11.2 (1:Int)) fun y16 =>
  bif (decide (y16 < (0:Int))) then
    some false
  else
  bif (y16 != y11.1) then
    some false
  else
  some true
@[reducible] noncomputable def sp (N : Nat) : Spec E := { ps := [.val (.st 27)], rs := [.bool], own := true, dp := false, R := R, fn := fun x => m N x.1, res := fun r => (r, ()), out := fun r => ((), ()), shut := fun a b => a.1, res_shut := fun _ _ => rfl, out_shut := fun _ _ => rfl }
end laws_FnExactCommittedData
end Mir.Y
