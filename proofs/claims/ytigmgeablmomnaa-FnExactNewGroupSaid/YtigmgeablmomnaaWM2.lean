/- Models of functions. -/
import Derived.Test.YtigmgeablmomnaaWM1
namespace Mir.Y
set_option linter.unusedVariables false
set_option maxRecDepth 10000
open Go Go.Proofs Mir
/-! ### laws_heldEntryS: loop.example/g00220/laws.heldEntryS -/
namespace laws_heldEntryS
abbrev R := Int
noncomputable def step2 (N : Nat) (a0 : List Entry) (a1 : Int) (rec : (Int × Int) → Option R) : (Int × Int) → Option R
  | (v1, v2) =>
    bif (decide (v2 < (a0.length : Int))) then
      bif (decide (0 ≤ v2)) then
      bif (decide (v2 < (a0.length : Int))) then
      bif ((a0.getD (Int.toNat v2) Entry.dz).Term != v1) then
        some (-1:Int)
      else
      bif (decide (0 ≤ v2)) then
      bif (decide (v2 < (a0.length : Int))) then
      bif ((a0.getD (Int.toNat v2) Entry.dz).Kind != (w64 (v1 + (1:Int)))) then
        some (-1:Int)
      else
      bif (decide (0 ≤ v2)) then
      bif (decide (v2 < (a0.length : Int))) then
      ob (laws_markText.m N (w64 ((w64 (v1 + (1:Int))) + (1:Int)))) fun y1 =>
      bif (!seq ((a0.getD (Int.toNat v2) Entry.dz).Data) y1) then
        some (-1:Int)
      else
      rec ((w64 ((w64 ((w64 (v1 + (1:Int))) + (1:Int))) + (1:Int))), (w64 (v2 + (1:Int))))
      else none
      else none
      else none
      else none
      else none
      else none
    else
    some v1
noncomputable def lp2 (N : Nat) (a0 : List Entry) (a1 : Int) : (Int × Int) → Option R :=
  miter (fun rec => step2 N a0 a1 rec) N
noncomputable def m (N : Nat) (a0 : List Entry) (a1 : Int) : Option R :=
  lp2 N a0 a1 (a1, (0:Int))
@[reducible] noncomputable def sp (N : Nat) : Spec E := { ps := [.val (.slice 96 (.st 96)), .val (.int .i64)], rs := [(.int .i64)], own := true, dp := false, R := R, fn := fun x => m N x.1 x.2.1, res := fun r => (r, ()), out := fun r => ((), (), ()), shut := fun a b => a.1, res_shut := fun _ _ => rfl, out_shut := fun _ _ => rfl }
end laws_heldEntryS
/-! ### laws_heldIntS: loop.example/g00220/laws.heldIntS -/
namespace laws_heldIntS
abbrev R := Int
noncomputable def step2 (N : Nat) (a0 : List Int) (a1 : Int) (rec : (Int × Int) → Option R) : (Int × Int) → Option R
  | (v1, v2) =>
    bif (decide (v2 < (a0.length : Int))) then
      bif (decide (0 ≤ v2)) then
      bif (decide (v2 < (a0.length : Int))) then
      bif ((a0.getD (Int.toNat v2) (0:Int)) != v1) then
        some (-1:Int)
      else
      rec ((w64 (v1 + (1:Int))), (w64 (v2 + (1:Int))))
      else none
      else none
    else
    some v1
noncomputable def lp2 (N : Nat) (a0 : List Int) (a1 : Int) : (Int × Int) → Option R :=
  miter (fun rec => step2 N a0 a1 rec) N
noncomputable def m (N : Nat) (a0 : List Int) (a1 : Int) : Option R :=
  lp2 N a0 a1 (a1, (0:Int))
@[reducible] noncomputable def sp (N : Nat) : Spec E := { ps := [.val (.slice 3 (.int .i64)), .val (.int .i64)], rs := [(.int .i64)], own := true, dp := false, R := R, fn := fun x => m N x.1 x.2.1, res := fun r => (r, ()), out := fun r => ((), (), ()), shut := fun a b => a.1, res_shut := fun _ _ => rfl, out_shut := fun _ _ => rfl }
end laws_heldIntS
/-! ### laws_heldNodeS: loop.example/g00220/laws.heldNodeS -/
namespace laws_heldNodeS
abbrev R := Int
noncomputable def step2 (N : Nat) (a0 : List Node) (a1 : Int) (rec : (Int × Int) → Option R) : (Int × Int) → Option R
  | (v1, v2) =>
    bif (decide (v2 < (a0.length : Int))) then
      bif (decide (0 ≤ v2)) then
      bif (decide (v2 < (a0.length : Int))) then
      bif ((a0.getD (Int.toNat v2) Node.dz).Id != v1) then
        some (-1:Int)
      else
      bif (decide (0 ≤ v2)) then
      bif (decide (v2 < (a0.length : Int))) then
      bif ((a0.getD (Int.toNat v2) Node.dz).Term != (w64 (v1 + (1:Int)))) then
        some (-1:Int)
      else
      bif (decide (0 ≤ v2)) then
      bif (decide (v2 < (a0.length : Int))) then
      bif ((a0.getD (Int.toNat v2) Node.dz).Vote != (w64 ((w64 (v1 + (1:Int))) + (1:Int)))) then
        some (-1:Int)
      else
      bif (decide (0 ≤ v2)) then
      bif (decide (v2 < (a0.length : Int))) then
      ob (laws_heldEntryS.m N ((a0.getD (Int.toNat v2) Node.dz).Log) (w64 ((w64 ((w64 (v1 + (1:Int))) + (1:Int))) + (1:Int)))) fun y1 =>
      bif (decide (y1 < (0:Int))) then
        some (-1:Int)
      else
      bif (decide (0 ≤ v2)) then
      bif (decide (v2 < (a0.length : Int))) then
      ob (laws_heldIntS.m N ((a0.getD (Int.toNat v2) Node.dz).Start) y1) fun y2 =>
      bif (decide (y2 < (0:Int))) then
        some (-1:Int)
      else
      bif (decide (0 ≤ v2)) then
      bif (decide (v2 < (a0.length : Int))) then
      bif ((a0.getD (Int.toNat v2) Node.dz).Role != y2) then
        some (-1:Int)
      else
      bif (decide (0 ≤ v2)) then
      bif (decide (v2 < (a0.length : Int))) then
      ob (laws_heldIntS.m N ((a0.getD (Int.toNat v2) Node.dz).Votes) (w64 (y2 + (1:Int)))) fun y3 =>
      bif (decide (y3 < (0:Int))) then
        some (-1:Int)
      else
      bif (decide (0 ≤ v2)) then
      bif (decide (v2 < (a0.length : Int))) then
      ob (laws_heldIntS.m N ((a0.getD (Int.toNat v2) Node.dz).Next) y3) fun y4 =>
      bif (decide (y4 < (0:Int))) then
        some (-1:Int)
      else
      bif (decide (0 ≤ v2)) then
      bif (decide (v2 < (a0.length : Int))) then
      ob (laws_heldIntS.m N ((a0.getD (Int.toNat v2) Node.dz).Match) y4) fun y5 =>
      bif (decide (y5 < (0:Int))) then
        some (-1:Int)
      else
      bif (decide (0 ≤ v2)) then
      bif (decide (v2 < (a0.length : Int))) then
      bif ((a0.getD (Int.toNat v2) Node.dz).Commit != y5) then
        some (-1:Int)
      else
      bif (decide (0 ≤ v2)) then
      bif (decide (v2 < (a0.length : Int))) then
      bif ((a0.getD (Int.toNat v2) Node.dz).Elapsed != (w64 (y5 + (1:Int)))) then
        some (-1:Int)
      else
      bif (decide (0 ≤ v2)) then
      bif (decide (v2 < (a0.length : Int))) then
      bif ((a0.getD (Int.toNat v2) Node.dz).Wait != (w64 ((w64 (y5 + (1:Int))) + (1:Int)))) then
        some (-1:Int)
      else
      bif (decide (0 ≤ v2)) then
      bif (decide (v2 < (a0.length : Int))) then
      bif (!decide ((3:Int) = 0)) then
      bif (!((a0.getD (Int.toNat v2) Node.dz).Up == ((Int.tmod (w64 ((w64 ((w64 (y5 + (1:Int))) + (1:Int))) + (1:Int))) (3:Int)) == (0:Int)))) then
        some (-1:Int)
      else
      rec ((w64 ((w64 ((w64 ((w64 (y5 + (1:Int))) + (1:Int))) + (1:Int))) + (1:Int))), (w64 (v2 + (1:Int))))
      else none
      else none
      else none
      else none
      else none
      else none
      else none
      else none
      else none
      else none
      else none
      else none
      else none
      else none
      else none
      else none
      else none
      else none
      else none
      else none
      else none
      else none
      else none
      else none
      else none
      else none
      else none
    else
    some v1
noncomputable def lp2 (N : Nat) (a0 : List Node) (a1 : Int) : (Int × Int) → Option R :=
  miter (fun rec => step2 N a0 a1 rec) N
noncomputable def m (N : Nat) (a0 : List Node) (a1 : Int) : Option R :=
  lp2 N a0 a1 (a1, (0:Int))
@[reducible] noncomputable def sp (N : Nat) : Spec E := { ps := [.val (.slice 25 (.st 25)), .val (.int .i64)], rs := [(.int .i64)], own := true, dp := false, R := R, fn := fun x => m N x.1 x.2.1, res := fun r => (r, ()), out := fun r => ((), (), ()), shut := fun a b => a.1, res_shut := fun _ _ => rfl, out_shut := fun _ _ => rfl }
end laws_heldNodeS
/-! ### laws_heldMessageS: loop.example/g00220/laws.heldMessageS -/
namespace laws_heldMessageS
abbrev R := Int
noncomputable def step2 (N : Nat) (a0 : List Message) (a1 : Int) (rec : (Int × Int) → Option R) : (Int × Int) → Option R
  | (v1, v2) =>
    bif (decide (v2 < (a0.length : Int))) then
      bif (decide (0 ≤ v2)) then
      bif (decide (v2 < (a0.length : Int))) then
      bif ((a0.getD (Int.toNat v2) Message.dz).Kind != v1) then
        some (-1:Int)
      else
      bif (decide (0 ≤ v2)) then
      bif (decide (v2 < (a0.length : Int))) then
      bif ((a0.getD (Int.toNat v2) Message.dz).From != (w64 (v1 + (1:Int)))) then
        some (-1:Int)
      else
      bif (decide (0 ≤ v2)) then
      bif (decide (v2 < (a0.length : Int))) then
      bif ((a0.getD (Int.toNat v2) Message.dz).To != (w64 ((w64 (v1 + (1:Int))) + (1:Int)))) then
        some (-1:Int)
      else
      bif (decide (0 ≤ v2)) then
      bif (decide (v2 < (a0.length : Int))) then
      bif ((a0.getD (Int.toNat v2) Message.dz).Term != (w64 ((w64 ((w64 (v1 + (1:Int))) + (1:Int))) + (1:Int)))) then
        some (-1:Int)
      else
      bif (decide (0 ≤ v2)) then
      bif (decide (v2 < (a0.length : Int))) then
      bif ((a0.getD (Int.toNat v2) Message.dz).Index != (w64 ((w64 ((w64 ((w64 (v1 + (1:Int))) + (1:Int))) + (1:Int))) + (1:Int)))) then
        some (-1:Int)
      else
      bif (decide (0 ≤ v2)) then
      bif (decide (v2 < (a0.length : Int))) then
      (let w1 : Bool := ((a0.getD (Int.toNat v2) Message.dz).LogTerm != (w64 ((w64 ((w64 ((w64 ((w64 (v1 + (1:Int))) + (1:Int))) + (1:Int))) + (1:Int))) + (1:Int))))
      bif w1 then
        some (-1:Int)
      else
      bif (decide (0 ≤ v2)) then
      bif (decide (v2 < (a0.length : Int))) then
      (let w2 : Bool := ((a0.getD (Int.toNat v2) Message.dz).Commit != (w64 ((w64 ((w64 ((w64 ((w64 ((w64 (v1 + (1:Int))) + (1:Int))) + (1:Int))) + (1:Int))) + (1:Int))) + (1:Int))))
      bif w2 then
        some (-1:Int)
      else
      bif (decide (0 ≤ v2)) then
      bif (decide (v2 < (a0.length : Int))) then
      ob (laws_heldEntryS.m N ((a0.getD (Int.toNat v2) Message.dz).Entries) (w64 ((w64 ((w64 ((w64 ((w64 ((w64 ((w64 (v1 + (1:Int))) + (1:Int))) + (1:Int))) + (1:Int))) + (1:Int))) + (1:Int))) + (1:Int)))) fun y3 =>
      bif (decide (y3 < (0:Int))) then
        some (-1:Int)
      else
      bif (decide (0 ≤ v2)) then
      bif (decide (v2 < (a0.length : Int))) then
      bif (!decide ((3:Int) = 0)) then
      bif (!((a0.getD (Int.toNat v2) Message.dz).Ok == ((Int.tmod y3 (3:Int)) == (0:Int)))) then
        some (-1:Int)
      else
      rec ((w64 (y3 + (1:Int))), (w64 (v2 + (1:Int))))
      else none
      else none
      else none
      else none
      else none)
      else none
      else none)
      else none
      else none
      else none
      else none
      else none
      else none
      else none
      else none
      else none
      else none
      else none
      else none
    else
    some v1
noncomputable def lp2 (N : Nat) (a0 : List Message) (a1 : Int) : (Int × Int) → Option R :=
  miter (fun rec => step2 N a0 a1 rec) N
noncomputable def m (N : Nat) (a0 : List Message) (a1 : Int) : Option R :=
  lp2 N a0 a1 (a1, (0:Int))
@[reducible] noncomputable def sp (N : Nat) : Spec E := { ps := [.val (.slice 102 (.st 102)), .val (.int .i64)], rs := [(.int .i64)], own := true, dp := false, R := R, fn := fun x => m N x.1 x.2.1, res := fun r => (r, ()), out := fun r => ((), (), ()), shut := fun a b => a.1, res_shut := fun _ _ => rfl, out_shut := fun _ _ => rfl }
end laws_heldMessageS
/-! ### laws_heldLeadS: loop.example/g00220/laws.heldLeadS -/
namespace laws_heldLeadS
abbrev R := Int
noncomputable def step2 (N : Nat) (a0 : List Lead) (a1 : Int) (rec : (Int × Int) → Option R) : (Int × Int) → Option R
  | (v1, v2) =>
    bif (decide (v2 < (a0.length : Int))) then
      bif (decide (0 ≤ v2)) then
      bif (decide (v2 < (a0.length : Int))) then
      bif ((a0.getD (Int.toNat v2) Lead.dz).Term != v1) then
        some (-1:Int)
      else
      bif (decide (0 ≤ v2)) then
      bif (decide (v2 < (a0.length : Int))) then
      bif ((a0.getD (Int.toNat v2) Lead.dz).Id != (w64 (v1 + (1:Int)))) then
        some (-1:Int)
      else
      bif (decide (0 ≤ v2)) then
      bif (decide (v2 < (a0.length : Int))) then
      ob (laws_heldEntryS.m N ((a0.getD (Int.toNat v2) Lead.dz).Log) (w64 ((w64 (v1 + (1:Int))) + (1:Int)))) fun y1 =>
      bif (decide (y1 < (0:Int))) then
        some (-1:Int)
      else
      rec (y1, (w64 (v2 + (1:Int))))
      else none
      else none
      else none
      else none
      else none
      else none
    else
    some v1
noncomputable def lp2 (N : Nat) (a0 : List Lead) (a1 : Int) : (Int × Int) → Option R :=
  miter (fun rec => step2 N a0 a1 rec) N
noncomputable def m (N : Nat) (a0 : List Lead) (a1 : Int) : Option R :=
  lp2 N a0 a1 (a1, (0:Int))
@[reducible] noncomputable def sp (N : Nat) : Spec E := { ps := [.val (.slice 128 (.st 128)), .val (.int .i64)], rs := [(.int .i64)], own := true, dp := false, R := R, fn := fun x => m N x.1 x.2.1, res := fun r => (r, ()), out := fun r => ((), (), ()), shut := fun a b => a.1, res_shut := fun _ _ => rfl, out_shut := fun _ _ => rfl }
end laws_heldLeadS
/-! ### laws_heldDoneS: loop.example/g00220/laws.heldDoneS -/
namespace laws_heldDoneS
abbrev R := Int
noncomputable def step2 (N : Nat) (a0 : List Done) (a1 : Int) (rec : (Int × Int) → Option R) : (Int × Int) → Option R
  | (v1, v2) =>
    bif (decide (v2 < (a0.length : Int))) then
      bif (decide (0 ≤ v2)) then
      bif (decide (v2 < (a0.length : Int))) then
      bif ((a0.getD (Int.toNat v2) Done.dz).Node != v1) then
        some (-1:Int)
      else
      bif (decide (0 ≤ v2)) then
      bif (decide (v2 < (a0.length : Int))) then
      bif ((a0.getD (Int.toNat v2) Done.dz).Term != (w64 (v1 + (1:Int)))) then
        some (-1:Int)
      else
      bif (decide (0 ≤ v2)) then
      bif (decide (v2 < (a0.length : Int))) then
      bif ((a0.getD (Int.toNat v2) Done.dz).Index != (w64 ((w64 (v1 + (1:Int))) + (1:Int)))) then
        some (-1:Int)
      else
      bif (decide (0 ≤ v2)) then
      bif (decide (v2 < (a0.length : Int))) then
      bif ((a0.getD (Int.toNat v2) Done.dz).Entry.Term != (w64 ((w64 ((w64 (v1 + (1:Int))) + (1:Int))) + (1:Int)))) then
        some (-1:Int)
      else
      bif (decide (0 ≤ v2)) then
      bif (decide (v2 < (a0.length : Int))) then
      bif ((a0.getD (Int.toNat v2) Done.dz).Entry.Kind != (w64 ((w64 ((w64 ((w64 (v1 + (1:Int))) + (1:Int))) + (1:Int))) + (1:Int)))) then
        some (-1:Int)
      else
      bif (decide (0 ≤ v2)) then
      bif (decide (v2 < (a0.length : Int))) then
      ob (laws_markText.m N (w64 ((w64 ((w64 ((w64 ((w64 (v1 + (1:Int))) + (1:Int))) + (1:Int))) + (1:Int))) + (1:Int)))) fun y1 =>
      bif (!seq ((a0.getD (Int.toNat v2) Done.dz).Entry.Data) y1) then
        some (-1:Int)
      else
      rec ((w64 ((w64 ((w64 ((w64 ((w64 ((w64 (v1 + (1:Int))) + (1:Int))) + (1:Int))) + (1:Int))) + (1:Int))) + (1:Int))), (w64 (v2 + (1:Int))))
      else none
      else none
      else none
      else none
      else none
      else none
      else none
      else none
      else none
      else none
      else none
      else none
    else
    some v1
noncomputable def lp2 (N : Nat) (a0 : List Done) (a1 : Int) : (Int × Int) → Option R :=
  miter (fun rec => step2 N a0 a1 rec) N
noncomputable def m (N : Nat) (a0 : List Done) (a1 : Int) : Option R :=
  lp2 N a0 a1 (a1, (0:Int))
@[reducible] noncomputable def sp (N : Nat) : Spec E := { ps := [.val (.slice 131 (.st 131)), .val (.int .i64)], rs := [(.int .i64)], own := true, dp := false, R := R, fn := fun x => m N x.1 x.2.1, res := fun r => (r, ()), out := fun r => ((), (), ()), shut := fun a b => a.1, res_shut := fun _ _ => rfl, out_shut := fun _ _ => rfl }
end laws_heldDoneS
/-! ### laws_heldGroup: loop.example/g00220/laws.heldGroup -/
namespace laws_heldGroup
abbrev R := Int
noncomputable def m (N : Nat) (a0 : Group) (a1 : Int) : Option R :=
  ob (laws_heldNodeS.m N a0.Nodes a1) fun y1 =>
  bif (decide (y1 < (0:Int))) then
    some (-1:Int)
  else
  ob (laws_heldMessageS.m N a0.Wire y1) fun y2 =>
  bif (decide (y2 < (0:Int))) then
    some (-1:Int)
  else
  ob (laws_heldLeadS.m N a0.Leads y2) fun y3 =>
  bif (decide (y3 < (0:Int))) then
    some (-1:Int)
  else
  ob (laws_heldDoneS.m N a0.Dones y3) fun y4 =>
  bif (decide (y4 < (0:Int))) then
    some (-1:Int)
  else
  some y4
@[reducible] noncomputable def sp (N : Nat) : Spec E := { ps := [.val (.st 59), .val (.int .i64)], rs := [(.int .i64)], own := true, dp := false, R := R, fn := fun x => m N x.1 x.2.1, res := fun r => (r, ()), out := fun r => ((), (), ()), shut := fun a b => a.1, res_shut := fun _ _ => rfl, out_shut := fun _ _ => rfl }
end laws_heldGroup
/-! ### laws_FnExactNewGroup: loop.example/g00220/laws.FnExactNewGroup -/
namespace laws_FnExactNewGroup
abbrev R := Bool
noncomputable def m (N : Nat) (a0 : Int) : Option R :=
  ob (spec_NewGroup.m N a0) fun y1 =>
  ob (impl_NewGroup.m N a0) fun y2 =>
  ob (laws_eqGroup.m N y2.1 y1.1) fun y3 =>
  bif (!y3) then
    some false
  else
  bif (bif false then true else (y2.2 != y1.2)) then
    some false
  else
  ob (laws_markGroup.m N y2.1 (1:Int)) fun y4 =>
  ob (laws_heldGroup.m N (Group.mk y4.2.Nodes y4.2.Wire y4.2.Leads y4.2.Dones) (1:Int)) fun y5 =>
  bif (decide (y5 < (0:Int))) then
    some false
  else
  bif (y5 != y4.1) then
    some false
  else
  ob (impl_NewGroup.m N a0) fun y6 =>
  ob (laws_eqGroup.m N y6.1 y1.1) fun y7 =>
  bif (!y7) then
    some false
  else
  bif (bif false then true else (y6.2 != y1.2)) then
    some false
  else
  ob (laws_heldGroup.m N (Group.mk y4.2.Nodes y4.2.Wire y4.2.Leads y4.2.Dones) (1:Int)) fun y8 =>
  bif (decide (y8 < (0:Int))) then
    some false
  else
  bif (y8 != y4.1) then
    some false
  else
  some true
@[reducible] noncomputable def sp (N : Nat) : Spec E := { ps := [.val (.int .i64)], rs := [.bool], own := true, dp := false, R := R, fn := fun x => m N x.1, res := fun r => (r, ()), out := fun r => ((), ()), shut := fun a b => a.1, res_shut := fun _ _ => rfl, out_shut := fun _ _ => rfl }
end laws_FnExactNewGroup
end Mir.Y
