/- Models of functions. -/
import Derived.Test.YtigmgeablmomnaaNM2
namespace Mir.Y
set_option linter.unusedVariables false
set_option maxRecDepth 10000
open Go Go.Proofs Mir
/-! ### spec_LogsMatch: loop.example/g00220/spec.LogsMatch -/
namespace spec_LogsMatch
abbrev R := Bool × Int
noncomputable def step4 (N : Nat) (a0 : Group) (lp7 : Int × Int × (List Node) × (List Message) × (List Lead) × (List Done) → Option R) (rec : (Int × (List Node) × (List Message) × (List Lead) × (List Done)) → Option R) : (Int × (List Node) × (List Message) × (List Lead) × (List Done)) → Option R
  | (v0, v1, v2, v3, v4) =>
    bif (decide (v0 < (v1.length : Int))) then
      lp7 (v0, (0:Int), v1, v2, v3, v4)
    else
    some (true, (0:Int))
noncomputable def step7 (N : Nat) (a0 : Group) (lp4 : Int × (List Node) × (List Message) × (List Lead) × (List Done) → Option R) (rec : (Int × Int × (List Node) × (List Message) × (List Lead) × (List Done)) → Option R) : (Int × Int × (List Node) × (List Message) × (List Lead) × (List Done)) → Option R
  | (v0, v1, v2, v3, v4, v5) =>
    bif (decide (v1 < v0)) then
      bif (decide (0 ≤ v0)) then
      bif (decide (v0 < (v2.length : Int))) then
      bif (decide (0 ≤ v1)) then
      bif (decide (v1 < (v2.length : Int))) then
      ob (spec_l12Match.m N ((v2.getD (Int.toNat v0) Node.dz).Log) ((v2.getD (Int.toNat v1) Node.dz).Log)) fun y2 =>
      bif (!y2) then
        some (false, (0:Int))
      else
      rec (v0, (w64 (v1 + (1:Int))), v2, v3, v4, v5)
      else none
      else none
      else none
      else none
    else
    lp4 ((w64 (v0 + (1:Int))), v2, v3, v4, v5)
noncomputable def lp7 (N : Nat) (a0 : Group) (r4 : Int × (List Node) × (List Message) × (List Lead) × (List Done) → Option R) : (Int × Int × (List Node) × (List Message) × (List Lead) × (List Done)) → Option R :=
  miter (fun rec => step7 N a0 r4 rec) N
noncomputable def lp4 (N : Nat) (a0 : Group) : (Int × (List Node) × (List Message) × (List Lead) × (List Done)) → Option R :=
  miter (fun rec => step4 N a0 (lp7 N a0 rec) rec) N
noncomputable def m (N : Nat) (a0 : Group) : Option R :=
  ob (spec_GroupOK.m N a0) fun y1 =>
  bif (!y1) then
    some (false, (1:Int))
  else
  lp4 N a0 ((0:Int), a0.Nodes, a0.Wire, a0.Leads, a0.Dones)
@[reducible] noncomputable def sp (N : Nat) : Spec E := { ps := [.val (.st 59)], rs := [.bool, (.int .i64)], own := true, dp := false, R := R, fn := fun x => m N x.1, res := fun r => (r.1, r.2, ()), out := fun r => ((), ()), shut := fun a b => (a.1, a.2.1), res_shut := fun _ _ => rfl, out_shut := fun _ _ => rfl }
end spec_LogsMatch
/-! ### impl_sameFirst: loop.example/g00220/impl.sameFirst -/
namespace impl_sameFirst
abbrev R := Int
noncomputable def step2 (N : Nat) (a0 : List Entry) (a1 : List Entry) (rec : Int → Option R) : Int → Option R
  | v2 =>
    bif (decide (v2 < (if (a1.length : Int) < (a0.length : Int) then (a1.length : Int) else (a0.length : Int)))) then
      bif (decide (0 ≤ v2)) then
      bif (decide (v2 < (a0.length : Int))) then
      bif (decide (0 ≤ v2)) then
      bif (decide (v2 < (a1.length : Int))) then
      (let w1 : Bool := (((a0.getD (Int.toNat v2) Entry.dz).Term == (a1.getD (Int.toNat v2) Entry.dz).Term) && (((a0.getD (Int.toNat v2) Entry.dz).Kind == (a1.getD (Int.toNat v2) Entry.dz).Kind) && (seq ((a0.getD (Int.toNat v2) Entry.dz).Data) ((a1.getD (Int.toNat v2) Entry.dz).Data))))
      bif (bif true then w1 else false) then
        rec (w64 (v2 + (1:Int)))
      else
      some v2)
      else none
      else none
      else none
      else none
    else
    some v2
noncomputable def lp2 (N : Nat) (a0 : List Entry) (a1 : List Entry) : Int → Option R :=
  miter (fun rec => step2 N a0 a1 rec) N
noncomputable def m (N : Nat) (a0 : List Entry) (a1 : List Entry) : Option R :=
  lp2 N a0 a1 (0:Int)
@[reducible] noncomputable def sp (N : Nat) : Spec E := { ps := [.val (.slice 96 (.st 96)), .val (.slice 96 (.st 96))], rs := [(.int .i64)], own := true, dp := false, R := R, fn := fun x => m N x.1 x.2.1, res := fun r => (r, ()), out := fun r => ((), (), ()), shut := fun a b => a.1, res_shut := fun _ _ => rfl, out_shut := fun _ _ => rfl }
end impl_sameFirst
/-! ### impl_logsMatch: loop.example/g00220/impl.logsMatch -/
namespace impl_logsMatch
abbrev R := Bool
noncomputable def step2 (N : Nat) (a0 : Node) (a1 : Node) (rec : Int → Option R) : Int → Option R
  | v0 =>
    bif (decide (v0 > (0:Int))) then
      bif (decide (0 ≤ (w64 (v0 - (1:Int))))) then
      bif (decide ((w64 (v0 - (1:Int))) < (a0.Log.length : Int))) then
      bif (decide (0 ≤ (w64 (v0 - (1:Int))))) then
      bif (decide ((w64 (v0 - (1:Int))) < (a1.Log.length : Int))) then
      (let w1 : Bool := (bif true then ((a0.Log.getD (Int.toNat (w64 (v0 - (1:Int)))) Entry.dz).Term != (a1.Log.getD (Int.toNat (w64 (v0 - (1:Int)))) Entry.dz).Term) else false)
      bif w1 then
        rec (w64 (v0 - (1:Int)))
      else
      bif (decide (0 ≤ v0)) then
      bif (decide (v0 ≤ ((a0.Log.length : Nat) : Int))) then
      bif (decide (0 ≤ v0)) then
      bif (decide (v0 ≤ ((a1.Log.length : Nat) : Int))) then
      ob (impl_sameFirst.m N (a0.Log.take (Int.toNat v0)) (a1.Log.take (Int.toNat v0))) fun y2 =>
      some (y2 == v0)
      else none
      else none
      else none
      else none)
      else none
      else none
      else none
      else none
    else
    bif (decide (0 ≤ v0)) then
    bif (decide (v0 ≤ ((a0.Log.length : Nat) : Int))) then
    bif (decide (0 ≤ v0)) then
    bif (decide (v0 ≤ ((a1.Log.length : Nat) : Int))) then
    ob (impl_sameFirst.m N (a0.Log.take (Int.toNat v0)) (a1.Log.take (Int.toNat v0))) fun y3 =>
    some (y3 == v0)
    else none
    else none
    else none
    else none
noncomputable def lp2 (N : Nat) (a0 : Node) (a1 : Node) : Int → Option R :=
  miter (fun rec => step2 N a0 a1 rec) N
noncomputable def m (N : Nat) (a0 : Node) (a1 : Node) : Option R :=
  lp2 N a0 a1 (if (a1.Log.length : Int) < (a0.Log.length : Int) then (a1.Log.length : Int) else (a0.Log.length : Int))
@[reducible] noncomputable def sp (N : Nat) : Spec E := { ps := [.val (.st 25), .val (.st 25)], rs := [.bool], own := true, dp := false, R := R, fn := fun x => m N x.1 x.2.1, res := fun r => (r, ()), out := fun r => ((), (), ()), shut := fun a b => a.1, res_shut := fun _ _ => rfl, out_shut := fun _ _ => rfl }
end impl_logsMatch
/-! ### impl_pairsHold_impl_Node__impl_logsMatch: loop.example/g00220/impl.pairsHold[loop.example/g00220/impl.Node] -/
namespace impl_pairsHold_impl_Node__impl_logsMatch
abbrev R := Bool
noncomputable def step2 (N : Nat) (a0 : List Node) (lp5 : Int × Int × (List Node) × Int × Int × Int × Int × Int × (List Entry) × (List Int) × Int × (List Int) × (List Int) × (List Int) × Int × Int × Int × Bool → Option R) (rec : (Int × Int) → Option R) : (Int × Int) → Option R
  | (v2, v3) =>
    bif (decide (v3 < v2)) then
      bif (decide (0 ≤ v3)) then
      bif (decide (v3 < (a0.length : Int))) then
      bif (decide (0 ≤ v3)) then
      bif (decide (v3 ≤ ((a0.length : Nat) : Int))) then
      lp5 (v2, v3, (a0.take (Int.toNat v3)), ((a0.take (Int.toNat v3)).length : Int), (0:Int), (a0.getD (Int.toNat v3) Node.dz).Id, (a0.getD (Int.toNat v3) Node.dz).Term, (a0.getD (Int.toNat v3) Node.dz).Vote, (a0.getD (Int.toNat v3) Node.dz).Log, (a0.getD (Int.toNat v3) Node.dz).Start, (a0.getD (Int.toNat v3) Node.dz).Role, (a0.getD (Int.toNat v3) Node.dz).Votes, (a0.getD (Int.toNat v3) Node.dz).Next, (a0.getD (Int.toNat v3) Node.dz).Match, (a0.getD (Int.toNat v3) Node.dz).Commit, (a0.getD (Int.toNat v3) Node.dz).Elapsed, (a0.getD (Int.toNat v3) Node.dz).Wait, (a0.getD (Int.toNat v3) Node.dz).Up)
      else none
      else none
      else none
      else none
    else
    some true
noncomputable def step5 (N : Nat) (a0 : List Node) (lp2 : Int × Int → Option R) (rec : (Int × Int × (List Node) × Int × Int × Int × Int × Int × (List Entry) × (List Int) × Int × (List Int) × (List Int) × (List Int) × Int × Int × Int × Bool) → Option R) : (Int × Int × (List Node) × Int × Int × Int × Int × Int × (List Entry) × (List Int) × Int × (List Int) × (List Int) × (List Int) × Int × Int × Int × Bool) → Option R
  | (v2, v3, v4, v5, v6, v7, v8, v9, v10, v11, v12, v13, v14, v15, v16, v17, v18, v19) =>
    bif (decide (v6 < v5)) then
      bif (decide (0 ≤ v6)) then
      bif (decide (v6 < (v4.length : Int))) then
      ob (impl_logsMatch.m N (Node.mk v7 v8 v9 v10 v11 v12 v13 v14 v15 v16 v17 v18 v19) (v4.getD (Int.toNat v6) Node.dz)) fun y1 =>
      bif (!y1) then
        some false
      else
      rec (v2, v3, v4, v5, (w64 (v6 + (1:Int))), v7, v8, v9, v10, v11, v12, v13, v14, v15, v16, v17, v18, v19)
      else none
      else none
    else
    lp2 (v2, (w64 (v3 + (1:Int))))
noncomputable def lp5 (N : Nat) (a0 : List Node) (r2 : Int × Int → Option R) : (Int × Int × (List Node) × Int × Int × Int × Int × Int × (List Entry) × (List Int) × Int × (List Int) × (List Int) × (List Int) × Int × Int × Int × Bool) → Option R :=
  miter (fun rec => step5 N a0 r2 rec) N
noncomputable def lp2 (N : Nat) (a0 : List Node) : (Int × Int) → Option R :=
  miter (fun rec => step2 N a0 (lp5 N a0 rec) rec) N
noncomputable def m (N : Nat) (a0 : List Node) : Option R :=
  lp2 N a0 ((a0.length : Int), (0:Int))
@[reducible] noncomputable def sp (N : Nat) : Spec E := { ps := [.val (.slice 25 (.st 25)), .clo 113 []], rs := [.bool], own := true, dp := false, R := R, fn := fun x => m N x.1, res := fun r => (r, ()), out := fun r => ((), (), ()), shut := fun a b => a.1, res_shut := fun _ _ => rfl, out_shut := fun _ _ => rfl }
end impl_pairsHold_impl_Node__impl_logsMatch
/-! ### impl_LogsMatch: loop.example/g00220/impl.LogsMatch -/
namespace impl_LogsMatch
abbrev R := Bool × Int
noncomputable def m (N : Nat) (a0 : Group) : Option R :=
  ob (impl_GroupOK.m N a0) fun y1 =>
  bif (!y1) then
    some (false, (1:Int))
  else
  ob (impl_pairsHold_impl_Node__impl_logsMatch.m N a0.Nodes) fun y2 =>
  some (y2, (0:Int))
@[reducible] noncomputable def sp (N : Nat) : Spec E := { ps := [.val (.st 59)], rs := [.bool, (.int .i64)], own := true, dp := false, R := R, fn := fun x => m N x.1, res := fun r => (r.1, r.2, ()), out := fun r => ((), ()), shut := fun a b => (a.1, a.2.1), res_shut := fun _ _ => rfl, out_shut := fun _ _ => rfl }
end impl_LogsMatch
/-! ### laws_FnExactLogsMatch: loop.example/g00220/laws.FnExactLogsMatch -/
namespace laws_FnExactLogsMatch
abbrev R := Bool
noncomputable def m (N : Nat) (a0 : Group) : Option R :=
  ob (laws_szGroup.m N a0 (1048576:Int)) fun y1 =>
  bif (decide (y1 < (0:Int))) then
    some true
  else
  ob (laws_toGroup.m N a0) fun y2 =>
  ob (spec_LogsMatch.m N y2) fun y3 =>
  ob (laws_toGroup.m N a0) fun y4 =>
  ob (impl_LogsMatch.m N y4) fun y5 =>
  bif (!(y5.1 == y3.1)) then
    some false
  else
  bif (bif false then true else (y5.2 != y3.2)) then
    some false
  else
  ob (laws_toGroup.m N (Group.mk a0.Nodes a0.Wire a0.Leads a0.Dones)) fun y6 =>
  ob (laws_eqGroup.m N y4 y6) fun y7 =>
  bif (!y7) then
    some false
  else
  some true
@[reducible] noncomputable def sp (N : Nat) : Spec E := { ps := [.val (.st 70)], rs := [.bool], own := true, dp := false, R := R, fn := fun x => m N x.1, res := fun r => (r, ()), out := fun r => ((), ()), shut := fun a b => a.1, res_shut := fun _ _ => rfl, out_shut := fun _ _ => rfl }
end laws_FnExactLogsMatch
end Mir.Y
