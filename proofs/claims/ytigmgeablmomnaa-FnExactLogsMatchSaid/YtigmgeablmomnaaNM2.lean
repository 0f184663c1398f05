/- Models of functions. -/
import Derived.Test.YtigmgeablmomnaaNM1
namespace Mir.Y
set_option linter.unusedVariables false
set_option maxRecDepth 10000
open Go Go.Proofs Mir
/-! ### impl_reachOK: loop.example/g00220/impl.reachOK -/
namespace impl_reachOK
abbrev R := Bool
noncomputable def step4 (N : Nat) (a0 : List Int) (a1 : List Int) (a2 : Int) (rec : (Int × Int) → Option R) : (Int × Int) → Option R
  | (v3, v4) =>
    bif (decide (v4 < v3)) then
      bif (decide (0 ≤ v4)) then
      bif (decide (v4 < (a0.length : Int))) then
      ob (impl_within.m N (a0.getD (Int.toNat v4) (0:Int)) (1:Int) (w64 (a2 + (1:Int)))) fun y1 =>
      bif (!y1) then
        some false
      else
      bif (decide (0 ≤ v4)) then
      bif (decide (v4 < (a1.length : Int))) then
      bif (decide (0 ≤ v4)) then
      bif (decide (v4 < (a0.length : Int))) then
      ob (impl_within.m N (a1.getD (Int.toNat v4) (0:Int)) (0:Int) (w64 ((a0.getD (Int.toNat v4) (0:Int)) - (1:Int)))) fun y2 =>
      bif (bif false then true else (!y2)) then
        some false
      else
      rec (v3, (w64 (v4 + (1:Int))))
      else none
      else none
      else none
      else none
      else none
      else none
    else
    some true
noncomputable def lp4 (N : Nat) (a0 : List Int) (a1 : List Int) (a2 : Int) : (Int × Int) → Option R :=
  miter (fun rec => step4 N a0 a1 a2 rec) N
noncomputable def m (N : Nat) (a0 : List Int) (a1 : List Int) (a2 : Int) : Option R :=
  bif ((a0.length : Int) != (7:Int)) then
    some false
  else
  bif (bif false then true else ((a1.length : Int) != (7:Int))) then
    some false
  else
  lp4 N a0 a1 a2 ((a0.length : Int), (0:Int))
@[reducible] noncomputable def sp (N : Nat) : Spec E := { ps := [.val (.slice 3 (.int .i64)), .val (.slice 3 (.int .i64)), .val (.int .i64)], rs := [.bool], own := true, dp := false, R := R, fn := fun x => m N x.1 x.2.1 x.2.2.1, res := fun r => (r, ()), out := fun r => ((), (), (), ()), shut := fun a b => a.1, res_shut := fun _ _ => rfl, out_shut := fun _ _ => rfl }
end impl_reachOK
/-! ### impl_NodeOK: loop.example/g00220/impl.NodeOK -/
namespace impl_NodeOK
abbrev R := Bool
noncomputable def m (N : Nat) (a0 : Node) : Option R :=
  ob (impl_isNumber.m N a0.Id) fun y1 =>
  bif (!y1) then
    some false
  else
  ob (impl_StateOK.m N (State.mk a0.Term a0.Vote a0.Log)) fun y2 =>
  bif (bif false then true else (!y2)) then
    some false
  else
  ob (impl_membersOK.m N a0.Start) fun y3 =>
  bif (bif false then true else (!y3)) then
    some false
  else
  ob (impl_areNumbers.m N a0.Votes) fun y4 =>
  bif (bif false then true else (!y4)) then
    some false
  else
  ob (impl_areRising.m N a0.Votes) fun y5 =>
  bif (bif false then true else (!y5)) then
    some false
  else
  ob (impl_within.m N a0.Role (0:Int) (2:Int)) fun y6 =>
  bif (!y6) then
    some false
  else
  bif (!a0.Up) then
    bif (bif false then true else (bif true then (a0.Role != (0:Int)) else false)) then
      some false
    else
    ob (impl_reachOK.m N a0.Next a0.Match (a0.Log.length : Int)) fun y7 =>
    bif (bif false then true else (!y7)) then
      some false
    else
    ob (impl_within.m N a0.Commit (0:Int) (a0.Log.length : Int)) fun y8 =>
    bif y8 then
      ob (impl_within.m N a0.Elapsed (0:Int) (1000:Int)) fun y9 =>
      bif (bif true then y9 else false) then
        ob (impl_within.m N a0.Wait (5:Int) (100:Int)) fun y10 =>
        some (bif true then y10 else false)
      else
      some false
    else
    some false
  else
  bif (bif false then true else false) then
    some false
  else
  ob (impl_reachOK.m N a0.Next a0.Match (a0.Log.length : Int)) fun y11 =>
  bif (bif false then true else (!y11)) then
    some false
  else
  ob (impl_within.m N a0.Commit (0:Int) (a0.Log.length : Int)) fun y12 =>
  bif y12 then
    ob (impl_within.m N a0.Elapsed (0:Int) (1000:Int)) fun y13 =>
    bif (bif true then y13 else false) then
      ob (impl_within.m N a0.Wait (5:Int) (100:Int)) fun y14 =>
      some (bif true then y14 else false)
    else
    some false
  else
  some false
@[reducible] noncomputable def sp (N : Nat) : Spec E := { ps := [.val (.st 25)], rs := [.bool], own := true, dp := false, R := R, fn := fun x => m N x.1, res := fun r => (r, ()), out := fun r => ((), ()), shut := fun a b => a.1, res_shut := fun _ _ => rfl, out_shut := fun _ _ => rfl }
end impl_NodeOK
/-! ### laws_FnExactNodeOK: loop.example/g00220/laws.FnExactNodeOK -/
namespace laws_FnExactNodeOK
abbrev R := Bool
noncomputable def m (N : Nat) (a0 : Node) : Option R :=
  ob (laws_szNode.m N (Node.mk a0.Id a0.Term a0.Vote a0.Log a0.Start a0.Role a0.Votes a0.Next a0.Match a0.Commit a0.Elapsed a0.Wait a0.Up) (1048576:Int)) fun y1 =>
  bif (decide (y1 < (0:Int))) then
    some true
  else
  ob (laws_toNode.m N (Node.mk a0.Id a0.Term a0.Vote a0.Log a0.Start a0.Role a0.Votes a0.Next a0.Match a0.Commit a0.Elapsed a0.Wait a0.Up)) fun y2 =>
  ob (spec_NodeOK.m N y2) fun y3 =>
  ob (laws_toNode.m N a0) fun y4 =>
  ob (impl_NodeOK.m N y4) fun y5 =>
  bif (!(y5 == y3)) then
    some false
  else
  ob (laws_toNode.m N (Node.mk a0.Id a0.Term a0.Vote a0.Log a0.Start a0.Role a0.Votes a0.Next a0.Match a0.Commit a0.Elapsed a0.Wait a0.Up)) fun y6 =>
  ob (laws_eqNode.m N y4 y6) fun y7 =>
  bif (!y7) then
    some false
  else
  some true
@[reducible] noncomputable def sp (N : Nat) : Spec E := { ps := [.val (.st 36)], rs := [.bool], own := true, dp := false, R := R, fn := fun x => m N x.1, res := fun r => (r, ()), out := fun r => ((), ()), shut := fun a b => a.1, res_shut := fun _ _ => rfl, out_shut := fun _ _ => rfl }
end laws_FnExactNodeOK
/-! ### spec_l10Term: loop.example/g00220/spec.l10Term -/
namespace spec_l10Term
abbrev R := Int
noncomputable def m (N : Nat) (a0 : Node) (a1 : Int) : Option R :=
  bif (a1 == (0:Int)) then
    some (0:Int)
  else
  bif (decide (0 ≤ (w64 (a1 - (1:Int))))) then
  bif (decide ((w64 (a1 - (1:Int))) < (a0.Log.length : Int))) then
  some ((a0.Log.getD (Int.toNat (w64 (a1 - (1:Int)))) Entry.dz).Term)
  else none
  else none
@[reducible] noncomputable def sp (N : Nat) : Spec E := { ps := [.val (.st 25), .val (.int .i64)], rs := [(.int .i64)], own := true, dp := false, R := R, fn := fun x => m N x.1 x.2.1, res := fun r => (r, ()), out := fun r => ((), (), ()), shut := fun a b => a.1, res_shut := fun _ _ => rfl, out_shut := fun _ _ => rfl }
end spec_l10Term
/-! ### spec_l10UpToDate: loop.example/g00220/spec.l10UpToDate -/
namespace spec_l10UpToDate
abbrev R := Bool
noncomputable def m (N : Nat) (a0 : Node) (a1 : Int) (a2 : Int) : Option R :=
  ob (spec_l10Term.m N a0 (a0.Log.length : Int)) fun y1 =>
  bif (decide (a2 > y1)) then
    some true
  else
  bif (a2 == y1) then
    some (bif false then true else (bif true then (decide (a1 ≥ (a0.Log.length : Int))) else false))
  else
  some (bif false then true else false)
@[reducible] noncomputable def sp (N : Nat) : Spec E := { ps := [.val (.st 25), .val (.int .i64), .val (.int .i64)], rs := [.bool], own := true, dp := false, R := R, fn := fun x => m N x.1 x.2.1 x.2.2.1, res := fun r => (r, ()), out := fun r => ((), (), (), ()), shut := fun a b => a.1, res_shut := fun _ _ => rfl, out_shut := fun _ _ => rfl }
end spec_l10UpToDate
/-! ### spec_UpToDate: loop.example/g00220/spec.UpToDate -/
namespace spec_UpToDate
abbrev R := Bool × Int
noncomputable def m (N : Nat) (a0 : Node) (a1 : Int) (a2 : Int) : Option R :=
  ob (spec_NodeOK.m N a0) fun y1 =>
  bif (!y1) then
    some (false, (1:Int))
  else
  ob (spec_l10UpToDate.m N a0 a1 a2) fun y2 =>
  some (y2, (0:Int))
@[reducible] noncomputable def sp (N : Nat) : Spec E := { ps := [.val (.st 25), .val (.int .i64), .val (.int .i64)], rs := [.bool, (.int .i64)], own := true, dp := false, R := R, fn := fun x => m N x.1 x.2.1 x.2.2.1, res := fun r => (r.1, r.2, ()), out := fun r => ((), (), (), ()), shut := fun a b => (a.1, a.2.1), res_shut := fun _ _ => rfl, out_shut := fun _ _ => rfl }
end spec_UpToDate
/-! ### impl_Node_termAt: (loop.example/g00220/impl.Node).termAt -/
namespace impl_Node_termAt
abbrev R := Int
noncomputable def m (N : Nat) (a0 : Node) (a1 : Int) : Option R :=
  bif (a1 == (0:Int)) then
    some (0:Int)
  else
  bif (decide (0 ≤ (w64 (a1 - (1:Int))))) then
  bif (decide ((w64 (a1 - (1:Int))) < (a0.Log.length : Int))) then
  some ((a0.Log.getD (Int.toNat (w64 (a1 - (1:Int)))) Entry.dz).Term)
  else none
  else none
@[reducible] noncomputable def sp (N : Nat) : Spec E := { ps := [.val (.st 25), .val (.int .i64)], rs := [(.int .i64)], own := true, dp := false, R := R, fn := fun x => m N x.1 x.2.1, res := fun r => (r, ()), out := fun r => ((), (), ()), shut := fun a b => a.1, res_shut := fun _ _ => rfl, out_shut := fun _ _ => rfl }
end impl_Node_termAt
/-! ### impl_Node_upToDate: (loop.example/g00220/impl.Node).upToDate -/
namespace impl_Node_upToDate
abbrev R := Bool
noncomputable def m (N : Nat) (a0 : Node) (a1 : Int) (a2 : Int) : Option R :=
  ob (impl_Node_termAt.m N a0 (a0.Log.length : Int)) fun y1 =>
  bif (decide (a2 > y1)) then
    some true
  else
  bif (a2 == y1) then
    some (bif false then true else (bif true then (decide (a1 ≥ (a0.Log.length : Int))) else false))
  else
  some (bif false then true else false)
@[reducible] noncomputable def sp (N : Nat) : Spec E := { ps := [.val (.st 25), .val (.int .i64), .val (.int .i64)], rs := [.bool], own := true, dp := false, R := R, fn := fun x => m N x.1 x.2.1 x.2.2.1, res := fun r => (r, ()), out := fun r => ((), (), (), ()), shut := fun a b => a.1, res_shut := fun _ _ => rfl, out_shut := fun _ _ => rfl }
end impl_Node_upToDate
/-! ### impl_UpToDate: loop.example/g00220/impl.UpToDate -/
namespace impl_UpToDate
abbrev R := Bool × Int
noncomputable def m (N : Nat) (a0 : Node) (a1 : Int) (a2 : Int) : Option R :=
  ob (impl_NodeOK.m N a0) fun y1 =>
  bif (!y1) then
    some (false, (1:Int))
  else
  ob (impl_Node_upToDate.m N a0 a1 a2) fun y2 =>
  some (y2, (0:Int))
@[reducible] noncomputable def sp (N : Nat) : Spec E := { ps := [.val (.st 25), .val (.int .i64), .val (.int .i64)], rs := [.bool, (.int .i64)], own := true, dp := false, R := R, fn := fun x => m N x.1 x.2.1 x.2.2.1, res := fun r => (r.1, r.2, ()), out := fun r => ((), (), (), ()), shut := fun a b => (a.1, a.2.1), res_shut := fun _ _ => rfl, out_shut := fun _ _ => rfl }
end impl_UpToDate
/-! ### laws_FnExactUpToDate: loop.example/g00220/laws.FnExactUpToDate -/
namespace laws_FnExactUpToDate
abbrev R := Bool
noncomputable def m (N : Nat) (a0 : Node) (a1 : Int) (a2 : Int) : Option R :=
  ob (laws_szNode.m N a0 (1048576:Int)) fun y1 =>
  bif (decide (y1 < (0:Int))) then
    some true
  else
  ob (laws_toNode.m N a0) fun y2 =>
  ob (spec_UpToDate.m N y2 a1 a2) fun y3 =>
  ob (laws_toNode.m N a0) fun y4 =>
  ob (impl_UpToDate.m N y4 a1 a2) fun y5 =>
  bif (!(y5.1 == y3.1)) then
    some false
  else
  bif (bif false then true else (y5.2 != y3.2)) then
    some false
  else
  ob (laws_toNode.m N a0) fun y6 =>
  ob (laws_eqNode.m N y4 y6) fun y7 =>
  bif (!y7) then
    some false
  else
  some true
@[reducible] noncomputable def sp (N : Nat) : Spec E := { ps := [.val (.st 36), .val (.int .i64), .val (.int .i64)], rs := [.bool], own := true, dp := false, R := R, fn := fun x => m N x.1 x.2.1 x.2.2.1, res := fun r => (r, ()), out := fun r => ((), (), (), ()), shut := fun a b => a.1, res_shut := fun _ _ => rfl, out_shut := fun _ _ => rfl }
end laws_FnExactUpToDate
/-! ### spec_l10Crash: loop.example/g00220/spec.l10Crash -/
namespace spec_l10Crash
abbrev R := Node
noncomputable def m (N : Nat) (a0 : Node) : Option R :=
  ob (spec_l10New.m N a0.Id a0.Start) fun y1 =>
  bif (room (([] : List Entry).length + a0.Log.length) 32) then
  some (Node.mk y1.Id a0.Term a0.Vote (([] : List Entry) ++ a0.Log) y1.Start y1.Role y1.Votes y1.Next y1.Match y1.Commit y1.Elapsed a0.Wait false)
  else none
@[reducible] noncomputable def sp (N : Nat) : Spec E := { ps := [.val (.st 25)], rs := [(.st 25)], own := true, dp := false, R := R, fn := fun x => m N x.1, res := fun r => (r, ()), out := fun r => ((), ()), shut := fun a b => a.1, res_shut := fun _ _ => rfl, out_shut := fun _ _ => rfl }
end spec_l10Crash
/-! ### spec_NodeCrash: loop.example/g00220/spec.NodeCrash -/
namespace spec_NodeCrash
abbrev R := Node × Int
noncomputable def m (N : Nat) (a0 : Node) : Option R :=
  ob (spec_NodeOK.m N a0) fun y1 =>
  bif (!y1) then
    some ((Node.mk (0:Int) (0:Int) (0:Int) ([] : List Entry) ([] : List Int) (0:Int) ([] : List Int) ([] : List Int) ([] : List Int) (0:Int) (0:Int) (0:Int) false), (1:Int))
  else
  ob (spec_l10Crash.m N a0) fun y2 =>
  some (y2, (0:Int))
@[reducible] noncomputable def sp (N : Nat) : Spec E := { ps := [.val (.st 25)], rs := [(.st 25), (.int .i64)], own := true, dp := false, R := R, fn := fun x => m N x.1, res := fun r => (r.1, r.2, ()), out := fun r => ((), ()), shut := fun a b => (a.1, a.2.1), res_shut := fun _ _ => rfl, out_shut := fun _ _ => rfl }
end spec_NodeCrash
/-! ### slices_Clone_impl_Entry_impl_Entry: slices.Clone[[]loop.example/g00220/impl.Entry,loop.example/g00220/impl.Entry] -/
namespace slices_Clone_impl_Entry_impl_Entry
abbrev R := (List Entry)
noncomputable def m (N : Nat) (a0 : List Entry) : Option R :=
  amb (a0.isEmpty) true
    (some ([] : List Entry))
    (bif (room (([] : List Entry).length + a0.length) 32) then
    some (([] : List Entry) ++ a0)
    else none)
@[reducible] noncomputable def sp (N : Nat) : Spec E := { ps := [.val (.slice 96 (.st 96))], rs := [(.slice 96 (.st 96))], own := true, dp := false, R := R, fn := fun x => m N x.1, res := fun r => (r, ()), out := fun r => ((), ()), shut := fun a b => a.1, res_shut := fun _ _ => rfl, out_shut := fun _ _ => rfl }
end slices_Clone_impl_Entry_impl_Entry
/-! ### impl_NodeCrash: loop.example/g00220/impl.NodeCrash -/
namespace impl_NodeCrash
abbrev R := Node × Int
noncomputable def m (N : Nat) (a0 : Node) : Option R :=
  ob (impl_NodeOK.m N a0) fun y1 =>
  bif (!y1) then
    some ((Node.mk (0:Int) (0:Int) (0:Int) ([] : List Entry) ([] : List Int) (0:Int) ([] : List Int) ([] : List Int) ([] : List Int) (0:Int) (0:Int) (0:Int) false), (1:Int))
  else
  ob (impl_newNode.m N a0.Id a0.Start) fun y2 =>
  ob (slices_Clone_impl_Entry_impl_Entry.m N a0.Log) fun y3 =>
  some ((Node.mk y2.Id a0.Term a0.Vote y3 y2.Start y2.Role y2.Votes y2.Next y2.Match y2.Commit y2.Elapsed a0.Wait false), (0:Int))
@[reducible] noncomputable def sp (N : Nat) : Spec E := { ps := [.val (.st 25)], rs := [(.st 25), (.int .i64)], own := true, dp := false, R := R, fn := fun x => m N x.1, res := fun r => (r.1, r.2, ()), out := fun r => ((), ()), shut := fun a b => (a.1, a.2.1), res_shut := fun _ _ => rfl, out_shut := fun _ _ => rfl }
end impl_NodeCrash
/-! ### laws_FnExactNodeCrash: loop.example/g00220/laws.FnExactNodeCrash -/
namespace laws_FnExactNodeCrash
abbrev R := Bool
noncomputable def m (N : Nat) (a0 : Node) : Option R :=
  ob (laws_szNode.m N a0 (1048576:Int)) fun y1 =>
  bif (decide (y1 < (0:Int))) then
    some true
  else
  ob (laws_toNode.m N a0) fun y2 =>
  ob (spec_NodeCrash.m N y2) fun y3 =>
  ob (laws_toNode.m N a0) fun y4 =>
  ob (impl_NodeCrash.m N y4) fun y5 =>
  ob (laws_eqNode.m N y5.1 y3.1) fun y6 =>
  bif (!y6) then
    some false
  else
  bif (bif false then true else (y5.2 != y3.2)) then
    some false
  else
  ob (laws_toNode.m N a0) fun y7 =>
  ob (laws_eqNode.m N y4 y7) fun y8 =>
  bif (!y8) then
    some false
  else
  ob (laws_markNode.m N y4 (1:Int)) fun y9 =>
  bif (decide (y9.1 < (0:Int))) then
    some false
  else
  ob (laws_eqNode.m N y5.1 y3.1) fun y10 =>
  bif (bif false then true else (!y10)) then
    some false
  else
  bif (bif false then true else (y5.2 != y3.2)) then
    some false
  else
  ob (laws_markNode.m N y5.1 (1:Int)) fun y11 =>
  ob (laws_heldNode.m N (Node.mk y5.1.Id y5.1.Term y5.1.Vote y11.2.Log y11.2.Start y5.1.Role y11.2.Votes y11.2.Next y11.2.Match y5.1.Commit y5.1.Elapsed y5.1.Wait y5.1.Up) (1:Int)) fun y12 =>
  bif (decide (y12 < (0:Int))) then
    some false
  else
  bif (y12 != y11.1) then
    some false
  else
  ob (laws_toNode.m N a0) fun y13 =>
  ob (impl_NodeCrash.m N y13) fun y14 =>
  ob (laws_eqNode.m N y14.1 y3.1) fun y15 =>
  bif (!y15) then
    some false
  else
  bif (bif false then true else (y14.2 != y3.2)) then
    some false
  else
  ob (laws_heldNode.m N (Node.mk y5.1.Id y5.1.Term y5.1.Vote y11.2.Log y11.2.Start y5.1.Role y11.2.Votes y11.2.Next y11.2.Match y5.1.Commit y5.1.Elapsed y5.1.Wait y5.1.Up) (1:Int)) fun y16 =>
  bif (decide (y16 < (0:Int))) then
    some false
  else
  bif (y16 != y11.1) then
    some false
  else
  some true
@[reducible] noncomputable def sp (N : Nat) : Spec E := { ps := [.val (.st 36)], rs := [.bool], own := true, dp := false, R := R, fn := fun x => m N x.1, res := fun r => (r, ()), out := fun r => ((), ()), shut := fun a b => a.1, res_shut := fun _ _ => rfl, out_shut := fun _ _ => rfl }
end laws_FnExactNodeCrash
/-! ### laws_szNodeS: loop.example/g00220/laws.szNodeS -/
namespace laws_szNodeS
abbrev R := Int
noncomputable def step5 (N : Nat) (a0 : List Node) (a1 : Int) (rec : (Int × Int) → Option R) : (Int × Int) → Option R
  | (v1, v2) =>
    bif (decide (v2 < (a0.length : Int))) then
      bif (decide (0 ≤ v2)) then
      bif (decide (v2 < (a0.length : Int))) then
      ob (laws_szNode.m N (a0.getD (Int.toNat v2) Node.dz) v1) fun y1 =>
      bif (decide (y1 < (0:Int))) then
        some (-1:Int)
      else
      rec (y1, (w64 (v2 + (1:Int))))
      else none
      else none
    else
    some v1
noncomputable def lp5 (N : Nat) (a0 : List Node) (a1 : Int) : (Int × Int) → Option R :=
  miter (fun rec => step5 N a0 a1 rec) N
noncomputable def m (N : Nat) (a0 : List Node) (a1 : Int) : Option R :=
  bif (decide ((w64 (a1 - (a0.length : Int))) < (0:Int))) then
    some (-1:Int)
  else
  lp5 N a0 a1 ((w64 (a1 - (a0.length : Int))), (0:Int))
@[reducible] noncomputable def sp (N : Nat) : Spec E := { ps := [.val (.slice 36 (.st 36)), .val (.int .i64)], rs := [(.int .i64)], own := true, dp := false, R := R, fn := fun x => m N x.1 x.2.1, res := fun r => (r, ()), out := fun r => ((), (), ()), shut := fun a b => a.1, res_shut := fun _ _ => rfl, out_shut := fun _ _ => rfl }
end laws_szNodeS
/-! ### laws_szMessage: loop.example/g00220/laws.szMessage -/
namespace laws_szMessage
abbrev R := Int
noncomputable def m (N : Nat) (a0 : Message) (a1 : Int) : Option R :=
  ob (laws_szEntryS.m N a0.Entries a1) fun y1 =>
  bif (decide (y1 < (0:Int))) then
    some (-1:Int)
  else
  some y1
@[reducible] noncomputable def sp (N : Nat) : Spec E := { ps := [.val (.st 158), .val (.int .i64)], rs := [(.int .i64)], own := true, dp := false, R := R, fn := fun x => m N x.1 x.2.1, res := fun r => (r, ()), out := fun r => ((), (), ()), shut := fun a b => a.1, res_shut := fun _ _ => rfl, out_shut := fun _ _ => rfl }
end laws_szMessage
/-! ### laws_szMessageS: loop.example/g00220/laws.szMessageS -/
namespace laws_szMessageS
abbrev R := Int
noncomputable def step5 (N : Nat) (a0 : List Message) (a1 : Int) (rec : (Int × Int) → Option R) : (Int × Int) → Option R
  | (v1, v2) =>
    bif (decide (v2 < (a0.length : Int))) then
      bif (decide (0 ≤ v2)) then
      bif (decide (v2 < (a0.length : Int))) then
      ob (laws_szMessage.m N (a0.getD (Int.toNat v2) Message.dz) v1) fun y1 =>
      bif (decide (y1 < (0:Int))) then
        some (-1:Int)
      else
      rec (y1, (w64 (v2 + (1:Int))))
      else none
      else none
    else
    some v1
noncomputable def lp5 (N : Nat) (a0 : List Message) (a1 : Int) : (Int × Int) → Option R :=
  miter (fun rec => step5 N a0 a1 rec) N
noncomputable def m (N : Nat) (a0 : List Message) (a1 : Int) : Option R :=
  bif (decide ((w64 (a1 - (a0.length : Int))) < (0:Int))) then
    some (-1:Int)
  else
  lp5 N a0 a1 ((w64 (a1 - (a0.length : Int))), (0:Int))
@[reducible] noncomputable def sp (N : Nat) : Spec E := { ps := [.val (.slice 158 (.st 158)), .val (.int .i64)], rs := [(.int .i64)], own := true, dp := false, R := R, fn := fun x => m N x.1 x.2.1, res := fun r => (r, ()), out := fun r => ((), (), ()), shut := fun a b => a.1, res_shut := fun _ _ => rfl, out_shut := fun _ _ => rfl }
end laws_szMessageS
/-! ### laws_szLead: loop.example/g00220/laws.szLead -/
namespace laws_szLead
abbrev R := Int
noncomputable def m (N : Nat) (a0 : Lead) (a1 : Int) : Option R :=
  ob (laws_szEntryS.m N a0.Log a1) fun y1 =>
  bif (decide (y1 < (0:Int))) then
    some (-1:Int)
  else
  some y1
@[reducible] noncomputable def sp (N : Nat) : Spec E := { ps := [.val (.st 161), .val (.int .i64)], rs := [(.int .i64)], own := true, dp := false, R := R, fn := fun x => m N x.1 x.2.1, res := fun r => (r, ()), out := fun r => ((), (), ()), shut := fun a b => a.1, res_shut := fun _ _ => rfl, out_shut := fun _ _ => rfl }
end laws_szLead
/-! ### laws_szLeadS: loop.example/g00220/laws.szLeadS -/
namespace laws_szLeadS
abbrev R := Int
noncomputable def step5 (N : Nat) (a0 : List Lead) (a1 : Int) (rec : (Int × Int) → Option R) : (Int × Int) → Option R
  | (v1, v2) =>
    bif (decide (v2 < (a0.length : Int))) then
      bif (decide (0 ≤ v2)) then
      bif (decide (v2 < (a0.length : Int))) then
      ob (laws_szLead.m N (a0.getD (Int.toNat v2) Lead.dz) v1) fun y1 =>
      bif (decide (y1 < (0:Int))) then
        some (-1:Int)
      else
      rec (y1, (w64 (v2 + (1:Int))))
      else none
      else none
    else
    some v1
noncomputable def lp5 (N : Nat) (a0 : List Lead) (a1 : Int) : (Int × Int) → Option R :=
  miter (fun rec => step5 N a0 a1 rec) N
noncomputable def m (N : Nat) (a0 : List Lead) (a1 : Int) : Option R :=
  bif (decide ((w64 (a1 - (a0.length : Int))) < (0:Int))) then
    some (-1:Int)
  else
  lp5 N a0 a1 ((w64 (a1 - (a0.length : Int))), (0:Int))
@[reducible] noncomputable def sp (N : Nat) : Spec E := { ps := [.val (.slice 161 (.st 161)), .val (.int .i64)], rs := [(.int .i64)], own := true, dp := false, R := R, fn := fun x => m N x.1 x.2.1, res := fun r => (r, ()), out := fun r => ((), (), ()), shut := fun a b => a.1, res_shut := fun _ _ => rfl, out_shut := fun _ _ => rfl }
end laws_szLeadS
/-! ### laws_szDone: loop.example/g00220/laws.szDone -/
namespace laws_szDone
abbrev R := Int
noncomputable def m (N : Nat) (a0 : Done) (a1 : Int) : Option R :=
  ob (laws_szEntry.m N (Entry.mk a0.Entry.Term a0.Entry.Kind a0.Entry.Data) a1) fun y1 =>
  bif (decide (y1 < (0:Int))) then
    some (-1:Int)
  else
  some y1
@[reducible] noncomputable def sp (N : Nat) : Spec E := { ps := [.val (.st 164), .val (.int .i64)], rs := [(.int .i64)], own := true, dp := false, R := R, fn := fun x => m N x.1 x.2.1, res := fun r => (r, ()), out := fun r => ((), (), ()), shut := fun a b => a.1, res_shut := fun _ _ => rfl, out_shut := fun _ _ => rfl }
end laws_szDone
/-! ### laws_szDoneS: loop.example/g00220/laws.szDoneS -/
namespace laws_szDoneS
abbrev R := Int
noncomputable def step5 (N : Nat) (a0 : List Done) (a1 : Int) (rec : (Int × Int) → Option R) : (Int × Int) → Option R
  | (v1, v2) =>
    bif (decide (v2 < (a0.length : Int))) then
      bif (decide (0 ≤ v2)) then
      bif (decide (v2 < (a0.length : Int))) then
      ob (laws_szDone.m N (Done.mk ((a0.getD (Int.toNat v2) Done.dz).Node) ((a0.getD (Int.toNat v2) Done.dz).Term) ((a0.getD (Int.toNat v2) Done.dz).Index) (Entry.mk ((a0.getD (Int.toNat v2) Done.dz).Entry.Term) ((a0.getD (Int.toNat v2) Done.dz).Entry.Kind) ((a0.getD (Int.toNat v2) Done.dz).Entry.Data))) v1) fun y1 =>
      bif (decide (y1 < (0:Int))) then
        some (-1:Int)
      else
      rec (y1, (w64 (v2 + (1:Int))))
      else none
      else none
    else
    some v1
noncomputable def lp5 (N : Nat) (a0 : List Done) (a1 : Int) : (Int × Int) → Option R :=
  miter (fun rec => step5 N a0 a1 rec) N
noncomputable def m (N : Nat) (a0 : List Done) (a1 : Int) : Option R :=
  bif (decide ((w64 (a1 - (a0.length : Int))) < (0:Int))) then
    some (-1:Int)
  else
  lp5 N a0 a1 ((w64 (a1 - (a0.length : Int))), (0:Int))
@[reducible] noncomputable def sp (N : Nat) : Spec E := { ps := [.val (.slice 164 (.st 164)), .val (.int .i64)], rs := [(.int .i64)], own := true, dp := false, R := R, fn := fun x => m N x.1 x.2.1, res := fun r => (r, ()), out := fun r => ((), (), ()), shut := fun a b => a.1, res_shut := fun _ _ => rfl, out_shut := fun _ _ => rfl }
end laws_szDoneS
/-! ### laws_szGroup: loop.example/g00220/laws.szGroup -/
namespace laws_szGroup
abbrev R := Int
noncomputable def m (N : Nat) (a0 : Group) (a1 : Int) : Option R :=
  ob (laws_szNodeS.m N a0.Nodes a1) fun y1 =>
  bif (decide (y1 < (0:Int))) then
    some (-1:Int)
  else
  ob (laws_szMessageS.m N a0.Wire y1) fun y2 =>
  bif (decide (y2 < (0:Int))) then
    some (-1:Int)
  else
  ob (laws_szLeadS.m N a0.Leads y2) fun y3 =>
  bif (decide (y3 < (0:Int))) then
    some (-1:Int)
  else
  ob (laws_szDoneS.m N a0.Dones y3) fun y4 =>
  bif (decide (y4 < (0:Int))) then
    some (-1:Int)
  else
  some y4
@[reducible] noncomputable def sp (N : Nat) : Spec E := { ps := [.val (.st 70), .val (.int .i64)], rs := [(.int .i64)], own := true, dp := false, R := R, fn := fun x => m N x.1 x.2.1, res := fun r => (r, ()), out := fun r => ((), (), ()), shut := fun a b => a.1, res_shut := fun _ _ => rfl, out_shut := fun _ _ => rfl }
end laws_szGroup
/-! ### laws_toNodeS: loop.example/g00220/laws.toNodeS -/
namespace laws_toNodeS
abbrev R := (List Node)
noncomputable def step3 (N : Nat) (a0 : List Node) (rec : (Int × (List Node)) → Option R) : (Int × (List Node)) → Option R
  | (v1, v2) =>
    bif (decide (v1 < (a0.length : Int))) then
      bif (decide (0 ≤ v1)) then
      bif (decide (v1 < (a0.length : Int))) then
      ob (laws_toNode.m N (a0.getD (Int.toNat v1) Node.dz)) fun y2 =>
      bif (decide (0 ≤ v1)) then
      bif (decide (v1 < (v2.length : Int))) then
      rec ((w64 (v1 + (1:Int))), (v2.set (Int.toNat v1) y2))
      else none
      else none
      else none
      else none
    else
    some v2
noncomputable def lp3 (N : Nat) (a0 : List Node) : (Int × (List Node)) → Option R :=
  miter (fun rec => step3 N a0 rec) N
noncomputable def m (N : Nat) (a0 : List Node) : Option R :=
  bif (decide (0 ≤ (a0.length : Int))) then
  bif (room (Int.toNat (a0.length : Int)) 184) then
  (let w1 : List Node := (List.replicate (Int.toNat (a0.length : Int)) (Node.mk (0:Int) (0:Int) (0:Int) ([] : List Entry) ([] : List Int) (0:Int) ([] : List Int) ([] : List Int) ([] : List Int) (0:Int) (0:Int) (0:Int) false))
  lp3 N a0 ((0:Int), w1))
  else none
  else none
@[reducible] noncomputable def sp (N : Nat) : Spec E := { ps := [.val (.slice 36 (.st 36))], rs := [(.slice 25 (.st 25))], own := true, dp := false, R := R, fn := fun x => m N x.1, res := fun r => (r, ()), out := fun r => ((), ()), shut := fun a b => a.1, res_shut := fun _ _ => rfl, out_shut := fun _ _ => rfl }
end laws_toNodeS
/-! ### laws_toMessage: loop.example/g00220/laws.toMessage -/
namespace laws_toMessage
abbrev R := Message
noncomputable def m (N : Nat) (a0 : Message) : Option R :=
  ob (laws_toEntryS.m N a0.Entries) fun y1 =>
  some (Message.mk a0.Kind a0.From a0.To a0.Term a0.Index a0.LogTerm a0.Commit y1 a0.Ok)
@[reducible] noncomputable def sp (N : Nat) : Spec E := { ps := [.val (.st 158)], rs := [(.st 102)], own := true, dp := false, R := R, fn := fun x => m N x.1, res := fun r => (r, ()), out := fun r => ((), ()), shut := fun a b => a.1, res_shut := fun _ _ => rfl, out_shut := fun _ _ => rfl }
end laws_toMessage
/-! ### laws_toMessageS: loop.example/g00220/laws.toMessageS -/
namespace laws_toMessageS
abbrev R := (List Message)
noncomputable def step3 (N : Nat) (a0 : List Message) (rec : (Int × (List Message)) → Option R) : (Int × (List Message)) → Option R
  | (v1, v2) =>
    bif (decide (v1 < (a0.length : Int))) then
      bif (decide (0 ≤ v1)) then
      bif (decide (v1 < (a0.length : Int))) then
      ob (laws_toMessage.m N (a0.getD (Int.toNat v1) Message.dz)) fun y1 =>
      bif (decide (0 ≤ v1)) then
      bif (decide (v1 < (v2.length : Int))) then
      rec ((w64 (v1 + (1:Int))), (v2.set (Int.toNat v1) y1))
      else none
      else none
      else none
      else none
    else
    some v2
noncomputable def lp3 (N : Nat) (a0 : List Message) : (Int × (List Message)) → Option R :=
  miter (fun rec => step3 N a0 rec) N
noncomputable def m (N : Nat) (a0 : List Message) : Option R :=
  bif (decide (0 ≤ (a0.length : Int))) then
  bif (room (Int.toNat (a0.length : Int)) 88) then
  lp3 N a0 ((0:Int), (List.replicate (Int.toNat (a0.length : Int)) (Message.mk (0:Int) (0:Int) (0:Int) (0:Int) (0:Int) (0:Int) (0:Int) ([] : List Entry) false)))
  else none
  else none
@[reducible] noncomputable def sp (N : Nat) : Spec E := { ps := [.val (.slice 158 (.st 158))], rs := [(.slice 102 (.st 102))], own := true, dp := false, R := R, fn := fun x => m N x.1, res := fun r => (r, ()), out := fun r => ((), ()), shut := fun a b => a.1, res_shut := fun _ _ => rfl, out_shut := fun _ _ => rfl }
end laws_toMessageS
/-! ### laws_toLead: loop.example/g00220/laws.toLead -/
namespace laws_toLead
abbrev R := Lead
noncomputable def m (N : Nat) (a0 : Lead) : Option R :=
  ob (laws_toEntryS.m N a0.Log) fun y1 =>
  some (Lead.mk a0.Term a0.Id y1)
@[reducible] noncomputable def sp (N : Nat) : Spec E := { ps := [.val (.st 161)], rs := [(.st 128)], own := true, dp := false, R := R, fn := fun x => m N x.1, res := fun r => (r, ()), out := fun r => ((), ()), shut := fun a b => a.1, res_shut := fun _ _ => rfl, out_shut := fun _ _ => rfl }
end laws_toLead
/-! ### laws_toLeadS: loop.example/g00220/laws.toLeadS -/
namespace laws_toLeadS
abbrev R := (List Lead)
noncomputable def step3 (N : Nat) (a0 : List Lead) (rec : (Int × (List Lead)) → Option R) : (Int × (List Lead)) → Option R
  | (v1, v2) =>
    bif (decide (v1 < (a0.length : Int))) then
      bif (decide (0 ≤ v1)) then
      bif (decide (v1 < (a0.length : Int))) then
      ob (laws_toLead.m N (a0.getD (Int.toNat v1) Lead.dz)) fun y1 =>
      bif (decide (0 ≤ v1)) then
      bif (decide (v1 < (v2.length : Int))) then
      rec ((w64 (v1 + (1:Int))), (v2.set (Int.toNat v1) y1))
      else none
      else none
      else none
      else none
    else
    some v2
noncomputable def lp3 (N : Nat) (a0 : List Lead) : (Int × (List Lead)) → Option R :=
  miter (fun rec => step3 N a0 rec) N
noncomputable def m (N : Nat) (a0 : List Lead) : Option R :=
  bif (decide (0 ≤ (a0.length : Int))) then
  bif (room (Int.toNat (a0.length : Int)) 40) then
  lp3 N a0 ((0:Int), (List.replicate (Int.toNat (a0.length : Int)) (Lead.mk (0:Int) (0:Int) ([] : List Entry))))
  else none
  else none
@[reducible] noncomputable def sp (N : Nat) : Spec E := { ps := [.val (.slice 161 (.st 161))], rs := [(.slice 128 (.st 128))], own := true, dp := false, R := R, fn := fun x => m N x.1, res := fun r => (r, ()), out := fun r => ((), ()), shut := fun a b => a.1, res_shut := fun _ _ => rfl, out_shut := fun _ _ => rfl }
end laws_toLeadS
/-! ### laws_toDone: loop.example/g00220/laws.toDone -/
namespace laws_toDone
abbrev R := Done
noncomputable def m (N : Nat) (a0 : Done) : Option R :=
  ob (laws_toEntry.m N (Entry.mk a0.Entry.Term a0.Entry.Kind a0.Entry.Data)) fun y1 =>
  some (Done.mk a0.Node a0.Term a0.Index y1)
@[reducible] noncomputable def sp (N : Nat) : Spec E := { ps := [.val (.st 164)], rs := [(.st 131)], own := true, dp := false, R := R, fn := fun x => m N x.1, res := fun r => (r, ()), out := fun r => ((), ()), shut := fun a b => a.1, res_shut := fun _ _ => rfl, out_shut := fun _ _ => rfl }
end laws_toDone
/-! ### laws_toDoneS: loop.example/g00220/laws.toDoneS -/
namespace laws_toDoneS
abbrev R := (List Done)
noncomputable def step3 (N : Nat) (a0 : List Done) (rec : (Int × (List Done)) → Option R) : (Int × (List Done)) → Option R
  | (v1, v2) =>
    bif (decide (v1 < (a0.length : Int))) then
      bif (decide (0 ≤ v1)) then
      bif (decide (v1 < (a0.length : Int))) then
      ob (laws_toDone.m N (Done.mk ((a0.getD (Int.toNat v1) Done.dz).Node) ((a0.getD (Int.toNat v1) Done.dz).Term) ((a0.getD (Int.toNat v1) Done.dz).Index) (Entry.mk ((a0.getD (Int.toNat v1) Done.dz).Entry.Term) ((a0.getD (Int.toNat v1) Done.dz).Entry.Kind) ((a0.getD (Int.toNat v1) Done.dz).Entry.Data)))) fun y1 =>
      bif (decide (0 ≤ v1)) then
      bif (decide (v1 < (v2.length : Int))) then
      rec ((w64 (v1 + (1:Int))), (v2.set (Int.toNat v1) (Done.mk y1.Node y1.Term y1.Index (Entry.mk y1.Entry.Term y1.Entry.Kind y1.Entry.Data))))
      else none
      else none
      else none
      else none
    else
    some v2
noncomputable def lp3 (N : Nat) (a0 : List Done) : (Int × (List Done)) → Option R :=
  miter (fun rec => step3 N a0 rec) N
noncomputable def m (N : Nat) (a0 : List Done) : Option R :=
  bif (decide (0 ≤ (a0.length : Int))) then
  bif (room (Int.toNat (a0.length : Int)) 56) then
  lp3 N a0 ((0:Int), (List.replicate (Int.toNat (a0.length : Int)) (Done.mk (0:Int) (0:Int) (0:Int) (Entry.mk (0:Int) (0:Int) ByteArray.empty))))
  else none
  else none
@[reducible] noncomputable def sp (N : Nat) : Spec E := { ps := [.val (.slice 164 (.st 164))], rs := [(.slice 131 (.st 131))], own := true, dp := false, R := R, fn := fun x => m N x.1, res := fun r => (r, ()), out := fun r => ((), ()), shut := fun a b => a.1, res_shut := fun _ _ => rfl, out_shut := fun _ _ => rfl }
end laws_toDoneS
/-! ### laws_toGroup: loop.example/g00220/laws.toGroup -/
namespace laws_toGroup
abbrev R := Group
noncomputable def m (N : Nat) (a0 : Group) : Option R :=
  ob (laws_toNodeS.m N a0.Nodes) fun y1 =>
  ob (laws_toMessageS.m N a0.Wire) fun y2 =>
  ob (laws_toLeadS.m N a0.Leads) fun y3 =>
  ob (laws_toDoneS.m N a0.Dones) fun y4 =>
  some (Group.mk y1 y2 y3 y4)
@[reducible] noncomputable def sp (N : Nat) : Spec E := { ps := [.val (.st 70)], rs := [(.st 59)], own := true, dp := false, R := R, fn := fun x => m N x.1, res := fun r => (r, ()), out := fun r => ((), ()), shut := fun a b => a.1, res_shut := fun _ _ => rfl, out_shut := fun _ _ => rfl }
end laws_toGroup
/-! ### spec_l10MessageOK: loop.example/g00220/spec.l10MessageOK -/
namespace spec_l10MessageOK
abbrev R := Bool
noncomputable def m (N : Nat) (a0 : Message) : Option R :=
  ob (spec_l01In.m N a0.Kind (1:Int) (4:Int)) fun y1 =>
  bif (!y1) then
    some false
  else
  ob (spec_l01In.m N a0.From (0:Int) (6:Int)) fun y2 =>
  bif (bif false then true else (!y2)) then
    some false
  else
  ob (spec_l01In.m N a0.To (0:Int) (6:Int)) fun y3 =>
  bif (bif false then true else (!y3)) then
    some false
  else
  bif (bif false then true else (a0.From == a0.To)) then
    some false
  else
  ob (spec_l01In.m N a0.Term (1:Int) (1000000:Int)) fun y4 =>
  bif (bif false then true else (!y4)) then
    some false
  else
  ob (spec_l01In.m N a0.Index (0:Int) (60:Int)) fun y5 =>
  bif (bif false then true else (!y5)) then
    some false
  else
  ob (spec_l01In.m N a0.LogTerm (0:Int) a0.Term) fun y6 =>
  bif (bif false then true else (!y6)) then
    some false
  else
  ob (spec_l01In.m N a0.Commit (0:Int) (60:Int)) fun y7 =>
  bif (bif false then true else (!y7)) then
    some false
  else
  bif (bif false then true else (decide ((a0.Entries.length : Int) > (w64 ((60:Int) - a0.Index))))) then
    some false
  else
  bif (a0.Kind != (3:Int)) then
    some ((a0.Entries.length : Int) == (0:Int))
  else
  ob (spec_StateOK.m N (State.mk a0.Term (0:Int) a0.Entries)) fun y8 =>
  bif y8 then
    bif ((a0.Entries.length : Int) == (0:Int)) then
      bif (bif true then true else false) then
        bif (decide (a0.Index > (0:Int))) then
          some (bif true then true else false)
        else
        some (bif true then (bif false then true else (a0.LogTerm == (0:Int))) else false)
      else
      some false
    else
    bif (decide (0 ≤ (0:Int))) then
    bif (decide ((0:Int) < (a0.Entries.length : Int))) then
    bif (bif true then (bif false then true else (decide ((a0.Entries.getD 0 Entry.dz).Term ≥ a0.LogTerm))) else false) then
      bif (decide (a0.Index > (0:Int))) then
        some (bif true then true else false)
      else
      some (bif true then (bif false then true else (a0.LogTerm == (0:Int))) else false)
    else
    some false
    else none
    else none
  else
  some false
@[reducible] noncomputable def sp (N : Nat) : Spec E := { ps := [.val (.st 102)], rs := [.bool], own := true, dp := false, R := R, fn := fun x => m N x.1, res := fun r => (r, ()), out := fun r => ((), ()), shut := fun a b => a.1, res_shut := fun _ _ => rfl, out_shut := fun _ _ => rfl }
end spec_l10MessageOK
/-! ### spec_GroupOK: loop.example/g00220/spec.GroupOK -/
namespace spec_GroupOK
abbrev R := Bool
noncomputable def step4 (N : Nat) (a0 : Group) (lp9 : Int → Option R) (rec : Int → Option R) : Int → Option R
  | v0 =>
    bif (decide (v0 < (a0.Nodes.length : Int))) then
      bif (decide (0 ≤ v0)) then
      bif (decide (v0 < (a0.Nodes.length : Int))) then
      ob (spec_NodeOK.m N (a0.Nodes.getD (Int.toNat v0) Node.dz)) fun y2 =>
      bif (!y2) then
        some false
      else
      bif (decide (0 ≤ v0)) then
      bif (decide (v0 < (a0.Nodes.length : Int))) then
      bif (bif false then true else ((a0.Nodes.getD (Int.toNat v0) Node.dz).Id != v0)) then
        some false
      else
      rec (w64 (v0 + (1:Int)))
      else none
      else none
      else none
      else none
    else
    lp9 (0:Int)
noncomputable def step9 (N : Nat) (a0 : Group) (rec : Int → Option R) : Int → Option R
  | v0 =>
    bif (decide (v0 < (a0.Wire.length : Int))) then
      bif (decide (0 ≤ v0)) then
      bif (decide (v0 < (a0.Wire.length : Int))) then
      ob (spec_l10MessageOK.m N (a0.Wire.getD (Int.toNat v0) Message.dz)) fun y3 =>
      bif (!y3) then
        some false
      else
      rec (w64 (v0 + (1:Int)))
      else none
      else none
    else
    some true
noncomputable def lp9 (N : Nat) (a0 : Group) : Int → Option R :=
  miter (fun rec => step9 N a0 rec) N
noncomputable def lp4 (N : Nat) (a0 : Group) : Int → Option R :=
  miter (fun rec => step4 N a0 (lp9 N a0) rec) N
noncomputable def m (N : Nat) (a0 : Group) : Option R :=
  ob (spec_l01In.m N (a0.Nodes.length : Int) (1:Int) (5:Int)) fun y1 =>
  bif (!y1) then
    some false
  else
  bif (bif false then true else (decide ((a0.Wire.length : Int) > (60:Int)))) then
    some false
  else
  bif (bif false then true else (decide ((a0.Leads.length : Int) > (4096:Int)))) then
    some false
  else
  bif (bif false then true else (decide ((a0.Dones.length : Int) > (4096:Int)))) then
    some false
  else
  lp4 N a0 (0:Int)
@[reducible] noncomputable def sp (N : Nat) : Spec E := { ps := [.val (.st 59)], rs := [.bool], own := true, dp := false, R := R, fn := fun x => m N x.1, res := fun r => (r, ()), out := fun r => ((), ()), shut := fun a b => a.1, res_shut := fun _ _ => rfl, out_shut := fun _ _ => rfl }
end spec_GroupOK
/-! ### impl_isList_impl_Lead: loop.example/g00220/impl.isList[loop.example/g00220/impl.Lead] -/
namespace impl_isList_impl_Lead
abbrev R := Bool
noncomputable def m (N : Nat) (a0 : List Lead) : Option R :=
  some (decide ((a0.length : Int) ≤ (4096:Int)))
@[reducible] noncomputable def sp (N : Nat) : Spec E := { ps := [.val (.slice 128 (.st 128))], rs := [.bool], own := true, dp := false, R := R, fn := fun x => m N x.1, res := fun r => (r, ()), out := fun r => ((), ()), shut := fun a b => a.1, res_shut := fun _ _ => rfl, out_shut := fun _ _ => rfl }
end impl_isList_impl_Lead
/-! ### impl_isList_impl_Done: loop.example/g00220/impl.isList[loop.example/g00220/impl.Done] -/
namespace impl_isList_impl_Done
abbrev R := Bool
noncomputable def m (N : Nat) (a0 : List Done) : Option R :=
  some (decide ((a0.length : Int) ≤ (4096:Int)))
@[reducible] noncomputable def sp (N : Nat) : Spec E := { ps := [.val (.slice 131 (.st 131))], rs := [.bool], own := true, dp := false, R := R, fn := fun x => m N x.1, res := fun r => (r, ()), out := fun r => ((), ()), shut := fun a b => a.1, res_shut := fun _ _ => rfl, out_shut := fun _ _ => rfl }
end impl_isList_impl_Done
/-! ### impl_Message_entriesOK: (loop.example/g00220/impl.Message).entriesOK -/
namespace impl_Message_entriesOK
abbrev R := Bool
noncomputable def step3 (N : Nat) (a0 : Message) (rec : (Int × Int × Int) → Option R) : (Int × Int × Int) → Option R
  | (v0, v2, v3) =>
    bif (decide (v3 < v2)) then
      bif (decide (0 ≤ v3)) then
      bif (decide (v3 < (a0.Entries.length : Int))) then
      ob (impl_entryOK.m N (a0.Entries.getD (Int.toNat v3) Entry.dz)) fun y1 =>
      bif (!y1) then
        some false
      else
      ob (impl_within.m N ((a0.Entries.getD (Int.toNat v3) Entry.dz).Term) v0 a0.Term) fun y2 =>
      bif (bif false then true else (!y2)) then
        some false
      else
      rec ((a0.Entries.getD (Int.toNat v3) Entry.dz).Term, v2, (w64 (v3 + (1:Int))))
      else none
      else none
    else
    bif (decide ((w64 (a0.Index + (a0.Entries.length : Int))) ≤ (60:Int))) then
      bif (decide (a0.Index > (0:Int))) then
        some (bif true then true else false)
      else
      some (bif true then (bif false then true else (a0.LogTerm == (0:Int))) else false)
    else
    some false
noncomputable def lp3 (N : Nat) (a0 : Message) : (Int × Int × Int) → Option R :=
  miter (fun rec => step3 N a0 rec) N
noncomputable def m (N : Nat) (a0 : Message) : Option R :=
  lp3 N a0 (a0.LogTerm, (a0.Entries.length : Int), (0:Int))
@[reducible] noncomputable def sp (N : Nat) : Spec E := { ps := [.val (.st 102)], rs := [.bool], own := true, dp := false, R := R, fn := fun x => m N x.1, res := fun r => (r, ()), out := fun r => ((), ()), shut := fun a b => a.1, res_shut := fun _ _ => rfl, out_shut := fun _ _ => rfl }
end impl_Message_entriesOK
/-! ### impl_messageOK: loop.example/g00220/impl.messageOK -/
namespace impl_messageOK
abbrev R := Bool
noncomputable def m (N : Nat) (a0 : Message) : Option R :=
  ob (impl_within.m N a0.Kind (1:Int) (4:Int)) fun y1 =>
  bif (!y1) then
    some false
  else
  ob (impl_isNumber.m N a0.From) fun y2 =>
  bif (bif false then true else (!y2)) then
    some false
  else
  ob (impl_isNumber.m N a0.To) fun y3 =>
  bif (bif false then true else (!y3)) then
    some false
  else
  bif (bif false then true else (a0.From == a0.To)) then
    some false
  else
  ob (impl_within.m N a0.Term (1:Int) (1000000:Int)) fun y4 =>
  bif (bif false then true else (!y4)) then
    some false
  else
  ob (impl_within.m N a0.LogTerm (0:Int) a0.Term) fun y5 =>
  bif (!y5) then
    some false
  else
  ob (impl_within.m N a0.Index (0:Int) (60:Int)) fun y6 =>
  bif (bif false then true else (!y6)) then
    some false
  else
  ob (impl_within.m N a0.Commit (0:Int) (60:Int)) fun y7 =>
  bif (bif false then true else (!y7)) then
    some false
  else
  bif (a0.Kind != (3:Int)) then
    some ((a0.Entries.length : Int) == (0:Int))
  else
  bif (decide ((a0.Entries.length : Int) ≤ (60:Int))) then
    ob (impl_Message_entriesOK.m N a0) fun y8 =>
    some (bif true then y8 else false)
  else
  some false
@[reducible] noncomputable def sp (N : Nat) : Spec E := { ps := [.val (.st 102)], rs := [.bool], own := true, dp := false, R := R, fn := fun x => m N x.1, res := fun r => (r, ()), out := fun r => ((), ()), shut := fun a b => a.1, res_shut := fun _ _ => rfl, out_shut := fun _ _ => rfl }
end impl_messageOK
/-! ### impl_GroupOK_1: loop.example/g00220/impl.GroupOK$1 -/
namespace impl_GroupOK_1
abbrev R := Bool
noncomputable def m (N : Nat) (a0 : Message) : Option R :=
  ob (impl_messageOK.m N a0) fun y1 =>
  some (!y1)
@[reducible] noncomputable def sp (N : Nat) : Spec E := { ps := [.val (.st 102)], rs := [.bool], own := true, dp := false, R := R, fn := fun x => m N x.1, res := fun r => (r, ()), out := fun r => ((), ()), shut := fun a b => a.1, res_shut := fun _ _ => rfl, out_shut := fun _ _ => rfl }
end impl_GroupOK_1
/-! ### slices_IndexFunc_impl_Message_impl_Message__impl_GroupOK_1: slices.IndexFunc[[]loop.example/g00220/impl.Message,loop.example/g00220/impl.Message] -/
namespace slices_IndexFunc_impl_Message_impl_Message__impl_GroupOK_1
abbrev R := Int
noncomputable def step2 (N : Nat) (a0 : List Message) (rec : (Int × Int) → Option R) : (Int × Int) → Option R
  | (v1, v2) =>
    bif (decide (v2 < v1)) then
      bif (decide (0 ≤ v2)) then
      bif (decide (v2 < (a0.length : Int))) then
      ob (impl_GroupOK_1.m N (a0.getD (Int.toNat v2) Message.dz)) fun y1 =>
      bif y1 then
        some v2
      else
      rec (v1, (w64 (v2 + (1:Int))))
      else none
      else none
    else
    some (-1:Int)
noncomputable def lp2 (N : Nat) (a0 : List Message) : (Int × Int) → Option R :=
  miter (fun rec => step2 N a0 rec) N
noncomputable def m (N : Nat) (a0 : List Message) : Option R :=
  lp2 N a0 ((a0.length : Int), (0:Int))
@[reducible] noncomputable def sp (N : Nat) : Spec E := { ps := [.val (.slice 102 (.st 102)), .clo 109 []], rs := [(.int .i64)], own := true, dp := false, R := R, fn := fun x => m N x.1, res := fun r => (r, ()), out := fun r => ((), (), ()), shut := fun a b => a.1, res_shut := fun _ _ => rfl, out_shut := fun _ _ => rfl }
end slices_IndexFunc_impl_Message_impl_Message__impl_GroupOK_1
/-! ### slices_ContainsFunc_impl_Message_impl_Message__impl_GroupOK_1: slices.ContainsFunc[[]loop.example/g00220/impl.Message,loop.example/g00220/impl.Message] -/
namespace slices_ContainsFunc_impl_Message_impl_Message__impl_GroupOK_1
abbrev R := Bool
noncomputable def m (N : Nat) (a0 : List Message) : Option R :=
  ob (slices_IndexFunc_impl_Message_impl_Message__impl_GroupOK_1.m N a0) fun y1 =>
  some (decide (y1 ≥ (0:Int)))
@[reducible] noncomputable def sp (N : Nat) : Spec E := { ps := [.val (.slice 102 (.st 102)), .clo 109 []], rs := [.bool], own := true, dp := false, R := R, fn := fun x => m N x.1, res := fun r => (r, ()), out := fun r => ((), (), ()), shut := fun a b => a.1, res_shut := fun _ _ => rfl, out_shut := fun _ _ => rfl }
end slices_ContainsFunc_impl_Message_impl_Message__impl_GroupOK_1
/-! ### impl_GroupOK: loop.example/g00220/impl.GroupOK -/
namespace impl_GroupOK
abbrev R := Bool
noncomputable def step4 (N : Nat) (a0 : Group) (rec : (Int × Int) → Option R) : (Int × Int) → Option R
  | (v1, v2) =>
    bif (decide (v2 < v1)) then
      bif (decide (0 ≤ v2)) then
      bif (decide (v2 < (a0.Nodes.length : Int))) then
      ob (impl_NodeOK.m N (a0.Nodes.getD (Int.toNat v2) Node.dz)) fun y4 =>
      bif (!y4) then
        some false
      else
      bif (bif false then true else ((a0.Nodes.getD (Int.toNat v2) Node.dz).Id != v2)) then
        some false
      else
      rec (v1, (w64 (v2 + (1:Int))))
      else none
      else none
    else
    ob (slices_ContainsFunc_impl_Message_impl_Message__impl_GroupOK_1.m N a0.Wire) fun y5 =>
    some (!y5)
noncomputable def lp4 (N : Nat) (a0 : Group) : (Int × Int) → Option R :=
  miter (fun rec => step4 N a0 rec) N
noncomputable def m (N : Nat) (a0 : Group) : Option R :=
  ob (impl_within.m N (a0.Nodes.length : Int) (1:Int) (5:Int)) fun y1 =>
  bif (!y1) then
    some false
  else
  bif (bif false then true else (decide ((a0.Wire.length : Int) > (60:Int)))) then
    some false
  else
  ob (impl_isList_impl_Lead.m N a0.Leads) fun y2 =>
  bif (bif false then true else (!y2)) then
    some false
  else
  ob (impl_isList_impl_Done.m N a0.Dones) fun y3 =>
  bif (bif false then true else (!y3)) then
    some false
  else
  lp4 N a0 ((a0.Nodes.length : Int), (0:Int))
@[reducible] noncomputable def sp (N : Nat) : Spec E := { ps := [.val (.st 59)], rs := [.bool], own := true, dp := false, R := R, fn := fun x => m N x.1, res := fun r => (r, ()), out := fun r => ((), ()), shut := fun a b => a.1, res_shut := fun _ _ => rfl, out_shut := fun _ _ => rfl }
end impl_GroupOK
/-! ### laws_eqNodeS: loop.example/g00220/laws.eqNodeS -/
namespace laws_eqNodeS
abbrev R := Bool
noncomputable def step4 (N : Nat) (a0 : List Node) (a1 : List Node) (rec : Int → Option R) : Int → Option R
  | v2 =>
    bif (decide (v2 < (a0.length : Int))) then
      bif (decide (0 ≤ v2)) then
      bif (decide (v2 < (a0.length : Int))) then
      bif (decide (0 ≤ v2)) then
      bif (decide (v2 < (a1.length : Int))) then
      ob (laws_eqNode.m N (a0.getD (Int.toNat v2) Node.dz) (a1.getD (Int.toNat v2) Node.dz)) fun y1 =>
      bif (!y1) then
        some false
      else
      rec (w64 (v2 + (1:Int)))
      else none
      else none
      else none
      else none
    else
    some true
noncomputable def lp4 (N : Nat) (a0 : List Node) (a1 : List Node) : Int → Option R :=
  miter (fun rec => step4 N a0 a1 rec) N
noncomputable def m (N : Nat) (a0 : List Node) (a1 : List Node) : Option R :=
  bif ((a0.length : Int) != (a1.length : Int)) then
    some false
  else
  lp4 N a0 a1 (0:Int)
@[reducible] noncomputable def sp (N : Nat) : Spec E := { ps := [.val (.slice 25 (.st 25)), .val (.slice 25 (.st 25))], rs := [.bool], own := true, dp := false, R := R, fn := fun x => m N x.1 x.2.1, res := fun r => (r, ()), out := fun r => ((), (), ()), shut := fun a b => a.1, res_shut := fun _ _ => rfl, out_shut := fun _ _ => rfl }
end laws_eqNodeS
/-! ### laws_eqMessage: loop.example/g00220/laws.eqMessage -/
namespace laws_eqMessage
abbrev R := Bool
noncomputable def m (N : Nat) (a0 : Message) (a1 : Message) : Option R :=
  bif (a0.Kind != a1.Kind) then
    some false
  else
  bif (a0.From != a1.From) then
    some false
  else
  bif (a0.To != a1.To) then
    some false
  else
  bif (a0.Term != a1.Term) then
    some false
  else
  bif (a0.Index != a1.Index) then
    some false
  else
  bif (a0.LogTerm != a1.LogTerm) then
    some false
  else
  bif (a0.Commit != a1.Commit) then
    some false
  else
  ob (laws_eqEntryS.m N a0.Entries a1.Entries) fun y1 =>
  bif (!y1) then
    some false
  else
  bif (!(a0.Ok == a1.Ok)) then
    some false
  else
  some true
@[reducible] noncomputable def sp (N : Nat) : Spec E := { ps := [.val (.st 102), .val (.st 102)], rs := [.bool], own := true, dp := false, R := R, fn := fun x => m N x.1 x.2.1, res := fun r => (r, ()), out := fun r => ((), (), ()), shut := fun a b => a.1, res_shut := fun _ _ => rfl, out_shut := fun _ _ => rfl }
end laws_eqMessage
/-! ### laws_eqMessageS: loop.example/g00220/laws.eqMessageS -/
namespace laws_eqMessageS
abbrev R := Bool
noncomputable def step4 (N : Nat) (a0 : List Message) (a1 : List Message) (rec : Int → Option R) : Int → Option R
  | v2 =>
    bif (decide (v2 < (a0.length : Int))) then
      bif (decide (0 ≤ v2)) then
      bif (decide (v2 < (a0.length : Int))) then
      bif (decide (0 ≤ v2)) then
      bif (decide (v2 < (a1.length : Int))) then
      ob (laws_eqMessage.m N (a0.getD (Int.toNat v2) Message.dz) (a1.getD (Int.toNat v2) Message.dz)) fun y1 =>
      bif (!y1) then
        some false
      else
      rec (w64 (v2 + (1:Int)))
      else none
      else none
      else none
      else none
    else
    some true
noncomputable def lp4 (N : Nat) (a0 : List Message) (a1 : List Message) : Int → Option R :=
  miter (fun rec => step4 N a0 a1 rec) N
noncomputable def m (N : Nat) (a0 : List Message) (a1 : List Message) : Option R :=
  bif ((a0.length : Int) != (a1.length : Int)) then
    some false
  else
  lp4 N a0 a1 (0:Int)
@[reducible] noncomputable def sp (N : Nat) : Spec E := { ps := [.val (.slice 102 (.st 102)), .val (.slice 102 (.st 102))], rs := [.bool], own := true, dp := false, R := R, fn := fun x => m N x.1 x.2.1, res := fun r => (r, ()), out := fun r => ((), (), ()), shut := fun a b => a.1, res_shut := fun _ _ => rfl, out_shut := fun _ _ => rfl }
end laws_eqMessageS
/-! ### laws_eqLead: loop.example/g00220/laws.eqLead -/
namespace laws_eqLead
abbrev R := Bool
noncomputable def m (N : Nat) (a0 : Lead) (a1 : Lead) : Option R :=
  bif (a0.Term != a1.Term) then
    some false
  else
  bif (a0.Id != a1.Id) then
    some false
  else
  ob (laws_eqEntryS.m N a0.Log a1.Log) fun y1 =>
  bif (!y1) then
    some false
  else
  some true
@[reducible] noncomputable def sp (N : Nat) : Spec E := { ps := [.val (.st 128), .val (.st 128)], rs := [.bool], own := true, dp := false, R := R, fn := fun x => m N x.1 x.2.1, res := fun r => (r, ()), out := fun r => ((), (), ()), shut := fun a b => a.1, res_shut := fun _ _ => rfl, out_shut := fun _ _ => rfl }
end laws_eqLead
/-! ### laws_eqLeadS: loop.example/g00220/laws.eqLeadS -/
namespace laws_eqLeadS
abbrev R := Bool
noncomputable def step4 (N : Nat) (a0 : List Lead) (a1 : List Lead) (rec : Int → Option R) : Int → Option R
  | v2 =>
    bif (decide (v2 < (a0.length : Int))) then
      bif (decide (0 ≤ v2)) then
      bif (decide (v2 < (a0.length : Int))) then
      bif (decide (0 ≤ v2)) then
      bif (decide (v2 < (a1.length : Int))) then
      ob (laws_eqLead.m N (a0.getD (Int.toNat v2) Lead.dz) (a1.getD (Int.toNat v2) Lead.dz)) fun y1 =>
      bif (!y1) then
        some false
      else
      rec (w64 (v2 + (1:Int)))
      else none
      else none
      else none
      else none
    else
    some true
noncomputable def lp4 (N : Nat) (a0 : List Lead) (a1 : List Lead) : Int → Option R :=
  miter (fun rec => step4 N a0 a1 rec) N
noncomputable def m (N : Nat) (a0 : List Lead) (a1 : List Lead) : Option R :=
  bif ((a0.length : Int) != (a1.length : Int)) then
    some false
  else
  lp4 N a0 a1 (0:Int)
@[reducible] noncomputable def sp (N : Nat) : Spec E := { ps := [.val (.slice 128 (.st 128)), .val (.slice 128 (.st 128))], rs := [.bool], own := true, dp := false, R := R, fn := fun x => m N x.1 x.2.1, res := fun r => (r, ()), out := fun r => ((), (), ()), shut := fun a b => a.1, res_shut := fun _ _ => rfl, out_shut := fun _ _ => rfl }
end laws_eqLeadS
/-! ### laws_eqDone: loop.example/g00220/laws.eqDone -/
namespace laws_eqDone
abbrev R := Bool
noncomputable def m (N : Nat) (a0 : Done) (a1 : Done) : Option R :=
  bif (a0.Node != a1.Node) then
    some false
  else
  bif (a0.Term != a1.Term) then
    some false
  else
  bif (a0.Index != a1.Index) then
    some false
  else
  ob (laws_eqEntry.m N (Entry.mk a0.Entry.Term a0.Entry.Kind a0.Entry.Data) (Entry.mk a1.Entry.Term a1.Entry.Kind a1.Entry.Data)) fun y1 =>
  bif (!y1) then
    some false
  else
  some true
@[reducible] noncomputable def sp (N : Nat) : Spec E := { ps := [.val (.st 131), .val (.st 131)], rs := [.bool], own := true, dp := false, R := R, fn := fun x => m N x.1 x.2.1, res := fun r => (r, ()), out := fun r => ((), (), ()), shut := fun a b => a.1, res_shut := fun _ _ => rfl, out_shut := fun _ _ => rfl }
end laws_eqDone
/-! ### laws_eqDoneS: loop.example/g00220/laws.eqDoneS -/
namespace laws_eqDoneS
abbrev R := Bool
noncomputable def step4 (N : Nat) (a0 : List Done) (a1 : List Done) (rec : Int → Option R) : Int → Option R
  | v2 =>
    bif (decide (v2 < (a0.length : Int))) then
      bif (decide (0 ≤ v2)) then
      bif (decide (v2 < (a0.length : Int))) then
      bif (decide (0 ≤ v2)) then
      bif (decide (v2 < (a1.length : Int))) then
      ob (laws_eqDone.m N (Done.mk ((a0.getD (Int.toNat v2) Done.dz).Node) ((a0.getD (Int.toNat v2) Done.dz).Term) ((a0.getD (Int.toNat v2) Done.dz).Index) (Entry.mk ((a0.getD (Int.toNat v2) Done.dz).Entry.Term) ((a0.getD (Int.toNat v2) Done.dz).Entry.Kind) ((a0.getD (Int.toNat v2) Done.dz).Entry.Data))) (Done.mk ((a1.getD (Int.toNat v2) Done.dz).Node) ((a1.getD (Int.toNat v2) Done.dz).Term) ((a1.getD (Int.toNat v2) Done.dz).Index) (Entry.mk ((a1.getD (Int.toNat v2) Done.dz).Entry.Term) ((a1.getD (Int.toNat v2) Done.dz).Entry.Kind) ((a1.getD (Int.toNat v2) Done.dz).Entry.Data)))) fun y1 =>
      bif (!y1) then
        some false
      else
      rec (w64 (v2 + (1:Int)))
      else none
      else none
      else none
      else none
    else
    some true
noncomputable def lp4 (N : Nat) (a0 : List Done) (a1 : List Done) : Int → Option R :=
  miter (fun rec => step4 N a0 a1 rec) N
noncomputable def m (N : Nat) (a0 : List Done) (a1 : List Done) : Option R :=
  bif ((a0.length : Int) != (a1.length : Int)) then
    some false
  else
  lp4 N a0 a1 (0:Int)
@[reducible] noncomputable def sp (N : Nat) : Spec E := { ps := [.val (.slice 131 (.st 131)), .val (.slice 131 (.st 131))], rs := [.bool], own := true, dp := false, R := R, fn := fun x => m N x.1 x.2.1, res := fun r => (r, ()), out := fun r => ((), (), ()), shut := fun a b => a.1, res_shut := fun _ _ => rfl, out_shut := fun _ _ => rfl }
end laws_eqDoneS
/-! ### laws_eqGroup: loop.example/g00220/laws.eqGroup -/
namespace laws_eqGroup
abbrev R := Bool
noncomputable def m (N : Nat) (a0 : Group) (a1 : Group) : Option R :=
  ob (laws_eqNodeS.m N a0.Nodes a1.Nodes) fun y1 =>
  bif (!y1) then
    some false
  else
  ob (laws_eqMessageS.m N a0.Wire a1.Wire) fun y2 =>
  bif (!y2) then
    some false
  else
  ob (laws_eqLeadS.m N a0.Leads a1.Leads) fun y3 =>
  bif (!y3) then
    some false
  else
  ob (laws_eqDoneS.m N a0.Dones a1.Dones) fun y4 =>
  bif (!y4) then
    some false
  else
  some true
@[reducible] noncomputable def sp (N : Nat) : Spec E := { ps := [.val (.st 59), .val (.st 59)], rs := [.bool], own := true, dp := false, R := R, fn := fun x => m N x.1 x.2.1, res := fun r => (r, ()), out := fun r => ((), (), ()), shut := fun a b => a.1, res_shut := fun _ _ => rfl, out_shut := fun _ _ => rfl }
end laws_eqGroup
/-! ### laws_FnExactGroupOK: loop.example/g00220/laws.FnExactGroupOK -/
namespace laws_FnExactGroupOK
abbrev R := Bool
noncomputable def m (N : Nat) (a0 : Group) : Option R :=
  ob (laws_szGroup.m N (Group.mk a0.Nodes a0.Wire a0.Leads a0.Dones) (1048576:Int)) fun y1 =>
  bif (decide (y1 < (0:Int))) then
    some true
  else
  ob (laws_toGroup.m N (Group.mk a0.Nodes a0.Wire a0.Leads a0.Dones)) fun y2 =>
  ob (spec_GroupOK.m N y2) fun y3 =>
  ob (laws_toGroup.m N a0) fun y4 =>
  ob (impl_GroupOK.m N y4) fun y5 =>
  bif (!(y5 == y3)) then
    some false
  else
  ob (laws_toGroup.m N a0) fun y6 =>
  ob (laws_eqGroup.m N y4 y6) fun y7 =>
  bif (!y7) then
    some false
  else
  some true
@[reducible] noncomputable def sp (N : Nat) : Spec E := { ps := [.val (.st 70)], rs := [.bool], own := true, dp := false, R := R, fn := fun x => m N x.1, res := fun r => (r, ()), out := fun r => ((), ()), shut := fun a b => a.1, res_shut := fun _ _ => rfl, out_shut := fun _ _ => rfl }
end laws_FnExactGroupOK
/-! ### spec_l12Match: loop.example/g00220/spec.l12Match -/
namespace spec_l12Match
abbrev R := Bool
noncomputable def step2 (N : Nat) (a0 : List Entry) (a1 : List Entry) (lp6 : Int × Int → Option R) (rec : Int → Option R) : Int → Option R
  | v2 =>
    bif (decide (v2 ≥ (0:Int))) then
      bif (decide (0 ≤ v2)) then
      bif (decide (v2 < (a0.length : Int))) then
      bif (decide (0 ≤ v2)) then
      bif (decide (v2 < (a1.length : Int))) then
      bif ((a0.getD (Int.toNat v2) Entry.dz).Term != (a1.getD (Int.toNat v2) Entry.dz).Term) then
        rec (w64 (v2 - (1:Int)))
      else
      lp6 (v2, (0:Int))
      else none
      else none
      else none
      else none
    else
    some true
noncomputable def step6 (N : Nat) (a0 : List Entry) (a1 : List Entry) (rec : (Int × Int) → Option R) : (Int × Int) → Option R
  | (v2, v3) =>
    bif (decide (v3 ≤ v2)) then
      bif (decide (0 ≤ v3)) then
      bif (decide (v3 < (a0.length : Int))) then
      bif (decide (0 ≤ v3)) then
      bif (decide (v3 < (a1.length : Int))) then
      (let w1 : Bool := (!(((a0.getD (Int.toNat v3) Entry.dz).Term == (a1.getD (Int.toNat v3) Entry.dz).Term) && (((a0.getD (Int.toNat v3) Entry.dz).Kind == (a1.getD (Int.toNat v3) Entry.dz).Kind) && (seq ((a0.getD (Int.toNat v3) Entry.dz).Data) ((a1.getD (Int.toNat v3) Entry.dz).Data)))))
      bif w1 then
        some false
      else
      rec (v2, (w64 (v3 + (1:Int)))))
      else none
      else none
      else none
      else none
    else
    some true
noncomputable def lp6 (N : Nat) (a0 : List Entry) (a1 : List Entry) (r2 : Int → Option R) : (Int × Int) → Option R :=
  miter (fun rec => step6 N a0 a1 rec) N
noncomputable def lp2 (N : Nat) (a0 : List Entry) (a1 : List Entry) : Int → Option R :=
  miter (fun rec => step2 N a0 a1 (lp6 N a0 a1 rec) rec) N
noncomputable def m (N : Nat) (a0 : List Entry) (a1 : List Entry) : Option R :=
  lp2 N a0 a1 (w64 ((if (a1.length : Int) < (a0.length : Int) then (a1.length : Int) else (a0.length : Int)) - (1:Int)))
@[reducible] noncomputable def sp (N : Nat) : Spec E := { ps := [.val (.slice 96 (.st 96)), .val (.slice 96 (.st 96))], rs := [.bool], own := true, dp := false, R := R, fn := fun x => m N x.1 x.2.1, res := fun r => (r, ()), out := fun r => ((), (), ()), shut := fun a b => a.1, res_shut := fun _ _ => rfl, out_shut := fun _ _ => rfl }
end spec_l12Match
end Mir.Y
