/- Models of functions. -/
import Derived.Test.YtigmgeablmomnaaOM1
namespace Mir.Y
set_option linter.unusedVariables false
set_option maxRecDepth 10000
open Go Go.Proofs Mir
/-! ### impl_worker_commit: (*loop.example/g00220/impl.worker).commit -/
namespace impl_worker_commit
abbrev R := worker
noncomputable def step2 (N : Nat) (a0 : worker) (rec : Int → Option R) : Int → Option R
  | v14 =>
    bif (decide (v14 > a0.Node.Commit)) then
      ob (impl_Node_termAt.m N (Node.mk a0.Node.Id a0.Node.Term a0.Node.Vote a0.Node.Log a0.Node.Start a0.Node.Role a0.Node.Votes a0.Node.Next a0.Node.Match a0.Node.Commit a0.Node.Elapsed a0.Node.Wait a0.Node.Up) v14) fun y1 =>
      bif (bif true then (y1 == a0.Node.Term) else false) then
        ob (impl_worker_isMost__impl_worker_commit_1_.m N (worker.mk (Node.mk a0.Node.Id a0.Node.Term a0.Node.Vote a0.Node.Log a0.Node.Start a0.Node.Role a0.Node.Votes a0.Node.Next a0.Node.Match a0.Node.Commit a0.Node.Elapsed a0.Node.Wait a0.Node.Up) a0.sent) (worker.mk (Node.mk a0.Node.Id a0.Node.Term a0.Node.Vote a0.Node.Log a0.Node.Start a0.Node.Role a0.Node.Votes a0.Node.Next a0.Node.Match a0.Node.Commit a0.Node.Elapsed a0.Node.Wait a0.Node.Up) a0.sent) v14) fun y2 =>
        bif y2 then
          some (worker.mk (Node.mk a0.Node.Id a0.Node.Term a0.Node.Vote a0.Node.Log a0.Node.Start a0.Node.Role a0.Node.Votes a0.Node.Next a0.Node.Match v14 a0.Node.Elapsed a0.Node.Wait a0.Node.Up) a0.sent)
        else
        rec (w64 (v14 - (1:Int)))
      else
      some (worker.mk (Node.mk a0.Node.Id a0.Node.Term a0.Node.Vote a0.Node.Log a0.Node.Start a0.Node.Role a0.Node.Votes a0.Node.Next a0.Node.Match a0.Node.Commit a0.Node.Elapsed a0.Node.Wait a0.Node.Up) a0.sent)
    else
    some (worker.mk (Node.mk a0.Node.Id a0.Node.Term a0.Node.Vote a0.Node.Log a0.Node.Start a0.Node.Role a0.Node.Votes a0.Node.Next a0.Node.Match a0.Node.Commit a0.Node.Elapsed a0.Node.Wait a0.Node.Up) a0.sent)
noncomputable def lp2 (N : Nat) (a0 : worker) : Int → Option R :=
  miter (fun rec => step2 N a0 rec) N
noncomputable def m (N : Nat) (a0 : worker) : Option R :=
  lp2 N a0 (a0.Node.Log.length : Int)
@[reducible] noncomputable def sp (N : Nat) : Spec E := { ps := [.box true 107 107], rs := [], own := true, dp := true, R := R, fn := fun x => m N x.1, res := fun r => (), out := fun r => (r, ()), shut := fun a b => b.1, res_shut := fun _ _ => rfl, out_shut := fun _ _ => rfl }
end impl_worker_commit
/-! ### impl_worker_others_1: (*loop.example/g00220/impl.worker).others$1 -/
namespace impl_worker_others_1
abbrev R := Bool
noncomputable def m (N : Nat) (a0 : Int) (a1 : worker) : Option R :=
  some (a0 == a1.Node.Id)
@[reducible] noncomputable def sp (N : Nat) : Spec E := { ps := [.val (.int .i64), .cap (.rpp (.st 107))], rs := [.bool], own := true, dp := false, R := R, fn := fun x => m N x.1 x.2.1, res := fun r => (r, ()), out := fun r => ((), (), ()), shut := fun a b => a.1, res_shut := fun _ _ => rfl, out_shut := fun _ _ => rfl }
end impl_worker_others_1
/-! ### slices_IndexFunc_int_int__impl_worker_others_1: slices.IndexFunc[[]int,int] -/
namespace slices_IndexFunc_int_int__impl_worker_others_1
abbrev R := Int
noncomputable def step2 (N : Nat) (a0 : List Int) (a1_0 : worker) (rec : (Int × Int) → Option R) : (Int × Int) → Option R
  | (v1, v2) =>
    bif (decide (v2 < v1)) then
      bif (decide (0 ≤ v2)) then
      bif (decide (v2 < (a0.length : Int))) then
      ob (impl_worker_others_1.m N (a0.getD (Int.toNat v2) (0:Int)) (worker.mk (Node.mk a1_0.Node.Id a1_0.Node.Term a1_0.Node.Vote a1_0.Node.Log a1_0.Node.Start a1_0.Node.Role a1_0.Node.Votes a1_0.Node.Next a1_0.Node.Match a1_0.Node.Commit a1_0.Node.Elapsed a1_0.Node.Wait a1_0.Node.Up) a1_0.sent)) fun y1 =>
      bif y1 then
        some v2
      else
      rec (v1, (w64 (v2 + (1:Int))))
      else none
      else none
    else
    some (-1:Int)
noncomputable def lp2 (N : Nat) (a0 : List Int) (a1_0 : worker) : (Int × Int) → Option R :=
  miter (fun rec => step2 N a0 a1_0 rec) N
noncomputable def m (N : Nat) (a0 : List Int) (a1_0 : worker) : Option R :=
  lp2 N a0 a1_0 ((a0.length : Int), (0:Int))
@[reducible] noncomputable def sp (N : Nat) : Spec E := { ps := [.val (.slice 3 (.int .i64)), .clo 173 [.rpp (.st 107)]], rs := [(.int .i64)], own := true, dp := false, R := R, fn := fun x => m N x.1 x.2.1.1, res := fun r => (r, ()), out := fun r => ((), (), ()), shut := fun a b => a.1, res_shut := fun _ _ => rfl, out_shut := fun _ _ => rfl }
end slices_IndexFunc_int_int__impl_worker_others_1
/-! ### slices_DeleteFunc_int_int__impl_worker_others_1: slices.DeleteFunc[[]int,int] -/
namespace slices_DeleteFunc_int_int__impl_worker_others_1
abbrev R := (List Int)
noncomputable def step5 (N : Nat) (a0 : List Int) (a1_0 : worker) (rec : (Int × Int × (List Int)) → Option R) : (Int × Int × (List Int)) → Option R
  | (v0, v1, v2) =>
    bif (decide (v1 < (v2.length : Int))) then
      bif (decide (0 ≤ v1)) then
      bif (decide (v1 < (v2.length : Int))) then
      ob (impl_worker_others_1.m N (v2.getD (Int.toNat v1) (0:Int)) (worker.mk (Node.mk a1_0.Node.Id a1_0.Node.Term a1_0.Node.Vote a1_0.Node.Log a1_0.Node.Start a1_0.Node.Role a1_0.Node.Votes a1_0.Node.Next a1_0.Node.Match a1_0.Node.Commit a1_0.Node.Elapsed a1_0.Node.Wait a1_0.Node.Up) a1_0.sent)) fun y2 =>
      bif (!y2) then
        bif (decide (0 ≤ v0)) then
        bif (decide (v0 < (v2.length : Int))) then
        rec ((w64 (v0 + (1:Int))), (w64 (v1 + (1:Int))), (v2.set (Int.toNat v0) (v2.getD (Int.toNat v1) (0:Int))))
        else none
        else none
      else
      rec (v0, (w64 (v1 + (1:Int))), v2)
      else none
      else none
    else
    bif (decide (0 ≤ v0)) then
    bif (decide (v0 ≤ (((v2.length) : Nat) : Int))) then
    bif (decide ((Int.toNat v0) + ((v2.length) - (Int.toNat v0)) ≤ v2.length)) then
    (let w3 : List Int := (v2.take (Int.toNat v0) ++ (List.replicate ((v2.length) - (Int.toNat v0)) (0:Int) ++ v2.drop ((Int.toNat v0) + ((v2.length) - (Int.toNat v0)))))
    bif (decide (0 ≤ v0)) then
    bif (decide (v0 ≤ ((w3.length : Nat) : Int))) then
    bif (decide (0 + ((Int.toNat v0) - 0) ≤ w3.length)) then
    some ((w3.drop 0).take ((Int.toNat v0) - 0))
    else none
    else none
    else none)
    else none
    else none
    else none
noncomputable def lp5 (N : Nat) (a0 : List Int) (a1_0 : worker) : (Int × Int × (List Int)) → Option R :=
  miter (fun rec => step5 N a0 a1_0 rec) N
noncomputable def m (N : Nat) (a0 : List Int) (a1_0 : worker) : Option R :=
  ob (slices_IndexFunc_int_int__impl_worker_others_1.m N a0 (worker.mk (Node.mk a1_0.Node.Id a1_0.Node.Term a1_0.Node.Vote a1_0.Node.Log a1_0.Node.Start a1_0.Node.Role a1_0.Node.Votes a1_0.Node.Next a1_0.Node.Match a1_0.Node.Commit a1_0.Node.Elapsed a1_0.Node.Wait a1_0.Node.Up) a1_0.sent)) fun y1 =>
  bif (y1 == (-1:Int)) then
    some a0
  else
  lp5 N a0 a1_0 (y1, (w64 (y1 + (1:Int))), a0)
@[reducible] noncomputable def sp (N : Nat) : Spec E := { ps := [.mov false (.slice 3 (.int .i64)), .clo 173 [.rpp (.st 107)]], rs := [(.slice 3 (.int .i64))], own := true, dp := false, R := R, fn := fun x => m N x.1 x.2.1.1, res := fun r => (r, ()), out := fun r => ((), (), ()), shut := fun a b => a.1, res_shut := fun _ _ => rfl, out_shut := fun _ _ => rfl }
end slices_DeleteFunc_int_int__impl_worker_others_1
/-! ### impl_worker_others_: (*loop.example/g00220/impl.worker).others -/
namespace impl_worker_others_
abbrev R := (List Int)
noncomputable def m (N : Nat) (a0 : worker) : Option R :=
  ob (impl_Node_members.m N (Node.mk a0.Node.Id a0.Node.Term a0.Node.Vote a0.Node.Log a0.Node.Start a0.Node.Role a0.Node.Votes a0.Node.Next a0.Node.Match a0.Node.Commit a0.Node.Elapsed a0.Node.Wait a0.Node.Up)) fun y1 =>
  ob (slices_DeleteFunc_int_int__impl_worker_others_1.m N y1 (worker.mk (Node.mk a0.Node.Id a0.Node.Term a0.Node.Vote a0.Node.Log a0.Node.Start a0.Node.Role a0.Node.Votes a0.Node.Next a0.Node.Match a0.Node.Commit a0.Node.Elapsed a0.Node.Wait a0.Node.Up) a0.sent)) fun y2 =>
  some y2
@[reducible] noncomputable def sp (N : Nat) : Spec E := { ps := [.cap (.rb (.st 107))], rs := [(.slice 3 (.int .i64))], own := true, dp := false, R := R, fn := fun x => m N x.1, res := fun r => (r, ()), out := fun r => ((), ()), shut := fun a b => a.1, res_shut := fun _ _ => rfl, out_shut := fun _ _ => rfl }
end impl_worker_others_
/-! ### impl_worker_send_: (*loop.example/g00220/impl.worker).send -/
namespace impl_worker_send_
abbrev R := worker
noncomputable def m (N : Nat) (a0 : worker) (a1 : Message) : Option R :=
  bif (room (a0.sent.length + ([(Message.mk a1.Kind a0.Node.Id a1.To a0.Node.Term a1.Index a1.LogTerm a1.Commit a1.Entries a1.Ok)]).length) 88) then
  some (worker.mk (Node.mk a0.Node.Id a0.Node.Term a0.Node.Vote a0.Node.Log a0.Node.Start a0.Node.Role a0.Node.Votes a0.Node.Next a0.Node.Match a0.Node.Commit a0.Node.Elapsed a0.Node.Wait a0.Node.Up) (a0.sent ++ [(Message.mk a1.Kind a0.Node.Id a1.To a0.Node.Term a1.Index a1.LogTerm a1.Commit a1.Entries a1.Ok)]))
  else none
@[reducible] noncomputable def sp (N : Nat) : Spec E := { ps := [.box true 107 107, .mov true (.st 102)], rs := [], own := true, dp := true, R := R, fn := fun x => m N x.1 x.2.1, res := fun r => (), out := fun r => (r, (), ()), shut := fun a b => b.1, res_shut := fun _ _ => rfl, out_shut := fun _ _ => rfl }
end impl_worker_send_
/-! ### impl_worker_tell_: (*loop.example/g00220/impl.worker).tell -/
namespace impl_worker_tell_
abbrev R := worker
noncomputable def m (N : Nat) (a0 : worker) (a1 : Int) (a2 : Int) : Option R :=
  bif (decide (0 ≤ a1)) then
  bif (decide (a1 < (a0.Node.Next.length : Int))) then
  ob (impl_Node_termAt.m N (Node.mk a0.Node.Id a0.Node.Term a0.Node.Vote a0.Node.Log a0.Node.Start a0.Node.Role a0.Node.Votes a0.Node.Next a0.Node.Match a0.Node.Commit a0.Node.Elapsed a0.Node.Wait a0.Node.Up) (w64 ((a0.Node.Next.getD (Int.toNat a1) (0:Int)) - (1:Int)))) fun y1 =>
  bif (decide (0 ≤ (w64 ((a0.Node.Next.getD (Int.toNat a1) (0:Int)) - (1:Int))))) then
  bif (decide ((w64 ((a0.Node.Next.getD (Int.toNat a1) (0:Int)) - (1:Int))) ≤ (((a0.Node.Log.length) : Nat) : Int))) then
  bif (decide ((Int.toNat (w64 ((a0.Node.Next.getD (Int.toNat a1) (0:Int)) - (1:Int)))) + ((a0.Node.Log.length) - (Int.toNat (w64 ((a0.Node.Next.getD (Int.toNat a1) (0:Int)) - (1:Int))))) ≤ a0.Node.Log.length)) then
  ob (slices_Clone_impl_Entry_impl_Entry.m N ((a0.Node.Log.drop (Int.toNat (w64 ((a0.Node.Next.getD (Int.toNat a1) (0:Int)) - (1:Int))))).take ((a0.Node.Log.length) - (Int.toNat (w64 ((a0.Node.Next.getD (Int.toNat a1) (0:Int)) - (1:Int))))))) fun y2 =>
  ob (impl_worker_send_.m N (worker.mk (Node.mk a0.Node.Id a0.Node.Term a0.Node.Vote a0.Node.Log a0.Node.Start a0.Node.Role a0.Node.Votes a0.Node.Next a0.Node.Match a0.Node.Commit a0.Node.Elapsed a0.Node.Wait a0.Node.Up) a0.sent) (Message.mk (3:Int) (0:Int) a1 (0:Int) (w64 ((a0.Node.Next.getD (Int.toNat a1) (0:Int)) - (1:Int))) y1 a2 y2 false)) fun y3 =>
  some (worker.mk (Node.mk y3.Node.Id y3.Node.Term y3.Node.Vote y3.Node.Log y3.Node.Start y3.Node.Role y3.Node.Votes y3.Node.Next y3.Node.Match y3.Node.Commit y3.Node.Elapsed y3.Node.Wait y3.Node.Up) y3.sent)
  else none
  else none
  else none
  else none
  else none
@[reducible] noncomputable def sp (N : Nat) : Spec E := { ps := [.box true 107 107, .val (.int .i64), .val (.int .i64)], rs := [], own := true, dp := true, R := R, fn := fun x => m N x.1 x.2.1 x.2.2.1, res := fun r => (), out := fun r => (r, (), (), ()), shut := fun a b => b.1, res_shut := fun _ _ => rfl, out_shut := fun _ _ => rfl }
end impl_worker_tell_
/-! ### impl_worker_tellAll: (*loop.example/g00220/impl.worker).tellAll -/
namespace impl_worker_tellAll
abbrev R := worker
noncomputable def step1 (N : Nat) (a0 : worker) (a1 : Int) (rec : (Int × Int × Int × Int × Int × Int × Int × Int × Int × Bool × (List Entry) × (List Int) × (List Int) × (List Int) × (List Int) × (List Message) × (List Int)) → Option R) : (Int × Int × Int × Int × Int × Int × Int × Int × Int × Bool × (List Entry) × (List Int) × (List Int) × (List Int) × (List Int) × (List Message) × (List Int)) → Option R
  | (v1, v2, v3, v4, v5, v6, v7, v8, v9, v10, v11, v12, v13, v14, v15, v16, v17) =>
    bif (decide (v2 < v1)) then
      bif (decide (0 ≤ v2)) then
      bif (decide (v2 < (v17.length : Int))) then
      ob (impl_worker_tell_.m N (worker.mk (Node.mk v3 v4 v5 v11 v12 v6 v13 v14 v15 v7 v8 v9 v10) v16) (v17.getD (Int.toNat v2) (0:Int)) a1) fun y2 =>
      rec (v1, (w64 (v2 + (1:Int))), y2.Node.Id, y2.Node.Term, y2.Node.Vote, y2.Node.Role, y2.Node.Commit, y2.Node.Elapsed, y2.Node.Wait, y2.Node.Up, y2.Node.Log, y2.Node.Start, y2.Node.Votes, y2.Node.Next, y2.Node.Match, y2.sent, v17)
      else none
      else none
    else
    some (worker.mk (Node.mk v3 v4 v5 v11 v12 v6 v13 v14 v15 v7 v8 v9 v10) v16)
noncomputable def lp1 (N : Nat) (a0 : worker) (a1 : Int) : (Int × Int × Int × Int × Int × Int × Int × Int × Int × Bool × (List Entry) × (List Int) × (List Int) × (List Int) × (List Int) × (List Message) × (List Int)) → Option R :=
  miter (fun rec => step1 N a0 a1 rec) N
noncomputable def m (N : Nat) (a0 : worker) (a1 : Int) : Option R :=
  ob (impl_worker_others_.m N (worker.mk (Node.mk a0.Node.Id a0.Node.Term a0.Node.Vote a0.Node.Log a0.Node.Start a0.Node.Role a0.Node.Votes a0.Node.Next a0.Node.Match a0.Node.Commit a0.Node.Elapsed a0.Node.Wait a0.Node.Up) a0.sent)) fun y1 =>
  lp1 N a0 a1 ((y1.length : Int), (0:Int), a0.Node.Id, a0.Node.Term, a0.Node.Vote, a0.Node.Role, a0.Node.Commit, a0.Node.Elapsed, a0.Node.Wait, a0.Node.Up, a0.Node.Log, a0.Node.Start, a0.Node.Votes, a0.Node.Next, a0.Node.Match, a0.sent, y1)
@[reducible] noncomputable def sp (N : Nat) : Spec E := { ps := [.box true 107 107, .val (.int .i64)], rs := [], own := true, dp := true, R := R, fn := fun x => m N x.1 x.2.1, res := fun r => (), out := fun r => (r, (), ()), shut := fun a b => b.1, res_shut := fun _ _ => rfl, out_shut := fun _ _ => rfl }
end impl_worker_tellAll
/-! ### impl_worker_asNode: (*loop.example/g00220/impl.worker).asNode -/
namespace impl_worker_asNode
abbrev R := Node × (List Message)
noncomputable def m (N : Nat) (a0 : worker) : Option R :=
  ob (impl_copyNode.m N (Node.mk a0.Node.Id a0.Node.Term a0.Node.Vote a0.Node.Log a0.Node.Start a0.Node.Role a0.Node.Votes a0.Node.Next a0.Node.Match a0.Node.Commit a0.Node.Elapsed a0.Node.Wait a0.Node.Up)) fun y1 =>
  some (y1, a0.sent)
@[reducible] noncomputable def sp (N : Nat) : Spec E := { ps := [.movb true 107 107], rs := [(.st 25), (.slice 102 (.st 102))], own := true, dp := true, R := R, fn := fun x => m N x.1, res := fun r => (r.1, r.2, ()), out := fun r => ((), ()), shut := fun a b => (a.1, a.2.1), res_shut := fun _ _ => rfl, out_shut := fun _ _ => rfl }
end impl_worker_asNode
/-! ### impl_propose: loop.example/g00220/impl.propose -/
namespace impl_propose
abbrev R := Node × (List Message) × Int
noncomputable def m (N : Nat) (a0 : Node) (a1 : Int) (a2 : ByteArray) : Option R :=
  bif (!a0.Up) then
    ob (impl_copyNode.m N a0) fun y1 =>
    some (y1, ([] : List Message), (5:Int))
  else
  bif (a0.Role != (2:Int)) then
    ob (impl_copyNode.m N a0) fun y2 =>
    some (y2, ([] : List Message), (14:Int))
  else
  bif ((a0.Log.length : Int) == (60:Int)) then
    ob (impl_copyNode.m N a0) fun y3 =>
    some (y3, ([] : List Message), (7:Int))
  else
  ob (impl_copyNode.m N a0) fun y4 =>
  bif (room (y4.Log.length + ([(Entry.mk a0.Term a1 a2)]).length) 32) then
  ob (impl_worker_commit.m N (worker.mk (Node.mk y4.Id y4.Term y4.Vote (y4.Log ++ [(Entry.mk a0.Term a1 a2)]) y4.Start y4.Role y4.Votes y4.Next y4.Match y4.Commit y4.Elapsed y4.Wait y4.Up) ([] : List Message))) fun y5 =>
  ob (impl_worker_tellAll.m N (worker.mk (Node.mk y5.Node.Id y5.Node.Term y5.Node.Vote y5.Node.Log y5.Node.Start y5.Node.Role y5.Node.Votes y5.Node.Next y5.Node.Match y5.Node.Commit y5.Node.Elapsed y5.Node.Wait y5.Node.Up) y5.sent) y5.Node.Commit) fun y6 =>
  ob (impl_worker_asNode.m N (worker.mk (Node.mk y6.Node.Id y6.Node.Term y6.Node.Vote y6.Node.Log y6.Node.Start y6.Node.Role y6.Node.Votes y6.Node.Next y6.Node.Match y6.Node.Commit y6.Node.Elapsed y6.Node.Wait y6.Node.Up) y6.sent)) fun y7 =>
  some (y7.1, y7.2, (0:Int))
  else none
@[reducible] noncomputable def sp (N : Nat) : Spec E := { ps := [.val (.st 25), .val (.int .i64), .val .str], rs := [(.st 25), (.slice 102 (.st 102)), (.int .i64)], own := true, dp := true, R := R, fn := fun x => m N x.1 x.2.1 x.2.2.1, res := fun r => (r.1, r.2.1, r.2.2, ()), out := fun r => ((), (), (), ()), shut := fun a b => (a.1, a.2.1, a.2.2.1), res_shut := fun _ _ => rfl, out_shut := fun _ _ => rfl }
end impl_propose
/-! ### impl_NodePropose: loop.example/g00220/impl.NodePropose -/
namespace impl_NodePropose
abbrev R := Node × (List Message) × Int
noncomputable def m (N : Nat) (a0 : Node) (a1 : ByteArray) : Option R :=
  ob (impl_isText.m N ([a1])) fun y1 =>
  bif (!y1) then
    some ((Node.mk (0:Int) (0:Int) (0:Int) ([] : List Entry) ([] : List Int) (0:Int) ([] : List Int) ([] : List Int) ([] : List Int) (0:Int) (0:Int) (0:Int) false), ([] : List Message), (2:Int))
  else
  ob (impl_NodeOK.m N (Node.mk a0.Id a0.Term a0.Vote a0.Log a0.Start a0.Role a0.Votes a0.Next a0.Match a0.Commit a0.Elapsed a0.Wait a0.Up)) fun y2 =>
  bif (!y2) then
    some ((Node.mk (0:Int) (0:Int) (0:Int) ([] : List Entry) ([] : List Int) (0:Int) ([] : List Int) ([] : List Int) ([] : List Int) (0:Int) (0:Int) (0:Int) false), ([] : List Message), (1:Int))
  else
  ob (impl_within.m N (a1.size : Int) (1:Int) (100:Int)) fun y3 =>
  bif (bif false then true else (!y3)) then
    some ((Node.mk (0:Int) (0:Int) (0:Int) ([] : List Entry) ([] : List Int) (0:Int) ([] : List Int) ([] : List Int) ([] : List Int) (0:Int) (0:Int) (0:Int) false), ([] : List Message), (1:Int))
  else
  ob (impl_propose.m N (Node.mk a0.Id a0.Term a0.Vote a0.Log a0.Start a0.Role a0.Votes a0.Next a0.Match a0.Commit a0.Elapsed a0.Wait a0.Up) (1:Int) a1) fun y4 =>
  some (y4.1, y4.2.1, y4.2.2)
@[reducible] noncomputable def sp (N : Nat) : Spec E := { ps := [.val (.st 25), .val .str], rs := [(.st 25), (.slice 102 (.st 102)), (.int .i64)], own := true, dp := true, R := R, fn := fun x => m N x.1 x.2.1, res := fun r => (r.1, r.2.1, r.2.2, ()), out := fun r => ((), (), ()), shut := fun a b => (a.1, a.2.1, a.2.2.1), res_shut := fun _ _ => rfl, out_shut := fun _ _ => rfl }
end impl_NodePropose
/-! ### laws_eqEntry: loop.example/g00220/laws.eqEntry -/
namespace laws_eqEntry
abbrev R := Bool
noncomputable def m (N : Nat) (a0 : Entry) (a1 : Entry) : Option R :=
  bif (a0.Term != a1.Term) then
    some false
  else
  bif (a0.Kind != a1.Kind) then
    some false
  else
  bif (!seq a0.Data a1.Data) then
    some false
  else
  some true
@[reducible] noncomputable def sp (N : Nat) : Spec E := { ps := [.val (.st 96), .val (.st 96)], rs := [.bool], own := true, dp := false, R := R, fn := fun x => m N x.1 x.2.1, res := fun r => (r, ()), out := fun r => ((), (), ()), shut := fun a b => a.1, res_shut := fun _ _ => rfl, out_shut := fun _ _ => rfl }
end laws_eqEntry
/-! ### laws_eqEntryS: loop.example/g00220/laws.eqEntryS -/
namespace laws_eqEntryS
abbrev R := Bool
noncomputable def step4 (N : Nat) (a0 : List Entry) (a1 : List Entry) (rec : Int → Option R) : Int → Option R
  | v2 =>
    bif (decide (v2 < (a0.length : Int))) then
      bif (decide (0 ≤ v2)) then
      bif (decide (v2 < (a0.length : Int))) then
      bif (decide (0 ≤ v2)) then
      bif (decide (v2 < (a1.length : Int))) then
      ob (laws_eqEntry.m N (a0.getD (Int.toNat v2) Entry.dz) (a1.getD (Int.toNat v2) Entry.dz)) fun y1 =>
      bif (!y1) then
        some false
      else
      rec (w64 (v2 + (1:Int)))
      else none
      else none
      else none
      else none
    else
    some true
noncomputable def lp4 (N : Nat) (a0 : List Entry) (a1 : List Entry) : Int → Option R :=
  miter (fun rec => step4 N a0 a1 rec) N
noncomputable def m (N : Nat) (a0 : List Entry) (a1 : List Entry) : Option R :=
  bif ((a0.length : Int) != (a1.length : Int)) then
    some false
  else
  lp4 N a0 a1 (0:Int)
@[reducible] noncomputable def sp (N : Nat) : Spec E := { ps := [.val (.slice 96 (.st 96)), .val (.slice 96 (.st 96))], rs := [.bool], own := true, dp := false, R := R, fn := fun x => m N x.1 x.2.1, res := fun r => (r, ()), out := fun r => ((), (), ()), shut := fun a b => a.1, res_shut := fun _ _ => rfl, out_shut := fun _ _ => rfl }
end laws_eqEntryS
/-! ### laws_eqIntS: loop.example/g00220/laws.eqIntS -/
namespace laws_eqIntS
abbrev R := Bool
noncomputable def step4 (N : Nat) (a0 : List Int) (a1 : List Int) (rec : Int → Option R) : Int → Option R
  | v2 =>
    bif (decide (v2 < (a0.length : Int))) then
      bif (decide (0 ≤ v2)) then
      bif (decide (v2 < (a0.length : Int))) then
      bif (decide (0 ≤ v2)) then
      bif (decide (v2 < (a1.length : Int))) then
      bif ((a0.getD (Int.toNat v2) (0:Int)) != (a1.getD (Int.toNat v2) (0:Int))) then
        some false
      else
      rec (w64 (v2 + (1:Int)))
      else none
      else none
      else none
      else none
    else
    some true
noncomputable def lp4 (N : Nat) (a0 : List Int) (a1 : List Int) : Int → Option R :=
  miter (fun rec => step4 N a0 a1 rec) N
noncomputable def m (N : Nat) (a0 : List Int) (a1 : List Int) : Option R :=
  bif ((a0.length : Int) != (a1.length : Int)) then
    some false
  else
  lp4 N a0 a1 (0:Int)
@[reducible] noncomputable def sp (N : Nat) : Spec E := { ps := [.val (.slice 3 (.int .i64)), .val (.slice 3 (.int .i64))], rs := [.bool], own := true, dp := false, R := R, fn := fun x => m N x.1 x.2.1, res := fun r => (r, ()), out := fun r => ((), (), ()), shut := fun a b => a.1, res_shut := fun _ _ => rfl, out_shut := fun _ _ => rfl }
end laws_eqIntS
/-! ### laws_eqNode: loop.example/g00220/laws.eqNode -/
namespace laws_eqNode
abbrev R := Bool
noncomputable def m (N : Nat) (a0 : Node) (a1 : Node) : Option R :=
  bif (a0.Id != a1.Id) then
    some false
  else
  bif (a0.Term != a1.Term) then
    some false
  else
  bif (a0.Vote != a1.Vote) then
    some false
  else
  ob (laws_eqEntryS.m N a0.Log a1.Log) fun y1 =>
  bif (!y1) then
    some false
  else
  ob (laws_eqIntS.m N a0.Start a1.Start) fun y2 =>
  bif (!y2) then
    some false
  else
  bif (a0.Role != a1.Role) then
    some false
  else
  ob (laws_eqIntS.m N a0.Votes a1.Votes) fun y3 =>
  bif (!y3) then
    some false
  else
  ob (laws_eqIntS.m N a0.Next a1.Next) fun y4 =>
  bif (!y4) then
    some false
  else
  ob (laws_eqIntS.m N a0.Match a1.Match) fun y5 =>
  bif (!y5) then
    some false
  else
  bif (a0.Commit != a1.Commit) then
    some false
  else
  bif (a0.Elapsed != a1.Elapsed) then
    some false
  else
  bif (a0.Wait != a1.Wait) then
    some false
  else
  bif (!(a0.Up == a1.Up)) then
    some false
  else
  some true
@[reducible] noncomputable def sp (N : Nat) : Spec E := { ps := [.val (.st 25), .val (.st 25)], rs := [.bool], own := true, dp := false, R := R, fn := fun x => m N x.1 x.2.1, res := fun r => (r, ()), out := fun r => ((), (), ()), shut := fun a b => a.1, res_shut := fun _ _ => rfl, out_shut := fun _ _ => rfl }
end laws_eqNode
/-! ### laws_eqMessage: loop.example/g00220/laws.eqMessage -/
namespace laws_eqMessage
abbrev R := Bool
noncomputable def m (N : Nat) (a0 : Message) (a1 : Message) : Option R :=
  bif (a0.Kind != a1.Kind) then
    some false
  else
  bif (a0.From != a1.From) then
    some false
  else
  bif (a0.To != a1.To) then
    some false
  else
  bif (a0.Term != a1.Term) then
    some false
  else
  bif (a0.Index != a1.Index) then
    some false
  else
  bif (a0.LogTerm != a1.LogTerm) then
    some false
  else
  bif (a0.Commit != a1.Commit) then
    some false
  else
  ob (laws_eqEntryS.m N a0.Entries a1.Entries) fun y1 =>
  bif (!y1) then
    some false
  else
  bif (!(a0.Ok == a1.Ok)) then
    some false
  else
  some true
@[reducible] noncomputable def sp (N : Nat) : Spec E := { ps := [.val (.st 102), .val (.st 102)], rs := [.bool], own := true, dp := false, R := R, fn := fun x => m N x.1 x.2.1, res := fun r => (r, ()), out := fun r => ((), (), ()), shut := fun a b => a.1, res_shut := fun _ _ => rfl, out_shut := fun _ _ => rfl }
end laws_eqMessage
/-! ### laws_eqMessageS: loop.example/g00220/laws.eqMessageS -/
namespace laws_eqMessageS
abbrev R := Bool
noncomputable def step4 (N : Nat) (a0 : List Message) (a1 : List Message) (rec : Int → Option R) : Int → Option R
  | v2 =>
    bif (decide (v2 < (a0.length : Int))) then
      bif (decide (0 ≤ v2)) then
      bif (decide (v2 < (a0.length : Int))) then
      bif (decide (0 ≤ v2)) then
      bif (decide (v2 < (a1.length : Int))) then
      ob (laws_eqMessage.m N (a0.getD (Int.toNat v2) Message.dz) (a1.getD (Int.toNat v2) Message.dz)) fun y1 =>
      bif (!y1) then
        some false
      else
      rec (w64 (v2 + (1:Int)))
      else none
      else none
      else none
      else none
    else
    some true
noncomputable def lp4 (N : Nat) (a0 : List Message) (a1 : List Message) : Int → Option R :=
  miter (fun rec => step4 N a0 a1 rec) N
noncomputable def m (N : Nat) (a0 : List Message) (a1 : List Message) : Option R :=
  bif ((a0.length : Int) != (a1.length : Int)) then
    some false
  else
  lp4 N a0 a1 (0:Int)
@[reducible] noncomputable def sp (N : Nat) : Spec E := { ps := [.val (.slice 102 (.st 102)), .val (.slice 102 (.st 102))], rs := [.bool], own := true, dp := false, R := R, fn := fun x => m N x.1 x.2.1, res := fun r => (r, ()), out := fun r => ((), (), ()), shut := fun a b => a.1, res_shut := fun _ _ => rfl, out_shut := fun _ _ => rfl }
end laws_eqMessageS
/-! ### laws_markText: loop.example/g00220/laws.markText -/
namespace laws_markText
abbrev R := ByteArray
noncomputable def step4 (N : Nat) (a0 : Int) (rec : (Int × ByteArray) → Option R) : (Int × ByteArray) → Option R
  | (v0, v1) =>
    bif (decide (v0 > (0:Int))) then
      bif (!decide ((10:Int) = 0)) then
      bif (decide ((strOf ([(wu8 (w64 ((48:Int) + (Int.tmod v0 (10:Int)))))])).size + v1.size ≤ 9223372036854775807)) then
      bif (!decide ((10:Int) = 0)) then
      rec ((w64 (Int.tdiv v0 (10:Int))), ((strOf ([(wu8 (w64 ((48:Int) + (Int.tmod v0 (10:Int)))))])) ++ v1))
      else none
      else none
      else none
    else
    bif (decide ((⟨#[109]⟩ : ByteArray).size + v1.size ≤ 9223372036854775807)) then
    some ((⟨#[109]⟩ : ByteArray) ++ v1)
    else none
noncomputable def lp4 (N : Nat) (a0 : Int) : (Int × ByteArray) → Option R :=
  miter (fun rec => step4 N a0 rec) N
noncomputable def m (N : Nat) (a0 : Int) : Option R :=
  bif (decide (a0 ≤ (0:Int))) then
    some (⟨#[109, 48]⟩ : ByteArray)
  else
  lp4 N a0 (a0, ByteArray.empty)
@[reducible] noncomputable def sp (N : Nat) : Spec E := { ps := [.val (.int .i64)], rs := [.str], own := true, dp := false, R := R, fn := fun x => m N x.1, res := fun r => (r, ()), out := fun r => ((), ()), shut := fun a b => a.1, res_shut := fun _ _ => rfl, out_shut := fun _ _ => rfl }
end laws_markText
/-! ### laws_markEntryS: loop.example/g00220/laws.markEntryS -/
namespace laws_markEntryS
abbrev R := Int × (List Entry)
noncomputable def step2 (N : Nat) (a0 : List Entry) (a1 : Int) (rec : (Int × Int × (List Entry)) → Option R) : (Int × Int × (List Entry)) → Option R
  | (v0, v1, v2) =>
    bif (decide (v1 < (v2.length : Int))) then
      bif (decide (0 ≤ v1)) then
      bif (decide (v1 < (v2.length : Int))) then
      bif (decide (0 ≤ v1)) then
      bif (decide (v1 < ((v2.set (Int.toNat v1) (Entry.mk v0 ((v2.getD (Int.toNat v1) Entry.dz).Kind) ((v2.getD (Int.toNat v1) Entry.dz).Data))).length : Int))) then
      (let w1 : Entry := ((v2.set (Int.toNat v1) (Entry.mk v0 ((v2.getD (Int.toNat v1) Entry.dz).Kind) ((v2.getD (Int.toNat v1) Entry.dz).Data))).getD (Int.toNat v1) Entry.dz)
      (let w2 : List Entry := ((v2.set (Int.toNat v1) (Entry.mk v0 ((v2.getD (Int.toNat v1) Entry.dz).Kind) ((v2.getD (Int.toNat v1) Entry.dz).Data))).set (Int.toNat v1) (Entry.mk w1.Term (w64 (v0 + (1:Int))) w1.Data))
      ob (laws_markText.m N (w64 ((w64 (v0 + (1:Int))) + (1:Int)))) fun y3 =>
      bif (decide (0 ≤ v1)) then
      bif (decide (v1 < (w2.length : Int))) then
      rec ((w64 ((w64 ((w64 (v0 + (1:Int))) + (1:Int))) + (1:Int))), (w64 (v1 + (1:Int))), (w2.set (Int.toNat v1) (Entry.mk ((w2.getD (Int.toNat v1) Entry.dz).Term) ((w2.getD (Int.toNat v1) Entry.dz).Kind) y3)))
      else none
      else none))
      else none
      else none
      else none
      else none
    else
    some (v0, v2)
noncomputable def lp2 (N : Nat) (a0 : List Entry) (a1 : Int) : (Int × Int × (List Entry)) → Option R :=
  miter (fun rec => step2 N a0 a1 rec) N
noncomputable def m (N : Nat) (a0 : List Entry) (a1 : Int) : Option R :=
  lp2 N a0 a1 (a1, (0:Int), a0)
@[reducible] noncomputable def sp (N : Nat) : Spec E := { ps := [.mut false (.slice 96 (.st 96)), .val (.int .i64)], rs := [(.int .i64)], own := true, dp := false, R := R, fn := fun x => m N x.1 x.2.1, res := fun r => (r.1, ()), out := fun r => (r.2, (), ()), shut := fun a b => (a.1, b.1), res_shut := fun _ _ => rfl, out_shut := fun _ _ => rfl }
end laws_markEntryS
/-! ### laws_markIntS: loop.example/g00220/laws.markIntS -/
namespace laws_markIntS
abbrev R := Int × (List Int)
noncomputable def step2 (N : Nat) (a0 : List Int) (a1 : Int) (rec : (Int × Int × (List Int)) → Option R) : (Int × Int × (List Int)) → Option R
  | (v0, v1, v2) =>
    bif (decide (v1 < (v2.length : Int))) then
      bif (decide (0 ≤ v1)) then
      bif (decide (v1 < (v2.length : Int))) then
      rec ((w64 (v0 + (1:Int))), (w64 (v1 + (1:Int))), (v2.set (Int.toNat v1) v0))
      else none
      else none
    else
    some (v0, v2)
noncomputable def lp2 (N : Nat) (a0 : List Int) (a1 : Int) : (Int × Int × (List Int)) → Option R :=
  miter (fun rec => step2 N a0 a1 rec) N
noncomputable def m (N : Nat) (a0 : List Int) (a1 : Int) : Option R :=
  lp2 N a0 a1 (a1, (0:Int), a0)
@[reducible] noncomputable def sp (N : Nat) : Spec E := { ps := [.mut false (.slice 3 (.int .i64)), .val (.int .i64)], rs := [(.int .i64)], own := true, dp := false, R := R, fn := fun x => m N x.1 x.2.1, res := fun r => (r.1, ()), out := fun r => (r.2, (), ()), shut := fun a b => (a.1, b.1), res_shut := fun _ _ => rfl, out_shut := fun _ _ => rfl }
end laws_markIntS
/-! ### laws_markNode: loop.example/g00220/laws.markNode -/
namespace laws_markNode
abbrev R := Int × Node
noncomputable def m (N : Nat) (a0 : Node) (a1 : Int) : Option R :=
  ob (laws_markEntryS.m N a0.Log a1) fun y1 =>
  ob (laws_markIntS.m N a0.Start y1.1) fun y2 =>
  ob (laws_markIntS.m N a0.Votes y2.1) fun y3 =>
  ob (laws_markIntS.m N a0.Next y3.1) fun y4 =>
  ob (laws_markIntS.m N a0.Match y4.1) fun y5 =>
  some (y5.1, (Node.mk a0.Id a0.Term a0.Vote y1.2 y2.2 a0.Role y3.2 y4.2 y5.2 a0.Commit a0.Elapsed a0.Wait a0.Up))
@[reducible] noncomputable def sp (N : Nat) : Spec E := { ps := [.mut false (.st 25), .val (.int .i64)], rs := [(.int .i64)], own := true, dp := false, R := R, fn := fun x => m N x.1 x.2.1, res := fun r => (r.1, ()), out := fun r => (r.2, (), ()), shut := fun a b => (a.1, b.1), res_shut := fun _ _ => rfl, out_shut := fun _ _ => rfl }
end laws_markNode
/-! ### laws_markMessageS: loop.example/g00220/laws.markMessageS -/
namespace laws_markMessageS
abbrev R := Int × (List Message)
noncomputable def step2 (N : Nat) (a0 : List Message) (a1 : Int) (rec : (Int × Int × (List Message)) → Option R) : (Int × Int × (List Message)) → Option R
  | (v0, v1, v2) =>
    bif (decide (v1 < (v2.length : Int))) then
      bif (decide (0 ≤ v1)) then
      bif (decide (v1 < (v2.length : Int))) then
      (let w1 : List Message := (v2.set (Int.toNat v1) (Message.mk v0 ((v2.getD (Int.toNat v1) Message.dz).From) ((v2.getD (Int.toNat v1) Message.dz).To) ((v2.getD (Int.toNat v1) Message.dz).Term) ((v2.getD (Int.toNat v1) Message.dz).Index) ((v2.getD (Int.toNat v1) Message.dz).LogTerm) ((v2.getD (Int.toNat v1) Message.dz).Commit) ((v2.getD (Int.toNat v1) Message.dz).Entries) ((v2.getD (Int.toNat v1) Message.dz).Ok)))
      bif (decide (0 ≤ v1)) then
      bif (decide (v1 < (w1.length : Int))) then
      (let w2 : List Message := (w1.set (Int.toNat v1) (Message.mk ((w1.getD (Int.toNat v1) Message.dz).Kind) (w64 (v0 + (1:Int))) ((w1.getD (Int.toNat v1) Message.dz).To) ((w1.getD (Int.toNat v1) Message.dz).Term) ((w1.getD (Int.toNat v1) Message.dz).Index) ((w1.getD (Int.toNat v1) Message.dz).LogTerm) ((w1.getD (Int.toNat v1) Message.dz).Commit) ((w1.getD (Int.toNat v1) Message.dz).Entries) ((w1.getD (Int.toNat v1) Message.dz).Ok)))
      bif (decide (0 ≤ v1)) then
      bif (decide (v1 < (w2.length : Int))) then
      (let w3 : List Message := (w2.set (Int.toNat v1) (Message.mk ((w2.getD (Int.toNat v1) Message.dz).Kind) ((w2.getD (Int.toNat v1) Message.dz).From) (w64 ((w64 (v0 + (1:Int))) + (1:Int))) ((w2.getD (Int.toNat v1) Message.dz).Term) ((w2.getD (Int.toNat v1) Message.dz).Index) ((w2.getD (Int.toNat v1) Message.dz).LogTerm) ((w2.getD (Int.toNat v1) Message.dz).Commit) ((w2.getD (Int.toNat v1) Message.dz).Entries) ((w2.getD (Int.toNat v1) Message.dz).Ok)))
      bif (decide (0 ≤ v1)) then
      bif (decide (v1 < (w3.length : Int))) then
      (let w4 : List Message := (w3.set (Int.toNat v1) (Message.mk ((w3.getD (Int.toNat v1) Message.dz).Kind) ((w3.getD (Int.toNat v1) Message.dz).From) ((w3.getD (Int.toNat v1) Message.dz).To) (w64 ((w64 ((w64 (v0 + (1:Int))) + (1:Int))) + (1:Int))) ((w3.getD (Int.toNat v1) Message.dz).Index) ((w3.getD (Int.toNat v1) Message.dz).LogTerm) ((w3.getD (Int.toNat v1) Message.dz).Commit) ((w3.getD (Int.toNat v1) Message.dz).Entries) ((w3.getD (Int.toNat v1) Message.dz).Ok)))
      bif (decide (0 ≤ v1)) then
      bif (decide (v1 < (w4.length : Int))) then
      (let w5 : List Message := (w4.set (Int.toNat v1) (Message.mk ((w4.getD (Int.toNat v1) Message.dz).Kind) ((w4.getD (Int.toNat v1) Message.dz).From) ((w4.getD (Int.toNat v1) Message.dz).To) ((w4.getD (Int.toNat v1) Message.dz).Term) (w64 ((w64 ((w64 ((w64 (v0 + (1:Int))) + (1:Int))) + (1:Int))) + (1:Int))) ((w4.getD (Int.toNat v1) Message.dz).LogTerm) ((w4.getD (Int.toNat v1) Message.dz).Commit) ((w4.getD (Int.toNat v1) Message.dz).Entries) ((w4.getD (Int.toNat v1) Message.dz).Ok)))
      bif (decide (0 ≤ v1)) then
      bif (decide (v1 < (w5.length : Int))) then
      (let w6 : List Message := (w5.set (Int.toNat v1) (Message.mk ((w5.getD (Int.toNat v1) Message.dz).Kind) ((w5.getD (Int.toNat v1) Message.dz).From) ((w5.getD (Int.toNat v1) Message.dz).To) ((w5.getD (Int.toNat v1) Message.dz).Term) ((w5.getD (Int.toNat v1) Message.dz).Index) (w64 ((w64 ((w64 ((w64 ((w64 (v0 + (1:Int))) + (1:Int))) + (1:Int))) + (1:Int))) + (1:Int))) ((w5.getD (Int.toNat v1) Message.dz).Commit) ((w5.getD (Int.toNat v1) Message.dz).Entries) ((w5.getD (Int.toNat v1) Message.dz).Ok)))
      bif (decide (0 ≤ v1)) then
      bif (decide (v1 < (w6.length : Int))) then
      (let w7 : List Message := (w6.set (Int.toNat v1) (Message.mk ((w6.getD (Int.toNat v1) Message.dz).Kind) ((w6.getD (Int.toNat v1) Message.dz).From) ((w6.getD (Int.toNat v1) Message.dz).To) ((w6.getD (Int.toNat v1) Message.dz).Term) ((w6.getD (Int.toNat v1) Message.dz).Index) ((w6.getD (Int.toNat v1) Message.dz).LogTerm) (w64 ((w64 ((w64 ((w64 ((w64 ((w64 (v0 + (1:Int))) + (1:Int))) + (1:Int))) + (1:Int))) + (1:Int))) + (1:Int))) ((w6.getD (Int.toNat v1) Message.dz).Entries) ((w6.getD (Int.toNat v1) Message.dz).Ok)))
      bif (decide (0 ≤ v1)) then
      bif (decide (v1 < (w7.length : Int))) then
      bif (decide ((Int.toNat v1) < w7.length)) then
      ob (laws_markEntryS.m N ((w7.getD (Int.toNat v1) Message.dz).Entries) (w64 ((w64 ((w64 ((w64 ((w64 ((w64 ((w64 (v0 + (1:Int))) + (1:Int))) + (1:Int))) + (1:Int))) + (1:Int))) + (1:Int))) + (1:Int)))) fun y8 =>
      (let w9 : List Message := (w7.set (Int.toNat v1) (Message.mk ((w7.getD (Int.toNat v1) Message.dz).Kind) ((w7.getD (Int.toNat v1) Message.dz).From) ((w7.getD (Int.toNat v1) Message.dz).To) ((w7.getD (Int.toNat v1) Message.dz).Term) ((w7.getD (Int.toNat v1) Message.dz).Index) ((w7.getD (Int.toNat v1) Message.dz).LogTerm) ((w7.getD (Int.toNat v1) Message.dz).Commit) y8.2 ((w7.getD (Int.toNat v1) Message.dz).Ok)))
      bif (!decide ((3:Int) = 0)) then
      bif (decide (0 ≤ v1)) then
      bif (decide (v1 < (w9.length : Int))) then
      (let w10 : List Message := (w9.set (Int.toNat v1) (Message.mk ((w9.getD (Int.toNat v1) Message.dz).Kind) ((w9.getD (Int.toNat v1) Message.dz).From) ((w9.getD (Int.toNat v1) Message.dz).To) ((w9.getD (Int.toNat v1) Message.dz).Term) ((w9.getD (Int.toNat v1) Message.dz).Index) ((w9.getD (Int.toNat v1) Message.dz).LogTerm) ((w9.getD (Int.toNat v1) Message.dz).Commit) ((w9.getD (Int.toNat v1) Message.dz).Entries) ((Int.tmod y8.1 (3:Int)) == (0:Int))))
      rec ((w64 (y8.1 + (1:Int))), (w64 (v1 + (1:Int))), w10))
      else none
      else none
      else none)
      else none
      else none
      else none)
      else none
      else none)
      else none
      else none)
      else none
      else none)
      else none
      else none)
      else none
      else none)
      else none
      else none)
      else none
      else none
    else
    some (v0, v2)
noncomputable def lp2 (N : Nat) (a0 : List Message) (a1 : Int) : (Int × Int × (List Message)) → Option R :=
  miter (fun rec => step2 N a0 a1 rec) N
noncomputable def m (N : Nat) (a0 : List Message) (a1 : Int) : Option R :=
  lp2 N a0 a1 (a1, (0:Int), a0)
@[reducible] noncomputable def sp (N : Nat) : Spec E := { ps := [.mut true (.slice 102 (.st 102)), .val (.int .i64)], rs := [(.int .i64)], own := true, dp := true, R := R, fn := fun x => m N x.1 x.2.1, res := fun r => (r.1, ()), out := fun r => (r.2, (), ()), shut := fun a b => (a.1, b.1), res_shut := fun _ _ => rfl, out_shut := fun _ _ => rfl }
end laws_markMessageS
/-! ### laws_heldEntryS: loop.example/g00220/laws.heldEntryS -/
namespace laws_heldEntryS
abbrev R := Int
noncomputable def step2 (N : Nat) (a0 : List Entry) (a1 : Int) (rec : (Int × Int) → Option R) : (Int × Int) → Option R
  | (v1, v2) =>
    bif (decide (v2 < (a0.length : Int))) then
      bif (decide (0 ≤ v2)) then
      bif (decide (v2 < (a0.length : Int))) then
      bif ((a0.getD (Int.toNat v2) Entry.dz).Term != v1) then
        some (-1:Int)
      else
      bif (decide (0 ≤ v2)) then
      bif (decide (v2 < (a0.length : Int))) then
      bif ((a0.getD (Int.toNat v2) Entry.dz).Kind != (w64 (v1 + (1:Int)))) then
        some (-1:Int)
      else
      bif (decide (0 ≤ v2)) then
      bif (decide (v2 < (a0.length : Int))) then
      ob (laws_markText.m N (w64 ((w64 (v1 + (1:Int))) + (1:Int)))) fun y1 =>
      bif (!seq ((a0.getD (Int.toNat v2) Entry.dz).Data) y1) then
        some (-1:Int)
      else
      rec ((w64 ((w64 ((w64 (v1 + (1:Int))) + (1:Int))) + (1:Int))), (w64 (v2 + (1:Int))))
      else none
      else none
      else none
      else none
      else none
      else none
    else
    some v1
noncomputable def lp2 (N : Nat) (a0 : List Entry) (a1 : Int) : (Int × Int) → Option R :=
  miter (fun rec => step2 N a0 a1 rec) N
noncomputable def m (N : Nat) (a0 : List Entry) (a1 : Int) : Option R :=
  lp2 N a0 a1 (a1, (0:Int))
@[reducible] noncomputable def sp (N : Nat) : Spec E := { ps := [.val (.slice 96 (.st 96)), .val (.int .i64)], rs := [(.int .i64)], own := true, dp := false, R := R, fn := fun x => m N x.1 x.2.1, res := fun r => (r, ()), out := fun r => ((), (), ()), shut := fun a b => a.1, res_shut := fun _ _ => rfl, out_shut := fun _ _ => rfl }
end laws_heldEntryS
/-! ### laws_heldIntS: loop.example/g00220/laws.heldIntS -/
namespace laws_heldIntS
abbrev R := Int
noncomputable def step2 (N : Nat) (a0 : List Int) (a1 : Int) (rec : (Int × Int) → Option R) : (Int × Int) → Option R
  | (v1, v2) =>
    bif (decide (v2 < (a0.length : Int))) then
      bif (decide (0 ≤ v2)) then
      bif (decide (v2 < (a0.length : Int))) then
      bif ((a0.getD (Int.toNat v2) (0:Int)) != v1) then
        some (-1:Int)
      else
      rec ((w64 (v1 + (1:Int))), (w64 (v2 + (1:Int))))
      else none
      else none
    else
    some v1
noncomputable def lp2 (N : Nat) (a0 : List Int) (a1 : Int) : (Int × Int) → Option R :=
  miter (fun rec => step2 N a0 a1 rec) N
noncomputable def m (N : Nat) (a0 : List Int) (a1 : Int) : Option R :=
  lp2 N a0 a1 (a1, (0:Int))
@[reducible] noncomputable def sp (N : Nat) : Spec E := { ps := [.val (.slice 3 (.int .i64)), .val (.int .i64)], rs := [(.int .i64)], own := true, dp := false, R := R, fn := fun x => m N x.1 x.2.1, res := fun r => (r, ()), out := fun r => ((), (), ()), shut := fun a b => a.1, res_shut := fun _ _ => rfl, out_shut := fun _ _ => rfl }
end laws_heldIntS
/-! ### laws_heldNode: loop.example/g00220/laws.heldNode -/
namespace laws_heldNode
abbrev R := Int
noncomputable def m (N : Nat) (a0 : Node) (a1 : Int) : Option R :=
  ob (laws_heldEntryS.m N a0.Log a1) fun y1 =>
  bif (decide (y1 < (0:Int))) then
    some (-1:Int)
  else
  ob (laws_heldIntS.m N a0.Start y1) fun y2 =>
  bif (decide (y2 < (0:Int))) then
    some (-1:Int)
  else
  ob (laws_heldIntS.m N a0.Votes y2) fun y3 =>
  bif (decide (y3 < (0:Int))) then
    some (-1:Int)
  else
  ob (laws_heldIntS.m N a0.Next y3) fun y4 =>
  bif (decide (y4 < (0:Int))) then
    some (-1:Int)
  else
  ob (laws_heldIntS.m N a0.Match y4) fun y5 =>
  bif (decide (y5 < (0:Int))) then
    some (-1:Int)
  else
  some y5
@[reducible] noncomputable def sp (N : Nat) : Spec E := { ps := [.val (.st 25), .val (.int .i64)], rs := [(.int .i64)], own := true, dp := false, R := R, fn := fun x => m N x.1 x.2.1, res := fun r => (r, ()), out := fun r => ((), (), ()), shut := fun a b => a.1, res_shut := fun _ _ => rfl, out_shut := fun _ _ => rfl }
end laws_heldNode
/-! ### laws_heldMessageS: loop.example/g00220/laws.heldMessageS -/
namespace laws_heldMessageS
abbrev R := Int
noncomputable def step2 (N : Nat) (a0 : List Message) (a1 : Int) (rec : (Int × Int) → Option R) : (Int × Int) → Option R
  | (v1, v2) =>
    bif (decide (v2 < (a0.length : Int))) then
      bif (decide (0 ≤ v2)) then
      bif (decide (v2 < (a0.length : Int))) then
      bif ((a0.getD (Int.toNat v2) Message.dz).Kind != v1) then
        some (-1:Int)
      else
      bif (decide (0 ≤ v2)) then
      bif (decide (v2 < (a0.length : Int))) then
      bif ((a0.getD (Int.toNat v2) Message.dz).From != (w64 (v1 + (1:Int)))) then
        some (-1:Int)
      else
      bif (decide (0 ≤ v2)) then
      bif (decide (v2 < (a0.length : Int))) then
      bif ((a0.getD (Int.toNat v2) Message.dz).To != (w64 ((w64 (v1 + (1:Int))) + (1:Int)))) then
        some (-1:Int)
      else
      bif (decide (0 ≤ v2)) then
      bif (decide (v2 < (a0.length : Int))) then
      bif ((a0.getD (Int.toNat v2) Message.dz).Term != (w64 ((w64 ((w64 (v1 + (1:Int))) + (1:Int))) + (1:Int)))) then
        some (-1:Int)
      else
      bif (decide (0 ≤ v2)) then
      bif (decide (v2 < (a0.length : Int))) then
      bif ((a0.getD (Int.toNat v2) Message.dz).Index != (w64 ((w64 ((w64 ((w64 (v1 + (1:Int))) + (1:Int))) + (1:Int))) + (1:Int)))) then
        some (-1:Int)
      else
      bif (decide (0 ≤ v2)) then
      bif (decide (v2 < (a0.length : Int))) then
      (let w1 : Bool := ((a0.getD (Int.toNat v2) Message.dz).LogTerm != (w64 ((w64 ((w64 ((w64 ((w64 (v1 + (1:Int))) + (1:Int))) + (1:Int))) + (1:Int))) + (1:Int))))
      bif w1 then
        some (-1:Int)
      else
      bif (decide (0 ≤ v2)) then
      bif (decide (v2 < (a0.length : Int))) then
      (let w2 : Bool := ((a0.getD (Int.toNat v2) Message.dz).Commit != (w64 ((w64 ((w64 ((w64 ((w64 ((w64 (v1 + (1:Int))) + (1:Int))) + (1:Int))) + (1:Int))) + (1:Int))) + (1:Int))))
      bif w2 then
        some (-1:Int)
      else
      bif (decide (0 ≤ v2)) then
      bif (decide (v2 < (a0.length : Int))) then
      ob (laws_heldEntryS.m N ((a0.getD (Int.toNat v2) Message.dz).Entries) (w64 ((w64 ((w64 ((w64 ((w64 ((w64 ((w64 (v1 + (1:Int))) + (1:Int))) + (1:Int))) + (1:Int))) + (1:Int))) + (1:Int))) + (1:Int)))) fun y3 =>
      bif (decide (y3 < (0:Int))) then
        some (-1:Int)
      else
      bif (decide (0 ≤ v2)) then
      bif (decide (v2 < (a0.length : Int))) then
      bif (!decide ((3:Int) = 0)) then
      bif (!((a0.getD (Int.toNat v2) Message.dz).Ok == ((Int.tmod y3 (3:Int)) == (0:Int)))) then
        some (-1:Int)
      else
      rec ((w64 (y3 + (1:Int))), (w64 (v2 + (1:Int))))
      else none
      else none
      else none
      else none
      else none)
      else none
      else none)
      else none
      else none
      else none
      else none
      else none
      else none
      else none
      else none
      else none
      else none
      else none
      else none
    else
    some v1
noncomputable def lp2 (N : Nat) (a0 : List Message) (a1 : Int) : (Int × Int) → Option R :=
  miter (fun rec => step2 N a0 a1 rec) N
noncomputable def m (N : Nat) (a0 : List Message) (a1 : Int) : Option R :=
  lp2 N a0 a1 (a1, (0:Int))
@[reducible] noncomputable def sp (N : Nat) : Spec E := { ps := [.val (.slice 102 (.st 102)), .val (.int .i64)], rs := [(.int .i64)], own := true, dp := false, R := R, fn := fun x => m N x.1 x.2.1, res := fun r => (r, ()), out := fun r => ((), (), ()), shut := fun a b => a.1, res_shut := fun _ _ => rfl, out_shut := fun _ _ => rfl }
end laws_heldMessageS
/-! ### laws_FnExactNodePropose: loop.example/g00220/laws.FnExactNodePropose -/
namespace laws_FnExactNodePropose
abbrev R := Bool
noncomputable def m (N : Nat) (a0 : Node) (a1 : ByteArray) : Option R :=
  bif (decide ((a1.size : Int) > (1048576:Int))) then
    some true
  else
  ob (laws_szNode.m N (Node.mk a0.Id a0.Term a0.Vote a0.Log a0.Start a0.Role a0.Votes a0.Next a0.Match a0.Commit a0.Elapsed a0.Wait a0.Up) (1048576:Int)) fun y1 =>
  bif (decide (y1 < (0:Int))) then
    some true
  else
  ob (laws_toNode.m N (Node.mk a0.Id a0.Term a0.Vote a0.Log a0.Start a0.Role a0.Votes a0.Next a0.Match a0.Commit a0.Elapsed a0.Wait a0.Up)) fun y2 =>
  ob (spec_NodePropose.m N (Node.mk y2.Id y2.Term y2.Vote y2.Log y2.Start y2.Role y2.Votes y2.Next y2.Match y2.Commit y2.Elapsed y2.Wait y2.Up) a1) fun y3 =>
  ob (laws_toNode.m N a0) fun y4 =>
  ob (impl_NodePropose.m N y4 a1) fun y5 =>
  ob (laws_eqNode.m N y5.1 y3.1) fun y6 =>
  bif (!y6) then
    some false
  else
  ob (laws_eqMessageS.m N y5.2.1 y3.2.1) fun y7 =>
  bif (bif false then true else (!y7)) then
    some false
  else
  bif (bif false then true else (y5.2.2 != y3.2.2)) then
    some false
  else
  ob (laws_toNode.m N (Node.mk a0.Id a0.Term a0.Vote a0.Log a0.Start a0.Role a0.Votes a0.Next a0.Match a0.Commit a0.Elapsed a0.Wait a0.Up)) fun y8 =>
  ob (laws_eqNode.m N y4 y8) fun y9 =>
  bif (!y9) then
    some false
  else
  ob (laws_markNode.m N y4 (1:Int)) fun y10 =>
  bif (decide (y10.1 < (0:Int))) then
    some false
  else
  ob (laws_eqNode.m N y5.1 y3.1) fun y11 =>
  bif (bif false then true else (!y11)) then
    some false
  else
  ob (laws_eqMessageS.m N y5.2.1 y3.2.1) fun y12 =>
  bif (bif false then true else (!y12)) then
    some false
  else
  bif (bif false then true else (y5.2.2 != y3.2.2)) then
    some false
  else
  ob (laws_markNode.m N y5.1 (1:Int)) fun y13 =>
  ob (laws_markMessageS.m N y5.2.1 y13.1) fun y14 =>
  ob (laws_heldNode.m N (Node.mk y5.1.Id y5.1.Term y5.1.Vote y13.2.Log y13.2.Start y5.1.Role y13.2.Votes y13.2.Next y13.2.Match y5.1.Commit y5.1.Elapsed y5.1.Wait y5.1.Up) (1:Int)) fun y15 =>
  bif (decide (y15 < (0:Int))) then
    some false
  else
  ob (laws_heldMessageS.m N y14.2 y15) fun y16 =>
  bif (decide (y16 < (0:Int))) then
    some false
  else
  bif (y16 != y14.1) then
    some false
  else
  ob (laws_toNode.m N a0) fun y17 =>
  ob (impl_NodePropose.m N y17 a1) fun y18 =>
  ob (laws_eqNode.m N y18.1 y3.1) fun y19 =>
  bif (!y19) then
    some false
  else
  ob (laws_eqMessageS.m N y18.2.1 y3.2.1) fun y20 =>
  bif (bif false then true else (!y20)) then
    some false
  else
  bif (bif false then true else (y18.2.2 != y3.2.2)) then
    some false
  else
  ob (laws_heldNode.m N (Node.mk y5.1.Id y5.1.Term y5.1.Vote y13.2.Log y13.2.Start y5.1.Role y13.2.Votes y13.2.Next y13.2.Match y5.1.Commit y5.1.Elapsed y5.1.Wait y5.1.Up) (1:Int)) fun y21 =>
  bif (decide (y21 < (0:Int))) then
    some false
  else
  ob (laws_heldMessageS.m N y14.2 y21) fun y22 =>
  bif (decide (y22 < (0:Int))) then
    some false
  else
  bif (y22 != y14.1) then
    some false
  else
  some true
@[reducible] noncomputable def sp (N : Nat) : Spec E := { ps := [.val (.st 36), .val .str], rs := [.bool], own := true, dp := false, R := R, fn := fun x => m N x.1 x.2.1, res := fun r => (r, ()), out := fun r => ((), (), ()), shut := fun a b => a.1, res_shut := fun _ _ => rfl, out_shut := fun _ _ => rfl }
end laws_FnExactNodePropose
end Mir.Y
