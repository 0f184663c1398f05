/- Models of functions. -/
import Derived.Test.YtbbkpgpfppnakaaGreatJTM2
namespace Mir.Y
set_option linter.unusedVariables false
set_option maxRecDepth 10000
open Go Go.Proofs Mir
namespace impl_worker_voted
abbrev R:=worker
noncomputable def m (N:Nat) (a0:worker) (a1:Message):Option R:=
 bif (a0.Node.Role != (1:Int)) then
  some (worker.mk (Node.mk a0.Node.Id a0.Node.Term a0.Node.Vote a0.Node.Log a0.Node.Start a0.Node.Role a0.Node.Votes a0.Node.Next a0.Node.Match a0.Node.Commit a0.Node.Elapsed a0.Node.Wait a0.Node.Up) a0.sent)
 else
 bif (bif false then true else (a1.Term != a0.Node.Term)) then
  some (worker.mk (Node.mk a0.Node.Id a0.Node.Term a0.Node.Vote a0.Node.Log a0.Node.Start a0.Node.Role a0.Node.Votes a0.Node.Next a0.Node.Match a0.Node.Commit a0.Node.Elapsed a0.Node.Wait a0.Node.Up) a0.sent)
 else
 bif (bif false then true else (!a1.Ok)) then
  some (worker.mk (Node.mk a0.Node.Id a0.Node.Term a0.Node.Vote a0.Node.Log a0.Node.Start a0.Node.Role a0.Node.Votes a0.Node.Next a0.Node.Match a0.Node.Commit a0.Node.Elapsed a0.Node.Wait a0.Node.Up) a0.sent)
 else
 ob (slices_BinarySearch_int_int.m N a0.Node.Votes a1.From) fun y1=>
 bif (!y1.2) then
  ob (slices_Insert_int.m N a0.Node.Votes y1.1 ([a1.From])) fun y2=>
  ob (impl_worker_leadIf.m N (worker.mk (Node.mk a0.Node.Id a0.Node.Term a0.Node.Vote a0.Node.Log a0.Node.Start a0.Node.Role y2 a0.Node.Next a0.Node.Match a0.Node.Commit a0.Node.Elapsed a0.Node.Wait a0.Node.Up) a0.sent)) fun y3=>
  some (worker.mk (Node.mk y3.2.Node.Id y3.2.Node.Term y3.2.Node.Vote y3.2.Node.Log y3.2.Node.Start y3.2.Node.Role y3.2.Node.Votes y3.2.Node.Next y3.2.Node.Match y3.2.Node.Commit y3.2.Node.Elapsed y3.2.Node.Wait y3.2.Node.Up) y3.2.sent)
 else
 ob (impl_worker_leadIf.m N (worker.mk (Node.mk a0.Node.Id a0.Node.Term a0.Node.Vote a0.Node.Log a0.Node.Start a0.Node.Role a0.Node.Votes a0.Node.Next a0.Node.Match a0.Node.Commit a0.Node.Elapsed a0.Node.Wait a0.Node.Up) a0.sent)) fun y4=>
 some (worker.mk (Node.mk y4.2.Node.Id y4.2.Node.Term y4.2.Node.Vote y4.2.Node.Log y4.2.Node.Start y4.2.Node.Role y4.2.Node.Votes y4.2.Node.Next y4.2.Node.Match y4.2.Node.Commit y4.2.Node.Elapsed y4.2.Node.Wait y4.2.Node.Up) y4.2.sent)
@[reducible] noncomputable def sp (N:Nat):Spec E:=⟨[.box true 58 58,.val (.st 38)],[],true,true,R,fun x=>m N x.1 x.2.1,fun r=>(),fun r=>(r,(),()),fun a b=>b.1,fun _ _=>rfl,fun _ _=>rfl⟩
end impl_worker_voted
namespace impl_worker_store
abbrev R:=worker
noncomputable def step2 (N:Nat) (a0:worker) (a1:Message) (rec:(Int×Int)→Option R):(Int×Int)→Option R
 | (v1,v2)=>
  bif (decide (v2<v1)) then
   bif (decide (0≤v2)) then
   bif (decide (v2<(a1.Entries.length:Int))) then
   bif (decide ((w64 ((w64 (a1.Index+v2))+(1:Int))) > (a0.Node.Log.length:Int))) then
    bif (decide (0≤(w64 ((w64 ((w64 (a1.Index+v2))+(1:Int))) - (1:Int))))) then
    bif (decide ((w64 ((w64 ((w64 (a1.Index+v2))+(1:Int))) - (1:Int)))≤((a0.Node.Log.length:Nat):Int))) then
    bif (decide (0≤v2)) then
    bif (decide (v2≤((a1.Entries.length:Nat):Int))) then
    bif (room (((Int.toNat (w64 ((w64 ((w64 (a1.Index+v2))+(1:Int))) - (1:Int)))) - 0)+(a1.Entries.drop (Int.toNat v2)).length) 32) then
    some (worker.mk (Node.mk a0.Node.Id a0.Node.Term a0.Node.Vote (a0.Node.Log.take ((Int.toNat (w64 ((w64 ((w64 (a1.Index+v2))+(1:Int))) - (1:Int)))) - 0)++(a1.Entries.drop (Int.toNat v2))) a0.Node.Start a0.Node.Role a0.Node.Votes a0.Node.Next a0.Node.Match a0.Node.Commit a0.Node.Elapsed a0.Node.Wait a0.Node.Up) a0.sent)
    else none
    else none
    else none
    else none
    else none
   else
   ob (impl_Node_termAt.m N (Node.mk a0.Node.Id a0.Node.Term a0.Node.Vote a0.Node.Log a0.Node.Start a0.Node.Role a0.Node.Votes a0.Node.Next a0.Node.Match a0.Node.Commit a0.Node.Elapsed a0.Node.Wait a0.Node.Up) (w64 ((w64 (a1.Index+v2))+(1:Int)))) fun y1=>
   bif (bif false then true else (y1 != (a1.Entries.getD (Int.toNat v2) Entry.dz).Term)) then
    bif (decide (0≤(w64 ((w64 ((w64 (a1.Index+v2))+(1:Int))) - (1:Int))))) then
    bif (decide ((w64 ((w64 ((w64 (a1.Index+v2))+(1:Int))) - (1:Int)))≤((a0.Node.Log.length:Nat):Int))) then
    bif (decide (0≤v2)) then
    bif (decide (v2≤((a1.Entries.length:Nat):Int))) then
    bif (room (((Int.toNat (w64 ((w64 ((w64 (a1.Index+v2))+(1:Int))) - (1:Int)))) - 0)+(a1.Entries.drop (Int.toNat v2)).length) 32) then
    some (worker.mk (Node.mk a0.Node.Id a0.Node.Term a0.Node.Vote (a0.Node.Log.take ((Int.toNat (w64 ((w64 ((w64 (a1.Index+v2))+(1:Int))) - (1:Int)))) - 0)++(a1.Entries.drop (Int.toNat v2))) a0.Node.Start a0.Node.Role a0.Node.Votes a0.Node.Next a0.Node.Match a0.Node.Commit a0.Node.Elapsed a0.Node.Wait a0.Node.Up) a0.sent)
    else none
    else none
    else none
    else none
    else none
   else
   rec (v1,(w64 (v2+(1:Int))))
   else none
   else none
  else
  some (worker.mk (Node.mk a0.Node.Id a0.Node.Term a0.Node.Vote a0.Node.Log a0.Node.Start a0.Node.Role a0.Node.Votes a0.Node.Next a0.Node.Match a0.Node.Commit a0.Node.Elapsed a0.Node.Wait a0.Node.Up) a0.sent)
noncomputable def lp2 (N:Nat) (a0:worker) (a1:Message):(Int×Int)→Option R:=
 miter (fun rec=>step2 N a0 a1 rec) N
noncomputable def m0 (N:Nat) (a0:worker) (a1:Message) (lp2:Int×Int→Option R):Option R:=
 lp2 ((a1.Entries.length:Int),(0:Int))
@[reducible] noncomputable def m (N:Nat) (a0:worker) (a1:Message):Option R:=m0 N a0 a1 (lp2 N a0 a1)
@[reducible] noncomputable def sp (N:Nat):Spec E:=⟨[.box true 58 58,.val (.st 38)],[],true,true,R,fun x=>m N x.1 x.2.1,fun r=>(),fun r=>(r,(),()),fun a b=>b.1,fun _ _=>rfl,fun _ _=>rfl⟩
end impl_worker_store
namespace impl_worker_takeAppend
abbrev R:=worker
noncomputable def m (N:Nat) (a0:worker) (a1:Message):Option R:=
 (let w1:Int:=(if (0:Int)<(if (w64 (a1.Index - (1:Int)))<(a0.Node.Log.length:Int) then (w64 (a1.Index - (1:Int))) else (a0.Node.Log.length:Int)) then (if (w64 (a1.Index - (1:Int)))<(a0.Node.Log.length:Int) then (w64 (a1.Index - (1:Int))) else (a0.Node.Log.length:Int)) else (0:Int))
 bif (decide (a1.Term<a0.Node.Term)) then
  ob (impl_worker_send.m N (worker.mk (Node.mk a0.Node.Id a0.Node.Term a0.Node.Vote a0.Node.Log a0.Node.Start a0.Node.Role a0.Node.Votes a0.Node.Next a0.Node.Match a0.Node.Commit a0.Node.Elapsed a0.Node.Wait a0.Node.Up) a0.sent) (Message.mk (4:Int) (0:Int) a1.From (0:Int) w1 (0:Int) (0:Int) ([]:List Entry) false)) fun y2=>
  some (worker.mk (Node.mk y2.Node.Id y2.Node.Term y2.Node.Vote y2.Node.Log y2.Node.Start y2.Node.Role y2.Node.Votes y2.Node.Next y2.Node.Match y2.Node.Commit y2.Node.Elapsed y2.Node.Wait y2.Node.Up) y2.sent)
 else
 ob (impl_Node_follow.m N (worker.mk (Node.mk a0.Node.Id a0.Node.Term a0.Node.Vote a0.Node.Log a0.Node.Start a0.Node.Role a0.Node.Votes a0.Node.Next a0.Node.Match a0.Node.Commit a0.Node.Elapsed a0.Node.Wait a0.Node.Up) a0.sent)) fun y3=>
 bif (decide ((y3.Node.Log.length:Int)<a1.Index)) then
  ob (impl_worker_send.m N (worker.mk (Node.mk y3.Node.Id y3.Node.Term y3.Node.Vote y3.Node.Log y3.Node.Start y3.Node.Role y3.Node.Votes y3.Node.Next y3.Node.Match y3.Node.Commit (0:Int) y3.Node.Wait y3.Node.Up) y3.sent) (Message.mk (4:Int) (0:Int) a1.From (0:Int) w1 (0:Int) (0:Int) ([]:List Entry) false)) fun y4=>
  some (worker.mk (Node.mk y4.Node.Id y4.Node.Term y4.Node.Vote y4.Node.Log y4.Node.Start y4.Node.Role y4.Node.Votes y4.Node.Next y4.Node.Match y4.Node.Commit y4.Node.Elapsed y4.Node.Wait y4.Node.Up) y4.sent)
 else
 ob (impl_Node_termAt.m N (Node.mk y3.Node.Id y3.Node.Term y3.Node.Vote y3.Node.Log y3.Node.Start y3.Node.Role y3.Node.Votes y3.Node.Next y3.Node.Match y3.Node.Commit (0:Int) y3.Node.Wait y3.Node.Up) a1.Index) fun y5=>
 bif (bif false then true else (y5 != a1.LogTerm)) then
  ob (impl_worker_send.m N (worker.mk (Node.mk y3.Node.Id y3.Node.Term y3.Node.Vote y3.Node.Log y3.Node.Start y3.Node.Role y3.Node.Votes y3.Node.Next y3.Node.Match y3.Node.Commit (0:Int) y3.Node.Wait y3.Node.Up) y3.sent) (Message.mk (4:Int) (0:Int) a1.From (0:Int) w1 (0:Int) (0:Int) ([]:List Entry) false)) fun y6=>
  some (worker.mk (Node.mk y6.Node.Id y6.Node.Term y6.Node.Vote y6.Node.Log y6.Node.Start y6.Node.Role y6.Node.Votes y6.Node.Next y6.Node.Match y6.Node.Commit y6.Node.Elapsed y6.Node.Wait y6.Node.Up) y6.sent)
 else
 ob (impl_worker_store.m N (worker.mk (Node.mk y3.Node.Id y3.Node.Term y3.Node.Vote y3.Node.Log y3.Node.Start y3.Node.Role y3.Node.Votes y3.Node.Next y3.Node.Match y3.Node.Commit (0:Int) y3.Node.Wait y3.Node.Up) y3.sent) a1) fun y7=>
 (let w8:Int:=(if y7.Node.Commit<(if (w64 (a1.Index+(a1.Entries.length:Int)))<a1.Commit then (w64 (a1.Index+(a1.Entries.length:Int))) else a1.Commit) then (if (w64 (a1.Index+(a1.Entries.length:Int)))<a1.Commit then (w64 (a1.Index+(a1.Entries.length:Int))) else a1.Commit) else y7.Node.Commit)
 ob (impl_worker_send.m N (worker.mk (Node.mk y7.Node.Id y7.Node.Term y7.Node.Vote y7.Node.Log y7.Node.Start y7.Node.Role y7.Node.Votes y7.Node.Next y7.Node.Match w8 y7.Node.Elapsed y7.Node.Wait y7.Node.Up) y7.sent) (Message.mk (4:Int) (0:Int) a1.From (0:Int) (w64 (a1.Index+(a1.Entries.length:Int))) (0:Int) (0:Int) ([]:List Entry) true)) fun y9=>
 some (worker.mk (Node.mk y9.Node.Id y9.Node.Term y9.Node.Vote y9.Node.Log y9.Node.Start y9.Node.Role y9.Node.Votes y9.Node.Next y9.Node.Match y9.Node.Commit y9.Node.Elapsed y9.Node.Wait y9.Node.Up) y9.sent)))
@[reducible] noncomputable def sp (N:Nat):Spec E:=⟨[.box true 58 58,.val (.st 38)],[],true,true,R,fun x=>m N x.1 x.2.1,fun r=>(),fun r=>(r,(),()),fun a b=>b.1,fun _ _=>rfl,fun _ _=>rfl⟩
end impl_worker_takeAppend
namespace impl_worker_appended
abbrev R:=worker
noncomputable def m (N:Nat) (a0:worker) (a1:Message):Option R:=
 bif (a0.Node.Role != (2:Int)) then
  some (worker.mk (Node.mk a0.Node.Id a0.Node.Term a0.Node.Vote a0.Node.Log a0.Node.Start a0.Node.Role a0.Node.Votes a0.Node.Next a0.Node.Match a0.Node.Commit a0.Node.Elapsed a0.Node.Wait a0.Node.Up) a0.sent)
 else
 bif (bif false then true else (a1.Term != a0.Node.Term)) then
  some (worker.mk (Node.mk a0.Node.Id a0.Node.Term a0.Node.Vote a0.Node.Log a0.Node.Start a0.Node.Role a0.Node.Votes a0.Node.Next a0.Node.Match a0.Node.Commit a0.Node.Elapsed a0.Node.Wait a0.Node.Up) a0.sent)
 else
 bif (decide (0≤a1.From)) then
 bif (decide (a1.From<(a0.Node.Next.length:Int))) then
 bif (decide (0≤a1.From)) then
 bif (decide (a1.From<(a0.Node.Match.length:Int))) then
 bif a1.Ok then
  (let w1:Int:=(if (a0.Node.Match.getD (Int.toNat a1.From) (0:Int))<(if (a0.Node.Log.length:Int)<a1.Index then (a0.Node.Log.length:Int) else a1.Index) then (if (a0.Node.Log.length:Int)<a1.Index then (a0.Node.Log.length:Int) else a1.Index) else (a0.Node.Match.getD (Int.toNat a1.From) (0:Int)))
  (let w2:Int:=(if (a0.Node.Next.getD (Int.toNat a1.From) (0:Int))<(w64 (((a0.Node.Match.set (Int.toNat a1.From) w1).getD (Int.toNat a1.From) (0:Int))+(1:Int))) then (w64 (((a0.Node.Match.set (Int.toNat a1.From) w1).getD (Int.toNat a1.From) (0:Int))+(1:Int))) else (a0.Node.Next.getD (Int.toNat a1.From) (0:Int)))
  ob (impl_worker_commit.m N (worker.mk (Node.mk a0.Node.Id a0.Node.Term a0.Node.Vote a0.Node.Log a0.Node.Start a0.Node.Role a0.Node.Votes (a0.Node.Next.set (Int.toNat a1.From) w2) (a0.Node.Match.set (Int.toNat a1.From) w1) a0.Node.Commit a0.Node.Elapsed a0.Node.Wait a0.Node.Up) a0.sent)) fun y3=>
  some (worker.mk (Node.mk y3.Node.Id y3.Node.Term y3.Node.Vote y3.Node.Log y3.Node.Start y3.Node.Role y3.Node.Votes y3.Node.Next y3.Node.Match y3.Node.Commit y3.Node.Elapsed y3.Node.Wait y3.Node.Up) y3.sent)))
 else
 (let w4:Int:=(if (w64 (a1.Index+(1:Int)))<(w64 ((a0.Node.Next.getD (Int.toNat a1.From) (0:Int)) - (1:Int))) then (w64 (a1.Index+(1:Int))) else (w64 ((a0.Node.Next.getD (Int.toNat a1.From) (0:Int)) - (1:Int))))
 (let w5:Int:=(if (w64 ((a0.Node.Match.getD (Int.toNat a1.From) (0:Int))+(1:Int)))<w4 then w4 else (w64 ((a0.Node.Match.getD (Int.toNat a1.From) (0:Int))+(1:Int))))
 ob (impl_worker_tell_.m N (worker.mk (Node.mk a0.Node.Id a0.Node.Term a0.Node.Vote a0.Node.Log a0.Node.Start a0.Node.Role a0.Node.Votes (a0.Node.Next.set (Int.toNat a1.From) w5) a0.Node.Match a0.Node.Commit a0.Node.Elapsed a0.Node.Wait a0.Node.Up) a0.sent) a1.From a0.Node.Commit) fun y6=>
 some (worker.mk (Node.mk y6.Node.Id y6.Node.Term y6.Node.Vote y6.Node.Log y6.Node.Start y6.Node.Role y6.Node.Votes y6.Node.Next y6.Node.Match y6.Node.Commit y6.Node.Elapsed y6.Node.Wait y6.Node.Up) y6.sent)))
 else none
 else none
 else none
 else none
@[reducible] noncomputable def sp (N:Nat):Spec E:=⟨[.box true 58 58,.val (.st 38)],[],true,true,R,fun x=>m N x.1 x.2.1,fun r=>(),fun r=>(r,(),()),fun a b=>b.1,fun _ _=>rfl,fun _ _=>rfl⟩
end impl_worker_appended
namespace impl_worker_take
abbrev R:=worker
noncomputable def m (N:Nat) (a0:worker) (a1:Message):Option R:=
 bif (decide (a1.Term > a0.Node.Term)) then
  ob (impl_Node_follow.m N (worker.mk (Node.mk a0.Node.Id a1.Term (-1:Int) a0.Node.Log a0.Node.Start a0.Node.Role a0.Node.Votes a0.Node.Next a0.Node.Match a0.Node.Commit a0.Node.Elapsed a0.Node.Wait a0.Node.Up) a0.sent)) fun y1=>
  bif (a1.Kind==(1:Int)) then
   ob (impl_worker_vote.m N (worker.mk (Node.mk y1.Node.Id y1.Node.Term y1.Node.Vote y1.Node.Log y1.Node.Start y1.Node.Role y1.Node.Votes y1.Node.Next y1.Node.Match y1.Node.Commit y1.Node.Elapsed y1.Node.Wait y1.Node.Up) y1.sent) a1) fun y2=>
   some (worker.mk (Node.mk y2.Node.Id y2.Node.Term y2.Node.Vote y2.Node.Log y2.Node.Start y2.Node.Role y2.Node.Votes y2.Node.Next y2.Node.Match y2.Node.Commit y2.Node.Elapsed y2.Node.Wait y2.Node.Up) y2.sent)
  else
  bif (a1.Kind==(2:Int)) then
   ob (impl_worker_voted.m N (worker.mk (Node.mk y1.Node.Id y1.Node.Term y1.Node.Vote y1.Node.Log y1.Node.Start y1.Node.Role y1.Node.Votes y1.Node.Next y1.Node.Match y1.Node.Commit y1.Node.Elapsed y1.Node.Wait y1.Node.Up) y1.sent) a1) fun y3=>
   some (worker.mk (Node.mk y3.Node.Id y3.Node.Term y3.Node.Vote y3.Node.Log y3.Node.Start y3.Node.Role y3.Node.Votes y3.Node.Next y3.Node.Match y3.Node.Commit y3.Node.Elapsed y3.Node.Wait y3.Node.Up) y3.sent)
  else
  bif (a1.Kind==(3:Int)) then
   ob (impl_worker_takeAppend.m N (worker.mk (Node.mk y1.Node.Id y1.Node.Term y1.Node.Vote y1.Node.Log y1.Node.Start y1.Node.Role y1.Node.Votes y1.Node.Next y1.Node.Match y1.Node.Commit y1.Node.Elapsed y1.Node.Wait y1.Node.Up) y1.sent) a1) fun y4=>
   some (worker.mk (Node.mk y4.Node.Id y4.Node.Term y4.Node.Vote y4.Node.Log y4.Node.Start y4.Node.Role y4.Node.Votes y4.Node.Next y4.Node.Match y4.Node.Commit y4.Node.Elapsed y4.Node.Wait y4.Node.Up) y4.sent)
  else
  bif (a1.Kind==(4:Int)) then
   ob (impl_worker_appended.m N (worker.mk (Node.mk y1.Node.Id y1.Node.Term y1.Node.Vote y1.Node.Log y1.Node.Start y1.Node.Role y1.Node.Votes y1.Node.Next y1.Node.Match y1.Node.Commit y1.Node.Elapsed y1.Node.Wait y1.Node.Up) y1.sent) a1) fun y5=>
   some (worker.mk (Node.mk y5.Node.Id y5.Node.Term y5.Node.Vote y5.Node.Log y5.Node.Start y5.Node.Role y5.Node.Votes y5.Node.Next y5.Node.Match y5.Node.Commit y5.Node.Elapsed y5.Node.Wait y5.Node.Up) y5.sent)
  else
  some (worker.mk (Node.mk y1.Node.Id y1.Node.Term y1.Node.Vote y1.Node.Log y1.Node.Start y1.Node.Role y1.Node.Votes y1.Node.Next y1.Node.Match y1.Node.Commit y1.Node.Elapsed y1.Node.Wait y1.Node.Up) y1.sent)
 else
 bif (a1.Kind==(1:Int)) then
  ob (impl_worker_vote.m N (worker.mk (Node.mk a0.Node.Id a0.Node.Term a0.Node.Vote a0.Node.Log a0.Node.Start a0.Node.Role a0.Node.Votes a0.Node.Next a0.Node.Match a0.Node.Commit a0.Node.Elapsed a0.Node.Wait a0.Node.Up) a0.sent) a1) fun y6=>
  some (worker.mk (Node.mk y6.Node.Id y6.Node.Term y6.Node.Vote y6.Node.Log y6.Node.Start y6.Node.Role y6.Node.Votes y6.Node.Next y6.Node.Match y6.Node.Commit y6.Node.Elapsed y6.Node.Wait y6.Node.Up) y6.sent)
 else
 bif (a1.Kind==(2:Int)) then
  ob (impl_worker_voted.m N (worker.mk (Node.mk a0.Node.Id a0.Node.Term a0.Node.Vote a0.Node.Log a0.Node.Start a0.Node.Role a0.Node.Votes a0.Node.Next a0.Node.Match a0.Node.Commit a0.Node.Elapsed a0.Node.Wait a0.Node.Up) a0.sent) a1) fun y7=>
  some (worker.mk (Node.mk y7.Node.Id y7.Node.Term y7.Node.Vote y7.Node.Log y7.Node.Start y7.Node.Role y7.Node.Votes y7.Node.Next y7.Node.Match y7.Node.Commit y7.Node.Elapsed y7.Node.Wait y7.Node.Up) y7.sent)
 else
 bif (a1.Kind==(3:Int)) then
  ob (impl_worker_takeAppend.m N (worker.mk (Node.mk a0.Node.Id a0.Node.Term a0.Node.Vote a0.Node.Log a0.Node.Start a0.Node.Role a0.Node.Votes a0.Node.Next a0.Node.Match a0.Node.Commit a0.Node.Elapsed a0.Node.Wait a0.Node.Up) a0.sent) a1) fun y8=>
  some (worker.mk (Node.mk y8.Node.Id y8.Node.Term y8.Node.Vote y8.Node.Log y8.Node.Start y8.Node.Role y8.Node.Votes y8.Node.Next y8.Node.Match y8.Node.Commit y8.Node.Elapsed y8.Node.Wait y8.Node.Up) y8.sent)
 else
 bif (a1.Kind==(4:Int)) then
  ob (impl_worker_appended.m N (worker.mk (Node.mk a0.Node.Id a0.Node.Term a0.Node.Vote a0.Node.Log a0.Node.Start a0.Node.Role a0.Node.Votes a0.Node.Next a0.Node.Match a0.Node.Commit a0.Node.Elapsed a0.Node.Wait a0.Node.Up) a0.sent) a1) fun y9=>
  some (worker.mk (Node.mk y9.Node.Id y9.Node.Term y9.Node.Vote y9.Node.Log y9.Node.Start y9.Node.Role y9.Node.Votes y9.Node.Next y9.Node.Match y9.Node.Commit y9.Node.Elapsed y9.Node.Wait y9.Node.Up) y9.sent)
 else
 some (worker.mk (Node.mk a0.Node.Id a0.Node.Term a0.Node.Vote a0.Node.Log a0.Node.Start a0.Node.Role a0.Node.Votes a0.Node.Next a0.Node.Match a0.Node.Commit a0.Node.Elapsed a0.Node.Wait a0.Node.Up) a0.sent)
@[reducible] noncomputable def sp (N:Nat):Spec E:=⟨[.box true 58 58,.val (.st 38)],[],true,true,R,fun x=>m N x.1 x.2.1,fun r=>(),fun r=>(r,(),()),fun a b=>b.1,fun _ _=>rfl,fun _ _=>rfl⟩
end impl_worker_take
namespace impl_worker_asNode
abbrev R:=Node×(List Message)
noncomputable def m (N:Nat) (a0:worker):Option R:=
 ob (impl_copyNode.m N (Node.mk a0.Node.Id a0.Node.Term a0.Node.Vote a0.Node.Log a0.Node.Start a0.Node.Role a0.Node.Votes a0.Node.Next a0.Node.Match a0.Node.Commit a0.Node.Elapsed a0.Node.Wait a0.Node.Up)) fun y1=>
 some (y1,a0.sent)
@[reducible] noncomputable def sp (N:Nat):Spec E:=⟨[.movb true 58 58],[(.st 32),(.slice 38 (.st 38))],true,true,R,fun x=>m N x.1,fun r=>(r.1,r.2,()),fun r=>((),()),fun a b=>(a.1,a.2.1),fun _ _=>rfl,fun _ _=>rfl⟩
end impl_worker_asNode
namespace impl_NodeTake
abbrev R:=Node×(List Message)×Int
noncomputable def m (N:Nat) (a0:Node) (a1:Message):Option R:=
 ob (impl_NodeOK.m N (Node.mk a0.Id a0.Term a0.Vote a0.Log a0.Start a0.Role a0.Votes a0.Next a0.Match a0.Commit a0.Elapsed a0.Wait a0.Up)) fun y1=>
 bif (!y1) then
  some ((Node.mk (0:Int) (0:Int) (0:Int) ([]:List Entry) ([]:List Int) (0:Int) ([]:List Int) ([]:List Int) ([]:List Int) (0:Int) (0:Int) (0:Int) false),([]:List Message),(1:Int))
 else
 ob (impl_messageOK.m N a1) fun y2=>
 bif (bif false then true else (!y2)) then
  some ((Node.mk (0:Int) (0:Int) (0:Int) ([]:List Entry) ([]:List Int) (0:Int) ([]:List Int) ([]:List Int) ([]:List Int) (0:Int) (0:Int) (0:Int) false),([]:List Message),(1:Int))
 else
 bif (a1.To != a0.Id) then
  some ((Node.mk (0:Int) (0:Int) (0:Int) ([]:List Entry) ([]:List Int) (0:Int) ([]:List Int) ([]:List Int) ([]:List Int) (0:Int) (0:Int) (0:Int) false),([]:List Message),(4:Int))
 else
 bif (!a0.Up) then
  ob (impl_copyNode.m N a0) fun y3=>
  some (y3,([]:List Message),(5:Int))
 else
 ob (impl_copyNode.m N a0) fun y4=>
 ob (impl_worker_take.m N (worker.mk (Node.mk y4.Id y4.Term y4.Vote y4.Log y4.Start y4.Role y4.Votes y4.Next y4.Match y4.Commit y4.Elapsed y4.Wait y4.Up) ([]:List Message)) a1) fun y5=>
 ob (impl_NodeOK.m N (Node.mk y5.Node.Id y5.Node.Term y5.Node.Vote y5.Node.Log y5.Node.Start y5.Node.Role y5.Node.Votes y5.Node.Next y5.Node.Match y5.Node.Commit y5.Node.Elapsed y5.Node.Wait y5.Node.Up)) fun y6=>
 bif (!y6) then
  ob (impl_copyNode.m N (Node.mk a0.Id a0.Term a0.Vote a0.Log a0.Start a0.Role a0.Votes a0.Next a0.Match a0.Commit a0.Elapsed a0.Wait a0.Up)) fun y7=>
  some (y7,([]:List Message),(3:Int))
 else
 ob (impl_worker_asNode.m N (worker.mk (Node.mk y5.Node.Id y5.Node.Term y5.Node.Vote y5.Node.Log y5.Node.Start y5.Node.Role y5.Node.Votes y5.Node.Next y5.Node.Match y5.Node.Commit y5.Node.Elapsed y5.Node.Wait y5.Node.Up) y5.sent)) fun y8=>
 some (y8.1,y8.2,(0:Int))
@[reducible] noncomputable def sp (N:Nat):Spec E:=⟨[.val (.st 32),.val (.st 38)],[(.st 32),(.slice 38 (.st 38)),(.int .i64)],true,true,R,fun x=>m N x.1 x.2.1,fun r=>(r.1,r.2.1,r.2.2,()),fun r=>((),(),()),fun a b=>(a.1,a.2.1,a.2.2.1),fun _ _=>rfl,fun _ _=>rfl⟩
end impl_NodeTake
namespace laws_eqEntry
abbrev R:=Bool
noncomputable def m (N:Nat) (a0:Entry) (a1:Entry):Option R:=
 bif (a0.Term != a1.Term) then
  some false
 else
 bif (a0.Kind != a1.Kind) then
  some false
 else
 bif (!seq a0.Data a1.Data) then
  some false
 else
 some true
@[reducible] noncomputable def sp (N:Nat):Spec E:=⟨[.val (.st 72),.val (.st 72)],[.bool],true,false,R,fun x=>m N x.1 x.2.1,fun r=>(r,()),fun r=>((),(),()),fun a b=>a.1,fun _ _=>rfl,fun _ _=>rfl⟩
end laws_eqEntry
namespace laws_eqEntryS
abbrev R:=Bool
noncomputable def step4 (N:Nat) (a0:List Entry) (a1:List Entry) (rec:Int→Option R):Int→Option R
 | v2=>
  bif (decide (v2<(a0.length:Int))) then
   bif (decide (0≤v2)) then
   bif (decide (v2<(a0.length:Int))) then
   bif (decide (0≤v2)) then
   bif (decide (v2<(a1.length:Int))) then
   ob (laws_eqEntry.m N (a0.getD (Int.toNat v2) Entry.dz) (a1.getD (Int.toNat v2) Entry.dz)) fun y1=>
   bif (!y1) then
    some false
   else
   rec (w64 (v2+(1:Int)))
   else none
   else none
   else none
   else none
  else
  some true
noncomputable def lp4 (N:Nat) (a0:List Entry) (a1:List Entry):Int→Option R:=
 miter (fun rec=>step4 N a0 a1 rec) N
noncomputable def m0 (N:Nat) (a0:List Entry) (a1:List Entry) (lp4:Int→Option R):Option R:=
 bif ((a0.length:Int) != (a1.length:Int)) then
  some false
 else
 lp4 (0:Int)
@[reducible] noncomputable def m (N:Nat) (a0:List Entry) (a1:List Entry):Option R:=m0 N a0 a1 (lp4 N a0 a1)
@[reducible] noncomputable def sp (N:Nat):Spec E:=⟨[.val (.slice 72 (.st 72)),.val (.slice 72 (.st 72))],[.bool],true,false,R,fun x=>m N x.1 x.2.1,fun r=>(r,()),fun r=>((),(),()),fun a b=>a.1,fun _ _=>rfl,fun _ _=>rfl⟩
end laws_eqEntryS
namespace laws_eqIntS
abbrev R:=Bool
noncomputable def step4 (N:Nat) (a0:List Int) (a1:List Int) (rec:Int→Option R):Int→Option R
 | v2=>
  bif (decide (v2<(a0.length:Int))) then
   bif (decide (0≤v2)) then
   bif (decide (v2<(a0.length:Int))) then
   bif (decide (0≤v2)) then
   bif (decide (v2<(a1.length:Int))) then
   bif ((a0.getD (Int.toNat v2) (0:Int)) != (a1.getD (Int.toNat v2) (0:Int))) then
    some false
   else
   rec (w64 (v2+(1:Int)))
   else none
   else none
   else none
   else none
  else
  some true
noncomputable def lp4 (N:Nat) (a0:List Int) (a1:List Int):Int→Option R:=
 miter (fun rec=>step4 N a0 a1 rec) N
noncomputable def m0 (N:Nat) (a0:List Int) (a1:List Int) (lp4:Int→Option R):Option R:=
 bif ((a0.length:Int) != (a1.length:Int)) then
  some false
 else
 lp4 (0:Int)
@[reducible] noncomputable def m (N:Nat) (a0:List Int) (a1:List Int):Option R:=m0 N a0 a1 (lp4 N a0 a1)
@[reducible] noncomputable def sp (N:Nat):Spec E:=⟨[.val (.slice 3 (.int .i64)),.val (.slice 3 (.int .i64))],[.bool],true,false,R,fun x=>m N x.1 x.2.1,fun r=>(r,()),fun r=>((),(),()),fun a b=>a.1,fun _ _=>rfl,fun _ _=>rfl⟩
end laws_eqIntS
namespace laws_eqNode
abbrev R:=Bool
noncomputable def m (N:Nat) (a0:Node) (a1:Node):Option R:=
 bif (a0.Id != a1.Id) then
  some false
 else
 bif (a0.Term != a1.Term) then
  some false
 else
 bif (a0.Vote != a1.Vote) then
  some false
 else
 ob (laws_eqEntryS.m N a0.Log a1.Log) fun y1=>
 bif (!y1) then
  some false
 else
 ob (laws_eqIntS.m N a0.Start a1.Start) fun y2=>
 bif (!y2) then
  some false
 else
 bif (a0.Role != a1.Role) then
  some false
 else
 ob (laws_eqIntS.m N a0.Votes a1.Votes) fun y3=>
 bif (!y3) then
  some false
 else
 ob (laws_eqIntS.m N a0.Next a1.Next) fun y4=>
 bif (!y4) then
  some false
 else
 ob (laws_eqIntS.m N a0.Match a1.Match) fun y5=>
 bif (!y5) then
  some false
 else
 bif (a0.Commit != a1.Commit) then
  some false
 else
 bif (a0.Elapsed != a1.Elapsed) then
  some false
 else
 bif (a0.Wait != a1.Wait) then
  some false
 else
 bif (!(a0.Up==a1.Up)) then
  some false
 else
 some true
@[reducible] noncomputable def sp (N:Nat):Spec E:=⟨[.val (.st 32),.val (.st 32)],[.bool],true,false,R,fun x=>m N x.1 x.2.1,fun r=>(r,()),fun r=>((),(),()),fun a b=>a.1,fun _ _=>rfl,fun _ _=>rfl⟩
end laws_eqNode
namespace laws_eqMessage
abbrev R:=Bool
noncomputable def m (N:Nat) (a0:Message) (a1:Message):Option R:=
 bif (a0.Kind != a1.Kind) then
  some false
 else
 bif (a0.From != a1.From) then
  some false
 else
 bif (a0.To != a1.To) then
  some false
 else
 bif (a0.Term != a1.Term) then
  some false
 else
 bif (a0.Index != a1.Index) then
  some false
 else
 bif (a0.LogTerm != a1.LogTerm) then
  some false
 else
 bif (a0.Commit != a1.Commit) then
  some false
 else
 ob (laws_eqEntryS.m N a0.Entries a1.Entries) fun y1=>
 bif (!y1) then
  some false
 else
 bif (!(a0.Ok==a1.Ok)) then
  some false
 else
 some true
@[reducible] noncomputable def sp (N:Nat):Spec E:=⟨[.val (.st 38),.val (.st 38)],[.bool],true,false,R,fun x=>m N x.1 x.2.1,fun r=>(r,()),fun r=>((),(),()),fun a b=>a.1,fun _ _=>rfl,fun _ _=>rfl⟩
end laws_eqMessage
namespace laws_eqMessageS
abbrev R:=Bool
noncomputable def step4 (N:Nat) (a0:List Message) (a1:List Message) (rec:Int→Option R):Int→Option R
 | v2=>
  bif (decide (v2<(a0.length:Int))) then
   bif (decide (0≤v2)) then
   bif (decide (v2<(a0.length:Int))) then
   bif (decide (0≤v2)) then
   bif (decide (v2<(a1.length:Int))) then
   ob (laws_eqMessage.m N (a0.getD (Int.toNat v2) Message.dz) (a1.getD (Int.toNat v2) Message.dz)) fun y1=>
   bif (!y1) then
    some false
   else
   rec (w64 (v2+(1:Int)))
   else none
   else none
   else none
   else none
  else
  some true
noncomputable def lp4 (N:Nat) (a0:List Message) (a1:List Message):Int→Option R:=
 miter (fun rec=>step4 N a0 a1 rec) N
noncomputable def m0 (N:Nat) (a0:List Message) (a1:List Message) (lp4:Int→Option R):Option R:=
 bif ((a0.length:Int) != (a1.length:Int)) then
  some false
 else
 lp4 (0:Int)
@[reducible] noncomputable def m (N:Nat) (a0:List Message) (a1:List Message):Option R:=m0 N a0 a1 (lp4 N a0 a1)
@[reducible] noncomputable def sp (N:Nat):Spec E:=⟨[.val (.slice 38 (.st 38)),.val (.slice 38 (.st 38))],[.bool],true,false,R,fun x=>m N x.1 x.2.1,fun r=>(r,()),fun r=>((),(),()),fun a b=>a.1,fun _ _=>rfl,fun _ _=>rfl⟩
end laws_eqMessageS
namespace laws_markText
abbrev R:=ByteArray
noncomputable def step4 (N:Nat) (a0:Int) (rec:(Int×ByteArray)→Option R):(Int×ByteArray)→Option R
 | (v0,v1)=>
  bif (decide (v0 > (0:Int))) then
   bif (!decide ((10:Int)=0)) then
   bif (decide ((strOf ([(wu8 (w64 ((48:Int)+(Int.tmod v0 (10:Int)))))])).size+v1.size≤9223372036854775807)) then
   bif (!decide ((10:Int)=0)) then
   rec ((w64 (Int.tdiv v0 (10:Int))),((strOf ([(wu8 (w64 ((48:Int)+(Int.tmod v0 (10:Int)))))]))++v1))
   else none
   else none
   else none
  else
  bif (decide ((⟨#[109]⟩:ByteArray).size+v1.size≤9223372036854775807)) then
  some ((⟨#[109]⟩:ByteArray)++v1)
  else none
noncomputable def lp4 (N:Nat) (a0:Int):(Int×ByteArray)→Option R:=
 miter (fun rec=>step4 N a0 rec) N
noncomputable def m0 (N:Nat) (a0:Int) (lp4:Int×ByteArray→Option R):Option R:=
 bif (decide (a0≤(0:Int))) then
  some (⟨#[109,48]⟩:ByteArray)
 else
 lp4 (a0,ByteArray.empty)
@[reducible] noncomputable def m (N:Nat) (a0:Int):Option R:=m0 N a0 (lp4 N a0)
@[reducible] noncomputable def sp (N:Nat):Spec E:=⟨[.val (.int .i64)],[.str],true,false,R,fun x=>m N x.1,fun r=>(r,()),fun r=>((),()),fun a b=>a.1,fun _ _=>rfl,fun _ _=>rfl⟩
end laws_markText
namespace laws_markEntryS
abbrev R:=Int×(List Entry)
noncomputable def step2 (N:Nat) (a0:List Entry) (a1:Int) (rec:(Int×Int×(List Entry))→Option R):(Int×Int×(List Entry))→Option R
 | (v0,v1,v2)=>
  bif (decide (v1<(v2.length:Int))) then
   bif (decide (0≤v1)) then
   bif (decide (v1<(v2.length:Int))) then
   bif (decide (0≤v1)) then
   bif (decide (v1<((v2.set (Int.toNat v1) (Entry.mk v0 ((v2.getD (Int.toNat v1) Entry.dz).Kind) ((v2.getD (Int.toNat v1) Entry.dz).Data))).length:Int))) then
   (let w1:Entry:=((v2.set (Int.toNat v1) (Entry.mk v0 ((v2.getD (Int.toNat v1) Entry.dz).Kind) ((v2.getD (Int.toNat v1) Entry.dz).Data))).getD (Int.toNat v1) Entry.dz)
   (let w2:List Entry:=((v2.set (Int.toNat v1) (Entry.mk v0 ((v2.getD (Int.toNat v1) Entry.dz).Kind) ((v2.getD (Int.toNat v1) Entry.dz).Data))).set (Int.toNat v1) (Entry.mk w1.Term (w64 (v0+(1:Int))) w1.Data))
   ob (laws_markText.m N (w64 ((w64 (v0+(1:Int)))+(1:Int)))) fun y3=>
   bif (decide (0≤v1)) then
   bif (decide (v1<(w2.length:Int))) then
   rec ((w64 ((w64 ((w64 (v0+(1:Int)))+(1:Int)))+(1:Int))),(w64 (v1+(1:Int))),(w2.set (Int.toNat v1) (Entry.mk ((w2.getD (Int.toNat v1) Entry.dz).Term) ((w2.getD (Int.toNat v1) Entry.dz).Kind) y3)))
   else none
   else none))
   else none
   else none
   else none
   else none
  else
  some (v0,v2)
noncomputable def lp2 (N:Nat) (a0:List Entry) (a1:Int):(Int×Int×(List Entry))→Option R:=
 miter (fun rec=>step2 N a0 a1 rec) N
noncomputable def m0 (N:Nat) (a0:List Entry) (a1:Int) (lp2:Int×Int×(List Entry)→Option R):Option R:=
 lp2 (a1,(0:Int),a0)
@[reducible] noncomputable def m (N:Nat) (a0:List Entry) (a1:Int):Option R:=m0 N a0 a1 (lp2 N a0 a1)
@[reducible] noncomputable def sp (N:Nat):Spec E:=⟨[.mut false (.slice 72 (.st 72)),.val (.int .i64)],[(.int .i64)],true,false,R,fun x=>m N x.1 x.2.1,fun r=>(r.1,()),fun r=>(r.2,(),()),fun a b=>(a.1,b.1),fun _ _=>rfl,fun _ _=>rfl⟩
end laws_markEntryS
namespace laws_markIntS
abbrev R:=Int×(List Int)
noncomputable def step2 (N:Nat) (a0:List Int) (a1:Int) (rec:(Int×Int×(List Int))→Option R):(Int×Int×(List Int))→Option R
 | (v0,v1,v2)=>
  bif (decide (v1<(v2.length:Int))) then
   bif (decide (0≤v1)) then
   bif (decide (v1<(v2.length:Int))) then
   rec ((w64 (v0+(1:Int))),(w64 (v1+(1:Int))),(v2.set (Int.toNat v1) v0))
   else none
   else none
  else
  some (v0,v2)
noncomputable def lp2 (N:Nat) (a0:List Int) (a1:Int):(Int×Int×(List Int))→Option R:=
 miter (fun rec=>step2 N a0 a1 rec) N
noncomputable def m0 (N:Nat) (a0:List Int) (a1:Int) (lp2:Int×Int×(List Int)→Option R):Option R:=
 lp2 (a1,(0:Int),a0)
@[reducible] noncomputable def m (N:Nat) (a0:List Int) (a1:Int):Option R:=m0 N a0 a1 (lp2 N a0 a1)
@[reducible] noncomputable def sp (N:Nat):Spec E:=⟨[.mut false (.slice 3 (.int .i64)),.val (.int .i64)],[(.int .i64)],true,false,R,fun x=>m N x.1 x.2.1,fun r=>(r.1,()),fun r=>(r.2,(),()),fun a b=>(a.1,b.1),fun _ _=>rfl,fun _ _=>rfl⟩
end laws_markIntS
namespace laws_markNode
abbrev R:=Int×Node
noncomputable def m (N:Nat) (a0:Node) (a1:Int):Option R:=
 ob (laws_markEntryS.m N a0.Log a1) fun y1=>
 ob (laws_markIntS.m N a0.Start y1.1) fun y2=>
 ob (laws_markIntS.m N a0.Votes y2.1) fun y3=>
 ob (laws_markIntS.m N a0.Next y3.1) fun y4=>
 ob (laws_markIntS.m N a0.Match y4.1) fun y5=>
 some (y5.1,(Node.mk a0.Id a0.Term a0.Vote y1.2 y2.2 a0.Role y3.2 y4.2 y5.2 a0.Commit a0.Elapsed a0.Wait a0.Up))
@[reducible] noncomputable def sp (N:Nat):Spec E:=⟨[.mut false (.st 32),.val (.int .i64)],[(.int .i64)],true,false,R,fun x=>m N x.1 x.2.1,fun r=>(r.1,()),fun r=>(r.2,(),()),fun a b=>(a.1,b.1),fun _ _=>rfl,fun _ _=>rfl⟩
end laws_markNode
namespace laws_markMessage
abbrev R:=Int×Message
noncomputable def m (N:Nat) (a0:Message) (a1:Int):Option R:=
 ob (laws_markEntryS.m N a0.Entries a1) fun y1=>
 some (y1.1,(Message.mk a0.Kind a0.From a0.To a0.Term a0.Index a0.LogTerm a0.Commit y1.2 a0.Ok))
@[reducible] noncomputable def sp (N:Nat):Spec E:=⟨[.mut false (.st 38),.val (.int .i64)],[(.int .i64)],true,false,R,fun x=>m N x.1 x.2.1,fun r=>(r.1,()),fun r=>(r.2,(),()),fun a b=>(a.1,b.1),fun _ _=>rfl,fun _ _=>rfl⟩
end laws_markMessage
namespace laws_markMessageS
abbrev R:=Int×(List Message)
noncomputable def step2 (N:Nat) (a0:List Message) (a1:Int) (rec:(Int×Int×(List Message))→Option R):(Int×Int×(List Message))→Option R
 | (v0,v1,v2)=>
  bif (decide (v1<(v2.length:Int))) then
   bif (decide (0≤v1)) then
   bif (decide (v1<(v2.length:Int))) then
   (let w1:List Message:=(v2.set (Int.toNat v1) (Message.mk v0 ((v2.getD (Int.toNat v1) Message.dz).From) ((v2.getD (Int.toNat v1) Message.dz).To) ((v2.getD (Int.toNat v1) Message.dz).Term) ((v2.getD (Int.toNat v1) Message.dz).Index) ((v2.getD (Int.toNat v1) Message.dz).LogTerm) ((v2.getD (Int.toNat v1) Message.dz).Commit) ((v2.getD (Int.toNat v1) Message.dz).Entries) ((v2.getD (Int.toNat v1) Message.dz).Ok)))
   bif (decide (0≤v1)) then
   bif (decide (v1<(w1.length:Int))) then
   (let w2:List Message:=(w1.set (Int.toNat v1) (Message.mk ((w1.getD (Int.toNat v1) Message.dz).Kind) (w64 (v0+(1:Int))) ((w1.getD (Int.toNat v1) Message.dz).To) ((w1.getD (Int.toNat v1) Message.dz).Term) ((w1.getD (Int.toNat v1) Message.dz).Index) ((w1.getD (Int.toNat v1) Message.dz).LogTerm) ((w1.getD (Int.toNat v1) Message.dz).Commit) ((w1.getD (Int.toNat v1) Message.dz).Entries) ((w1.getD (Int.toNat v1) Message.dz).Ok)))
   bif (decide (0≤v1)) then
   bif (decide (v1<(w2.length:Int))) then
   (let w3:List Message:=(w2.set (Int.toNat v1) (Message.mk ((w2.getD (Int.toNat v1) Message.dz).Kind) ((w2.getD (Int.toNat v1) Message.dz).From) (w64 ((w64 (v0+(1:Int)))+(1:Int))) ((w2.getD (Int.toNat v1) Message.dz).Term) ((w2.getD (Int.toNat v1) Message.dz).Index) ((w2.getD (Int.toNat v1) Message.dz).LogTerm) ((w2.getD (Int.toNat v1) Message.dz).Commit) ((w2.getD (Int.toNat v1) Message.dz).Entries) ((w2.getD (Int.toNat v1) Message.dz).Ok)))
   bif (decide (0≤v1)) then
   bif (decide (v1<(w3.length:Int))) then
   (let w4:List Message:=(w3.set (Int.toNat v1) (Message.mk ((w3.getD (Int.toNat v1) Message.dz).Kind) ((w3.getD (Int.toNat v1) Message.dz).From) ((w3.getD (Int.toNat v1) Message.dz).To) (w64 ((w64 ((w64 (v0+(1:Int)))+(1:Int)))+(1:Int))) ((w3.getD (Int.toNat v1) Message.dz).Index) ((w3.getD (Int.toNat v1) Message.dz).LogTerm) ((w3.getD (Int.toNat v1) Message.dz).Commit) ((w3.getD (Int.toNat v1) Message.dz).Entries) ((w3.getD (Int.toNat v1) Message.dz).Ok)))
   bif (decide (0≤v1)) then
   bif (decide (v1<(w4.length:Int))) then
   (let w5:List Message:=(w4.set (Int.toNat v1) (Message.mk ((w4.getD (Int.toNat v1) Message.dz).Kind) ((w4.getD (Int.toNat v1) Message.dz).From) ((w4.getD (Int.toNat v1) Message.dz).To) ((w4.getD (Int.toNat v1) Message.dz).Term) (w64 ((w64 ((w64 ((w64 (v0+(1:Int)))+(1:Int)))+(1:Int)))+(1:Int))) ((w4.getD (Int.toNat v1) Message.dz).LogTerm) ((w4.getD (Int.toNat v1) Message.dz).Commit) ((w4.getD (Int.toNat v1) Message.dz).Entries) ((w4.getD (Int.toNat v1) Message.dz).Ok)))
   bif (decide (0≤v1)) then
   bif (decide (v1<(w5.length:Int))) then
   (let w6:List Message:=(w5.set (Int.toNat v1) (Message.mk ((w5.getD (Int.toNat v1) Message.dz).Kind) ((w5.getD (Int.toNat v1) Message.dz).From) ((w5.getD (Int.toNat v1) Message.dz).To) ((w5.getD (Int.toNat v1) Message.dz).Term) ((w5.getD (Int.toNat v1) Message.dz).Index) (w64 ((w64 ((w64 ((w64 ((w64 (v0+(1:Int)))+(1:Int)))+(1:Int)))+(1:Int)))+(1:Int))) ((w5.getD (Int.toNat v1) Message.dz).Commit) ((w5.getD (Int.toNat v1) Message.dz).Entries) ((w5.getD (Int.toNat v1) Message.dz).Ok)))
   bif (decide (0≤v1)) then
   bif (decide (v1<(w6.length:Int))) then
   (let w7:List Message:=(w6.set (Int.toNat v1) (Message.mk ((w6.getD (Int.toNat v1) Message.dz).Kind) ((w6.getD (Int.toNat v1) Message.dz).From) ((w6.getD (Int.toNat v1) Message.dz).To) ((w6.getD (Int.toNat v1) Message.dz).Term) ((w6.getD (Int.toNat v1) Message.dz).Index) ((w6.getD (Int.toNat v1) Message.dz).LogTerm) (w64 ((w64 ((w64 ((w64 ((w64 ((w64 (v0+(1:Int)))+(1:Int)))+(1:Int)))+(1:Int)))+(1:Int)))+(1:Int))) ((w6.getD (Int.toNat v1) Message.dz).Entries) ((w6.getD (Int.toNat v1) Message.dz).Ok)))
   bif (decide (0≤v1)) then
   bif (decide (v1<(w7.length:Int))) then
   bif (decide ((Int.toNat v1)<w7.length)) then
   ob (laws_markEntryS.m N ((w7.getD (Int.toNat v1) Message.dz).Entries) (w64 ((w64 ((w64 ((w64 ((w64 ((w64 ((w64 (v0+(1:Int)))+(1:Int)))+(1:Int)))+(1:Int)))+(1:Int)))+(1:Int)))+(1:Int)))) fun y8=>
   (let w9:List Message:=(w7.set (Int.toNat v1) (Message.mk ((w7.getD (Int.toNat v1) Message.dz).Kind) ((w7.getD (Int.toNat v1) Message.dz).From) ((w7.getD (Int.toNat v1) Message.dz).To) ((w7.getD (Int.toNat v1) Message.dz).Term) ((w7.getD (Int.toNat v1) Message.dz).Index) ((w7.getD (Int.toNat v1) Message.dz).LogTerm) ((w7.getD (Int.toNat v1) Message.dz).Commit) y8.2 ((w7.getD (Int.toNat v1) Message.dz).Ok)))
   bif (!decide ((3:Int)=0)) then
   bif (decide (0≤v1)) then
   bif (decide (v1<(w9.length:Int))) then
   (let w10:List Message:=(w9.set (Int.toNat v1) (Message.mk ((w9.getD (Int.toNat v1) Message.dz).Kind) ((w9.getD (Int.toNat v1) Message.dz).From) ((w9.getD (Int.toNat v1) Message.dz).To) ((w9.getD (Int.toNat v1) Message.dz).Term) ((w9.getD (Int.toNat v1) Message.dz).Index) ((w9.getD (Int.toNat v1) Message.dz).LogTerm) ((w9.getD (Int.toNat v1) Message.dz).Commit) ((w9.getD (Int.toNat v1) Message.dz).Entries) ((Int.tmod y8.1 (3:Int))==(0:Int))))
   rec ((w64 (y8.1+(1:Int))),(w64 (v1+(1:Int))),w10))
   else none
   else none
   else none)
   else none
   else none
   else none)
   else none
   else none)
   else none
   else none)
   else none
   else none)
   else none
   else none)
   else none
   else none)
   else none
   else none)
   else none
   else none
  else
  some (v0,v2)
noncomputable def lp2 (N:Nat) (a0:List Message) (a1:Int):(Int×Int×(List Message))→Option R:=
 miter (fun rec=>step2 N a0 a1 rec) N
noncomputable def m0 (N:Nat) (a0:List Message) (a1:Int) (lp2:Int×Int×(List Message)→Option R):Option R:=
 lp2 (a1,(0:Int),a0)
@[reducible] noncomputable def m (N:Nat) (a0:List Message) (a1:Int):Option R:=m0 N a0 a1 (lp2 N a0 a1)
@[reducible] noncomputable def sp (N:Nat):Spec E:=⟨[.mut true (.slice 38 (.st 38)),.val (.int .i64)],[(.int .i64)],true,true,R,fun x=>m N x.1 x.2.1,fun r=>(r.1,()),fun r=>(r.2,(),()),fun a b=>(a.1,b.1),fun _ _=>rfl,fun _ _=>rfl⟩
end laws_markMessageS
namespace laws_heldEntryS
abbrev R:=Int
noncomputable def step2 (N:Nat) (a0:List Entry) (a1:Int) (rec:(Int×Int)→Option R):(Int×Int)→Option R
 | (v1,v2)=>
  bif (decide (v2<(a0.length:Int))) then
   bif (decide (0≤v2)) then
   bif (decide (v2<(a0.length:Int))) then
   bif ((a0.getD (Int.toNat v2) Entry.dz).Term != v1) then
    some (-1:Int)
   else
   bif (decide (0≤v2)) then
   bif (decide (v2<(a0.length:Int))) then
   bif ((a0.getD (Int.toNat v2) Entry.dz).Kind != (w64 (v1+(1:Int)))) then
    some (-1:Int)
   else
   bif (decide (0≤v2)) then
   bif (decide (v2<(a0.length:Int))) then
   ob (laws_markText.m N (w64 ((w64 (v1+(1:Int)))+(1:Int)))) fun y1=>
   bif (!seq ((a0.getD (Int.toNat v2) Entry.dz).Data) y1) then
    some (-1:Int)
   else
   rec ((w64 ((w64 ((w64 (v1+(1:Int)))+(1:Int)))+(1:Int))),(w64 (v2+(1:Int))))
   else none
   else none
   else none
   else none
   else none
   else none
  else
  some v1
noncomputable def lp2 (N:Nat) (a0:List Entry) (a1:Int):(Int×Int)→Option R:=
 miter (fun rec=>step2 N a0 a1 rec) N
noncomputable def m0 (N:Nat) (a0:List Entry) (a1:Int) (lp2:Int×Int→Option R):Option R:=
 lp2 (a1,(0:Int))
@[reducible] noncomputable def m (N:Nat) (a0:List Entry) (a1:Int):Option R:=m0 N a0 a1 (lp2 N a0 a1)
@[reducible] noncomputable def sp (N:Nat):Spec E:=⟨[.val (.slice 72 (.st 72)),.val (.int .i64)],[(.int .i64)],true,false,R,fun x=>m N x.1 x.2.1,fun r=>(r,()),fun r=>((),(),()),fun a b=>a.1,fun _ _=>rfl,fun _ _=>rfl⟩
end laws_heldEntryS
namespace laws_heldIntS
abbrev R:=Int
noncomputable def step2 (N:Nat) (a0:List Int) (a1:Int) (rec:(Int×Int)→Option R):(Int×Int)→Option R
 | (v1,v2)=>
  bif (decide (v2<(a0.length:Int))) then
   bif (decide (0≤v2)) then
   bif (decide (v2<(a0.length:Int))) then
   bif ((a0.getD (Int.toNat v2) (0:Int)) != v1) then
    some (-1:Int)
   else
   rec ((w64 (v1+(1:Int))),(w64 (v2+(1:Int))))
   else none
   else none
  else
  some v1
noncomputable def lp2 (N:Nat) (a0:List Int) (a1:Int):(Int×Int)→Option R:=
 miter (fun rec=>step2 N a0 a1 rec) N
noncomputable def m0 (N:Nat) (a0:List Int) (a1:Int) (lp2:Int×Int→Option R):Option R:=
 lp2 (a1,(0:Int))
@[reducible] noncomputable def m (N:Nat) (a0:List Int) (a1:Int):Option R:=m0 N a0 a1 (lp2 N a0 a1)
@[reducible] noncomputable def sp (N:Nat):Spec E:=⟨[.val (.slice 3 (.int .i64)),.val (.int .i64)],[(.int .i64)],true,false,R,fun x=>m N x.1 x.2.1,fun r=>(r,()),fun r=>((),(),()),fun a b=>a.1,fun _ _=>rfl,fun _ _=>rfl⟩
end laws_heldIntS
namespace laws_heldNode
abbrev R:=Int
noncomputable def m (N:Nat) (a0:Node) (a1:Int):Option R:=
 ob (laws_heldEntryS.m N a0.Log a1) fun y1=>
 bif (decide (y1<(0:Int))) then
  some (-1:Int)
 else
 ob (laws_heldIntS.m N a0.Start y1) fun y2=>
 bif (decide (y2<(0:Int))) then
  some (-1:Int)
 else
 ob (laws_heldIntS.m N a0.Votes y2) fun y3=>
 bif (decide (y3<(0:Int))) then
  some (-1:Int)
 else
 ob (laws_heldIntS.m N a0.Next y3) fun y4=>
 bif (decide (y4<(0:Int))) then
  some (-1:Int)
 else
 ob (laws_heldIntS.m N a0.Match y4) fun y5=>
 bif (decide (y5<(0:Int))) then
  some (-1:Int)
 else
 some y5
@[reducible] noncomputable def sp (N:Nat):Spec E:=⟨[.val (.st 32),.val (.int .i64)],[(.int .i64)],true,false,R,fun x=>m N x.1 x.2.1,fun r=>(r,()),fun r=>((),(),()),fun a b=>a.1,fun _ _=>rfl,fun _ _=>rfl⟩
end laws_heldNode
namespace laws_heldMessageS
abbrev R:=Int
noncomputable def step2 (N:Nat) (a0:List Message) (a1:Int) (rec:(Int×Int)→Option R):(Int×Int)→Option R
 | (v1,v2)=>
  bif (decide (v2<(a0.length:Int))) then
   bif (decide (0≤v2)) then
   bif (decide (v2<(a0.length:Int))) then
   bif ((a0.getD (Int.toNat v2) Message.dz).Kind != v1) then
    some (-1:Int)
   else
   bif (decide (0≤v2)) then
   bif (decide (v2<(a0.length:Int))) then
   bif ((a0.getD (Int.toNat v2) Message.dz).From != (w64 (v1+(1:Int)))) then
    some (-1:Int)
   else
   bif (decide (0≤v2)) then
   bif (decide (v2<(a0.length:Int))) then
   bif ((a0.getD (Int.toNat v2) Message.dz).To != (w64 ((w64 (v1+(1:Int)))+(1:Int)))) then
    some (-1:Int)
   else
   bif (decide (0≤v2)) then
   bif (decide (v2<(a0.length:Int))) then
   bif ((a0.getD (Int.toNat v2) Message.dz).Term != (w64 ((w64 ((w64 (v1+(1:Int)))+(1:Int)))+(1:Int)))) then
    some (-1:Int)
   else
   bif (decide (0≤v2)) then
   bif (decide (v2<(a0.length:Int))) then
   bif ((a0.getD (Int.toNat v2) Message.dz).Index != (w64 ((w64 ((w64 ((w64 (v1+(1:Int)))+(1:Int)))+(1:Int)))+(1:Int)))) then
    some (-1:Int)
   else
   bif (decide (0≤v2)) then
   bif (decide (v2<(a0.length:Int))) then
   (let w1:Bool:=((a0.getD (Int.toNat v2) Message.dz).LogTerm != (w64 ((w64 ((w64 ((w64 ((w64 (v1+(1:Int)))+(1:Int)))+(1:Int)))+(1:Int)))+(1:Int))))
   bif w1 then
    some (-1:Int)
   else
   bif (decide (0≤v2)) then
   bif (decide (v2<(a0.length:Int))) then
   (let w2:Bool:=((a0.getD (Int.toNat v2) Message.dz).Commit != (w64 ((w64 ((w64 ((w64 ((w64 ((w64 (v1+(1:Int)))+(1:Int)))+(1:Int)))+(1:Int)))+(1:Int)))+(1:Int))))
   bif w2 then
    some (-1:Int)
   else
   bif (decide (0≤v2)) then
   bif (decide (v2<(a0.length:Int))) then
   ob (laws_heldEntryS.m N ((a0.getD (Int.toNat v2) Message.dz).Entries) (w64 ((w64 ((w64 ((w64 ((w64 ((w64 ((w64 (v1+(1:Int)))+(1:Int)))+(1:Int)))+(1:Int)))+(1:Int)))+(1:Int)))+(1:Int)))) fun y3=>
   bif (decide (y3<(0:Int))) then
    some (-1:Int)
   else
   bif (decide (0≤v2)) then
   bif (decide (v2<(a0.length:Int))) then
   bif (!decide ((3:Int)=0)) then
   bif (!((a0.getD (Int.toNat v2) Message.dz).Ok==((Int.tmod y3 (3:Int))==(0:Int)))) then
    some (-1:Int)
   else
   rec ((w64 (y3+(1:Int))),(w64 (v2+(1:Int))))
   else none
   else none
   else none
   else none
   else none)
   else none
   else none)
   else none
   else none
   else none
   else none
   else none
   else none
   else none
   else none
   else none
   else none
   else none
   else none
  else
  some v1
noncomputable def lp2 (N:Nat) (a0:List Message) (a1:Int):(Int×Int)→Option R:=
 miter (fun rec=>step2 N a0 a1 rec) N
noncomputable def m0 (N:Nat) (a0:List Message) (a1:Int) (lp2:Int×Int→Option R):Option R:=
 lp2 (a1,(0:Int))
@[reducible] noncomputable def m (N:Nat) (a0:List Message) (a1:Int):Option R:=m0 N a0 a1 (lp2 N a0 a1)
@[reducible] noncomputable def sp (N:Nat):Spec E:=⟨[.val (.slice 38 (.st 38)),.val (.int .i64)],[(.int .i64)],true,false,R,fun x=>m N x.1 x.2.1,fun r=>(r,()),fun r=>((),(),()),fun a b=>a.1,fun _ _=>rfl,fun _ _=>rfl⟩
end laws_heldMessageS
namespace laws_FnExactNodeTake
abbrev R:=Bool
noncomputable def m (N:Nat) (a0:Node) (a1:Message):Option R:=
 ob (laws_szNode.m N (Node.mk a0.Id a0.Term a0.Vote a0.Log a0.Start a0.Role a0.Votes a0.Next a0.Match a0.Commit a0.Elapsed a0.Wait a0.Up) (1048576:Int)) fun y1=>
 bif (decide (y1<(0:Int))) then
  some true
 else
 ob (laws_szMessage.m N a1 y1) fun y2=>
 bif (decide (y2<(0:Int))) then
  some true
 else
 ob (laws_toNode.m N (Node.mk a0.Id a0.Term a0.Vote a0.Log a0.Start a0.Role a0.Votes a0.Next a0.Match a0.Commit a0.Elapsed a0.Wait a0.Up)) fun y3=>
 ob (laws_toMessage.m N a1) fun y4=>
 ob (spec_NodeTake.m N y3 y4) fun y5=>
 ob (laws_toNode.m N a0) fun y6=>
 ob (laws_toMessage.m N a1) fun y7=>
 ob (impl_NodeTake.m N (Node.mk y6.Id y6.Term y6.Vote y6.Log y6.Start y6.Role y6.Votes y6.Next y6.Match y6.Commit y6.Elapsed y6.Wait y6.Up) (Message.mk y7.Kind y7.From y7.To y7.Term y7.Index y7.LogTerm y7.Commit y7.Entries y7.Ok)) fun y8=>
 ob (laws_eqNode.m N y8.1 y5.1) fun y9=>
 bif (!y9) then
  some false
 else
 ob (laws_eqMessageS.m N y8.2.1 y5.2.1) fun y10=>
 bif (bif false then true else (!y10)) then
  some false
 else
 bif (bif false then true else (y8.2.2 != y5.2.2)) then
  some false
 else
 ob (laws_toNode.m N (Node.mk a0.Id a0.Term a0.Vote a0.Log a0.Start a0.Role a0.Votes a0.Next a0.Match a0.Commit a0.Elapsed a0.Wait a0.Up)) fun y11=>
 ob (laws_eqNode.m N (Node.mk y6.Id y6.Term y6.Vote y6.Log y6.Start y6.Role y6.Votes y6.Next y6.Match y6.Commit y6.Elapsed y6.Wait y6.Up) y11) fun y12=>
 bif (!y12) then
  some false
 else
 ob (laws_toMessage.m N a1) fun y13=>
 ob (laws_eqMessage.m N (Message.mk y7.Kind y7.From y7.To y7.Term y7.Index y7.LogTerm y7.Commit y7.Entries y7.Ok) y13) fun y14=>
 bif (!y14) then
  some false
 else
 ob (laws_markNode.m N (Node.mk y6.Id y6.Term y6.Vote y6.Log y6.Start y6.Role y6.Votes y6.Next y6.Match y6.Commit y6.Elapsed y6.Wait y6.Up) (1:Int)) fun y15=>
 ob (laws_markMessage.m N (Message.mk y7.Kind y7.From y7.To y7.Term y7.Index y7.LogTerm y7.Commit y7.Entries y7.Ok) y15.1) fun y16=>
 bif (decide (y16.1<(0:Int))) then
  some false
 else
 ob (laws_eqNode.m N y8.1 y5.1) fun y17=>
 bif (bif false then true else (!y17)) then
  some false
 else
 ob (laws_eqMessageS.m N y8.2.1 y5.2.1) fun y18=>
 bif (bif false then true else (!y18)) then
  some false
 else
 bif (bif false then true else (y8.2.2 != y5.2.2)) then
  some false
 else
 ob (laws_markNode.m N y8.1 (1:Int)) fun y19=>
 ob (laws_markMessageS.m N y8.2.1 y19.1) fun y20=>
 ob (laws_heldNode.m N (Node.mk y8.1.Id y8.1.Term y8.1.Vote y19.2.Log y19.2.Start y8.1.Role y19.2.Votes y19.2.Next y19.2.Match y8.1.Commit y8.1.Elapsed y8.1.Wait y8.1.Up) (1:Int)) fun y21=>
 bif (decide (y21<(0:Int))) then
  some false
 else
 ob (laws_heldMessageS.m N y20.2 y21) fun y22=>
 bif (decide (y22<(0:Int))) then
  some false
 else
 bif (y22 != y20.1) then
  some false
 else
 ob (laws_toNode.m N a0) fun y23=>
 ob (laws_toMessage.m N a1) fun y24=>
 ob (impl_NodeTake.m N y23 y24) fun y25=>
 ob (laws_eqNode.m N y25.1 y5.1) fun y26=>
 bif (!y26) then
  some false
 else
 ob (laws_eqMessageS.m N y25.2.1 y5.2.1) fun y27=>
 bif (bif false then true else (!y27)) then
  some false
 else
 bif (bif false then true else (y25.2.2 != y5.2.2)) then
  some false
 else
 ob (laws_heldNode.m N (Node.mk y8.1.Id y8.1.Term y8.1.Vote y19.2.Log y19.2.Start y8.1.Role y19.2.Votes y19.2.Next y19.2.Match y8.1.Commit y8.1.Elapsed y8.1.Wait y8.1.Up) (1:Int)) fun y28=>
 bif (decide (y28<(0:Int))) then
  some false
 else
 ob (laws_heldMessageS.m N y20.2 y28) fun y29=>
 bif (decide (y29<(0:Int))) then
  some false
 else
 bif (y29 != y20.1) then
  some false
 else
 some true
@[reducible] noncomputable def sp (N:Nat):Spec E:=⟨[.val (.st 25),.val (.st 27)],[.bool],true,false,R,fun x=>m N x.1 x.2.1,fun r=>(r,()),fun r=>((),(),()),fun a b=>a.1,fun _ _=>rfl,fun _ _=>rfl⟩
end laws_FnExactNodeTake
end Mir.Y
