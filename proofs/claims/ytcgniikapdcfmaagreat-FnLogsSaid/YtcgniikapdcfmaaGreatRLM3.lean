/- Models of functions. -/
import Derived.Test.YtcgniikapdcfmaaGreatRLM2
namespace Mir.Y
set_option linter.unusedVariables false
set_option maxRecDepth 10000
open Go Go.Proofs Mir
namespace impl_Group_done
abbrev R:=Int×Group
noncomputable def m (N:Nat) (a0:Group) (a1:Node) (a2:List Message) (a3:Int):Option R:=
 bif (a3==(0:Int)) then
  ob (impl_Group_put_.m N a0 a1 a2) fun y1=>
  some (a3,y1)
 else
 some (a3,a0)
@[reducible] noncomputable def sp (N:Nat):Spec E:=⟨[.box false 29 29,.val (.st 39),.val (.slice 74 (.st 74)),.val (.int .i64)],[(.int .i64)],true,false,R,fun x=>m N x.1 x.2.1 x.2.2.1 x.2.2.2.1,fun r=>(r.1,()),fun r=>(r.2,(),(),(),()),fun a b=>(a.1,b.1),fun _ _=>rfl,fun _ _=>rfl⟩
end impl_Group_done
namespace impl_Group_ofWire_
abbrev R:=Int×Group
noncomputable def m (N:Nat) (a0:Group) (a1:GroupAct):Option R:=
 ob (impl_within.m N a1.N (0:Int) (w64 ((a0.Wire.length:Int) - (1:Int)))) fun y1=>
 bif (!y1) then
  some ((4:Int),a0)
 else
 bif (decide (0≤a1.N)) then
 bif (decide (a1.N<(a0.Wire.length:Int))) then
 bif (a1.Kind==(4:Int)) then
  bif ((a0.Wire.length:Int)==(60:Int)) then
   some ((7:Int),a0)
  else
  ob (impl_copyMessage.m N (a0.Wire.getD (Int.toNat a1.N) Message.dz)) fun y2=>
  bif (room (a0.Wire.length+([y2]).length) 88) then
  some ((0:Int),(Group.mk a0.Nodes (a0.Wire++[y2]) a0.Leads a0.Dones))
  else none
 else
 ob (slices_Delete_impl_Message.m N a0.Wire a1.N (w64 (a1.N+(1:Int)))) fun y3=>
 bif (a1.Kind==(3:Int)) then
  some ((0:Int),(Group.mk a0.Nodes y3 a0.Leads a0.Dones))
 else
 bif (bif false then true else (decide ((a0.Wire.getD (Int.toNat a1.N) Message.dz).To≥(a0.Nodes.length:Int)))) then
  some ((0:Int),(Group.mk a0.Nodes y3 a0.Leads a0.Dones))
 else
 bif (decide (0≤(a0.Wire.getD (Int.toNat a1.N) Message.dz).To)) then
 bif (decide ((a0.Wire.getD (Int.toNat a1.N) Message.dz).To<(a0.Nodes.length:Int))) then
 bif (bif false then true else (!((a0.Nodes.getD (Int.toNat ((a0.Wire.getD (Int.toNat a1.N) Message.dz).To)) Node.dz).Up))) then
  some ((0:Int),(Group.mk a0.Nodes y3 a0.Leads a0.Dones))
 else
 bif (decide (0≤(a0.Wire.getD (Int.toNat a1.N) Message.dz).To)) then
 bif (decide ((a0.Wire.getD (Int.toNat a1.N) Message.dz).To<(a0.Nodes.length:Int))) then
 ob (impl_NodeTake.m N (a0.Nodes.getD (Int.toNat ((a0.Wire.getD (Int.toNat a1.N) Message.dz).To)) Node.dz) (a0.Wire.getD (Int.toNat a1.N) Message.dz)) fun y4=>
 ob (impl_Group_done.m N (Group.mk a0.Nodes y3 a0.Leads a0.Dones) y4.1 y4.2.1 y4.2.2) fun y5=>
 some (y5.1,y5.2)
 else none
 else none
 else none
 else none
 else none
 else none
@[reducible] noncomputable def sp (N:Nat):Spec E:=⟨[.box false 29 29,.val (.st 46)],[(.int .i64)],true,false,R,fun x=>m N x.1 x.2.1,fun r=>(r.1,()),fun r=>(r.2,(),()),fun a b=>(a.1,b.1),fun _ _=>rfl,fun _ _=>rfl⟩
end impl_Group_ofWire_
namespace impl_NodeCrash
abbrev R:=Node×Int
noncomputable def m (N:Nat) (a0:Node):Option R:=
 ob (impl_NodeOK.m N a0) fun y1=>
 bif (!y1) then
  some ((Node.mk (0:Int) (0:Int) (0:Int) ([]:List Entry) ([]:List Int) (0:Int) ([]:List Int) ([]:List Int) ([]:List Int) (0:Int) (0:Int) (0:Int) false),(1:Int))
 else
 ob (impl_newNode.m N a0.Id a0.Start) fun y2=>
 ob (slices_Clone_impl_Entry_impl_Entry.m N a0.Log) fun y3=>
 some ((Node.mk y2.Id a0.Term a0.Vote y3 y2.Start y2.Role y2.Votes y2.Next y2.Match y2.Commit y2.Elapsed a0.Wait false),(0:Int))
@[reducible] noncomputable def sp (N:Nat):Spec E:=⟨[.val (.st 39)],[(.st 39),(.int .i64)],true,false,R,fun x=>m N x.1,fun r=>(r.1,r.2,()),fun r=>((),()),fun a b=>(a.1,a.2.1),fun _ _=>rfl,fun _ _=>rfl⟩
end impl_NodeCrash
namespace impl_worker_stand
abbrev R:=worker
noncomputable def step4 (N:Nat) (a0:worker) (a1:Int) (rec:(Int×Int×Int×Int×Int×Int×Int×Int×Int×Bool×(List Entry)×(List Int)×(List Int)×(List Int)×(List Int)×(List Message)×(List Int))→Option R):(Int×Int×Int×Int×Int×Int×Int×Int×Int×Bool×(List Entry)×(List Int)×(List Int)×(List Int)×(List Int)×(List Message)×(List Int))→Option R
 | (v0,v1,v2,v3,v4,v5,v6,v7,v8,v9,v10,v11,v12,v13,v14,v15,v16)=>
  bif (decide (v1<v0)) then
   bif (decide (0≤v1)) then
   bif (decide (v1<(v16.length:Int))) then
   ob (impl_Node_termAt.m N (Node.mk v2 v3 v4 v10 v11 v5 v12 v13 v14 v6 v7 v8 v9) (v10.length:Int)) fun y3=>
   ob (impl_worker_send.m N (worker.mk (Node.mk v2 v3 v4 v10 v11 v5 v12 v13 v14 v6 v7 v8 v9) v15) (Message.mk (1:Int) (0:Int) (v16.getD (Int.toNat v1) (0:Int)) (0:Int) (v10.length:Int) y3 (0:Int) ([]:List Entry) false)) fun y4=>
   rec (v0,(w64 (v1+(1:Int))),y4.Node.Id,y4.Node.Term,y4.Node.Vote,y4.Node.Role,y4.Node.Commit,y4.Node.Elapsed,y4.Node.Wait,y4.Node.Up,y4.Node.Log,y4.Node.Start,y4.Node.Votes,y4.Node.Next,y4.Node.Match,y4.sent,v16)
   else none
   else none
  else
  some (worker.mk (Node.mk v2 v3 v4 v10 v11 v5 v12 v13 v14 v6 v7 v8 v9) v15)
noncomputable def lp4 (N:Nat) (a0:worker) (a1:Int):(Int×Int×Int×Int×Int×Int×Int×Int×Int×Bool×(List Entry)×(List Int)×(List Int)×(List Int)×(List Int)×(List Message)×(List Int))→Option R:=
 miter (fun rec=>step4 N a0 a1 rec) N
noncomputable def m0 (N:Nat) (a0:worker) (a1:Int) (lp4:Int×Int×Int×Int×Int×Int×Int×Int×Int×Bool×(List Entry)×(List Int)×(List Int)×(List Int)×(List Int)×(List Message)×(List Int)→Option R):Option R:=
 bif (!decide ((8:Int)=0)) then
 ob (impl_worker_leadIf.m N (worker.mk (Node.mk a0.Node.Id (w64 (a0.Node.Term+(1:Int))) a0.Node.Id a0.Node.Log a0.Node.Start (1:Int) ([a0.Node.Id]) a0.Node.Next a0.Node.Match a0.Node.Commit (0:Int) (w64 ((5:Int)+(Int.tmod a1 (8:Int)))) a0.Node.Up) a0.sent)) fun y1=>
 bif y1.1 then
  some (worker.mk (Node.mk y1.2.Node.Id y1.2.Node.Term y1.2.Node.Vote y1.2.Node.Log y1.2.Node.Start y1.2.Node.Role y1.2.Node.Votes y1.2.Node.Next y1.2.Node.Match y1.2.Node.Commit y1.2.Node.Elapsed y1.2.Node.Wait y1.2.Node.Up) y1.2.sent)
 else
 ob (impl_worker_others_.m N (worker.mk (Node.mk y1.2.Node.Id y1.2.Node.Term y1.2.Node.Vote y1.2.Node.Log y1.2.Node.Start y1.2.Node.Role y1.2.Node.Votes y1.2.Node.Next y1.2.Node.Match y1.2.Node.Commit y1.2.Node.Elapsed y1.2.Node.Wait y1.2.Node.Up) y1.2.sent)) fun y2=>
 lp4 ((y2.length:Int),(0:Int),y1.2.Node.Id,y1.2.Node.Term,y1.2.Node.Vote,y1.2.Node.Role,y1.2.Node.Commit,y1.2.Node.Elapsed,y1.2.Node.Wait,y1.2.Node.Up,y1.2.Node.Log,y1.2.Node.Start,y1.2.Node.Votes,y1.2.Node.Next,y1.2.Node.Match,y1.2.sent,y2)
 else none
@[reducible] noncomputable def m (N:Nat) (a0:worker) (a1:Int):Option R:=m0 N a0 a1 (lp4 N a0 a1)
@[reducible] noncomputable def sp (N:Nat):Spec E:=⟨[.box false 119 119,.val (.int .i64)],[],true,false,R,fun x=>m N x.1 x.2.1,fun r=>(),fun r=>(r,(),()),fun a b=>b.1,fun _ _=>rfl,fun _ _=>rfl⟩
end impl_worker_stand
namespace impl_worker_tick
abbrev R:=worker
noncomputable def m (N:Nat) (a0:worker) (a1:Int):Option R:=
 bif (a0.Node.Role==(2:Int)) then
  (let w1:Bool:=(bif true then (decide ((if (w64 (a0.Node.Elapsed+(1:Int)))<(1000:Int) then (w64 (a0.Node.Elapsed+(1:Int))) else (1000:Int))≥(2:Int))) else false)
  bif w1 then
   ob (impl_worker_tellAll.m N (worker.mk (Node.mk a0.Node.Id a0.Node.Term a0.Node.Vote a0.Node.Log a0.Node.Start a0.Node.Role a0.Node.Votes a0.Node.Next a0.Node.Match a0.Node.Commit (0:Int) a0.Node.Wait a0.Node.Up) a0.sent) a0.Node.Commit) fun y2=>
   some (worker.mk (Node.mk y2.Node.Id y2.Node.Term y2.Node.Vote y2.Node.Log y2.Node.Start y2.Node.Role y2.Node.Votes y2.Node.Next y2.Node.Match y2.Node.Commit y2.Node.Elapsed y2.Node.Wait y2.Node.Up) y2.sent)
  else
  bif (a0.Node.Role != (2:Int)) then
   (let w3:Bool:=(bif true then (decide ((if (w64 (a0.Node.Elapsed+(1:Int)))<(1000:Int) then (w64 (a0.Node.Elapsed+(1:Int))) else (1000:Int))≥a0.Node.Wait)) else false)
   bif w3 then
    bif (bif true then (decide (a0.Node.Term<(1000000:Int))) else false) then
     ob (impl_Node_members.m N (Node.mk a0.Node.Id a0.Node.Term a0.Node.Vote a0.Node.Log a0.Node.Start a0.Node.Role a0.Node.Votes a0.Node.Next a0.Node.Match a0.Node.Commit (if (w64 (a0.Node.Elapsed+(1:Int)))<(1000:Int) then (w64 (a0.Node.Elapsed+(1:Int))) else (1000:Int)) a0.Node.Wait a0.Node.Up)) fun y4=>
     ob (slices_Contains_int_int.m N y4 a0.Node.Id) fun y5=>
     bif (bif true then y5 else false) then
      ob (impl_worker_stand.m N (worker.mk (Node.mk a0.Node.Id a0.Node.Term a0.Node.Vote a0.Node.Log a0.Node.Start a0.Node.Role a0.Node.Votes a0.Node.Next a0.Node.Match a0.Node.Commit (if (w64 (a0.Node.Elapsed+(1:Int)))<(1000:Int) then (w64 (a0.Node.Elapsed+(1:Int))) else (1000:Int)) a0.Node.Wait a0.Node.Up) a0.sent) a1) fun y6=>
      some (worker.mk (Node.mk y6.Node.Id y6.Node.Term y6.Node.Vote y6.Node.Log y6.Node.Start y6.Node.Role y6.Node.Votes y6.Node.Next y6.Node.Match y6.Node.Commit y6.Node.Elapsed y6.Node.Wait y6.Node.Up) y6.sent)
     else
     some (worker.mk (Node.mk a0.Node.Id a0.Node.Term a0.Node.Vote a0.Node.Log a0.Node.Start a0.Node.Role a0.Node.Votes a0.Node.Next a0.Node.Match a0.Node.Commit (if (w64 (a0.Node.Elapsed+(1:Int)))<(1000:Int) then (w64 (a0.Node.Elapsed+(1:Int))) else (1000:Int)) a0.Node.Wait a0.Node.Up) a0.sent)
    else
    some (worker.mk (Node.mk a0.Node.Id a0.Node.Term a0.Node.Vote a0.Node.Log a0.Node.Start a0.Node.Role a0.Node.Votes a0.Node.Next a0.Node.Match a0.Node.Commit (if (w64 (a0.Node.Elapsed+(1:Int)))<(1000:Int) then (w64 (a0.Node.Elapsed+(1:Int))) else (1000:Int)) a0.Node.Wait a0.Node.Up) a0.sent)
   else
   some (worker.mk (Node.mk a0.Node.Id a0.Node.Term a0.Node.Vote a0.Node.Log a0.Node.Start a0.Node.Role a0.Node.Votes a0.Node.Next a0.Node.Match a0.Node.Commit (if (w64 (a0.Node.Elapsed+(1:Int)))<(1000:Int) then (w64 (a0.Node.Elapsed+(1:Int))) else (1000:Int)) a0.Node.Wait a0.Node.Up) a0.sent))
  else
  some (worker.mk (Node.mk a0.Node.Id a0.Node.Term a0.Node.Vote a0.Node.Log a0.Node.Start a0.Node.Role a0.Node.Votes a0.Node.Next a0.Node.Match a0.Node.Commit (if (w64 (a0.Node.Elapsed+(1:Int)))<(1000:Int) then (w64 (a0.Node.Elapsed+(1:Int))) else (1000:Int)) a0.Node.Wait a0.Node.Up) a0.sent))
 else
 bif (a0.Node.Role != (2:Int)) then
  (let w7:Bool:=(bif true then (decide ((if (w64 (a0.Node.Elapsed+(1:Int)))<(1000:Int) then (w64 (a0.Node.Elapsed+(1:Int))) else (1000:Int))≥a0.Node.Wait)) else false)
  bif w7 then
   bif (bif true then (decide (a0.Node.Term<(1000000:Int))) else false) then
    ob (impl_Node_members.m N (Node.mk a0.Node.Id a0.Node.Term a0.Node.Vote a0.Node.Log a0.Node.Start a0.Node.Role a0.Node.Votes a0.Node.Next a0.Node.Match a0.Node.Commit (if (w64 (a0.Node.Elapsed+(1:Int)))<(1000:Int) then (w64 (a0.Node.Elapsed+(1:Int))) else (1000:Int)) a0.Node.Wait a0.Node.Up)) fun y8=>
    ob (slices_Contains_int_int.m N y8 a0.Node.Id) fun y9=>
    bif (bif true then y9 else false) then
     ob (impl_worker_stand.m N (worker.mk (Node.mk a0.Node.Id a0.Node.Term a0.Node.Vote a0.Node.Log a0.Node.Start a0.Node.Role a0.Node.Votes a0.Node.Next a0.Node.Match a0.Node.Commit (if (w64 (a0.Node.Elapsed+(1:Int)))<(1000:Int) then (w64 (a0.Node.Elapsed+(1:Int))) else (1000:Int)) a0.Node.Wait a0.Node.Up) a0.sent) a1) fun y10=>
     some (worker.mk (Node.mk y10.Node.Id y10.Node.Term y10.Node.Vote y10.Node.Log y10.Node.Start y10.Node.Role y10.Node.Votes y10.Node.Next y10.Node.Match y10.Node.Commit y10.Node.Elapsed y10.Node.Wait y10.Node.Up) y10.sent)
    else
    some (worker.mk (Node.mk a0.Node.Id a0.Node.Term a0.Node.Vote a0.Node.Log a0.Node.Start a0.Node.Role a0.Node.Votes a0.Node.Next a0.Node.Match a0.Node.Commit (if (w64 (a0.Node.Elapsed+(1:Int)))<(1000:Int) then (w64 (a0.Node.Elapsed+(1:Int))) else (1000:Int)) a0.Node.Wait a0.Node.Up) a0.sent)
   else
   some (worker.mk (Node.mk a0.Node.Id a0.Node.Term a0.Node.Vote a0.Node.Log a0.Node.Start a0.Node.Role a0.Node.Votes a0.Node.Next a0.Node.Match a0.Node.Commit (if (w64 (a0.Node.Elapsed+(1:Int)))<(1000:Int) then (w64 (a0.Node.Elapsed+(1:Int))) else (1000:Int)) a0.Node.Wait a0.Node.Up) a0.sent)
  else
  some (worker.mk (Node.mk a0.Node.Id a0.Node.Term a0.Node.Vote a0.Node.Log a0.Node.Start a0.Node.Role a0.Node.Votes a0.Node.Next a0.Node.Match a0.Node.Commit (if (w64 (a0.Node.Elapsed+(1:Int)))<(1000:Int) then (w64 (a0.Node.Elapsed+(1:Int))) else (1000:Int)) a0.Node.Wait a0.Node.Up) a0.sent))
 else
 some (worker.mk (Node.mk a0.Node.Id a0.Node.Term a0.Node.Vote a0.Node.Log a0.Node.Start a0.Node.Role a0.Node.Votes a0.Node.Next a0.Node.Match a0.Node.Commit (if (w64 (a0.Node.Elapsed+(1:Int)))<(1000:Int) then (w64 (a0.Node.Elapsed+(1:Int))) else (1000:Int)) a0.Node.Wait a0.Node.Up) a0.sent)
@[reducible] noncomputable def sp (N:Nat):Spec E:=⟨[.box false 119 119,.val (.int .i64)],[],true,false,R,fun x=>m N x.1 x.2.1,fun r=>(),fun r=>(r,(),()),fun a b=>b.1,fun _ _=>rfl,fun _ _=>rfl⟩
end impl_worker_tick
namespace impl_NodeTick
abbrev R:=Node×(List Message)×Int
noncomputable def m (N:Nat) (a0:Node) (a1:Int):Option R:=
 ob (impl_NodeOK.m N a0) fun y1=>
 bif (!y1) then
  some ((Node.mk (0:Int) (0:Int) (0:Int) ([]:List Entry) ([]:List Int) (0:Int) ([]:List Int) ([]:List Int) ([]:List Int) (0:Int) (0:Int) (0:Int) false),([]:List Message),(1:Int))
 else
 ob (impl_within.m N a1 (0:Int) (1000000:Int)) fun y2=>
 bif (!y2) then
  some ((Node.mk (0:Int) (0:Int) (0:Int) ([]:List Entry) ([]:List Int) (0:Int) ([]:List Int) ([]:List Int) ([]:List Int) (0:Int) (0:Int) (0:Int) false),([]:List Message),(4:Int))
 else
 bif (!a0.Up) then
  ob (impl_copyNode.m N a0) fun y3=>
  some (y3,([]:List Message),(5:Int))
 else
 ob (impl_copyNode.m N a0) fun y4=>
 ob (impl_worker_tick.m N (worker.mk (Node.mk y4.Id y4.Term y4.Vote y4.Log y4.Start y4.Role y4.Votes y4.Next y4.Match y4.Commit y4.Elapsed y4.Wait y4.Up) ([]:List Message)) a1) fun y5=>
 ob (impl_worker_asNode.m N (worker.mk (Node.mk y5.Node.Id y5.Node.Term y5.Node.Vote y5.Node.Log y5.Node.Start y5.Node.Role y5.Node.Votes y5.Node.Next y5.Node.Match y5.Node.Commit y5.Node.Elapsed y5.Node.Wait y5.Node.Up) y5.sent)) fun y6=>
 some (y6.1,y6.2,(0:Int))
@[reducible] noncomputable def sp (N:Nat):Spec E:=⟨[.val (.st 39),.val (.int .i64)],[(.st 39),(.slice 74 (.st 74)),(.int .i64)],true,false,R,fun x=>m N x.1 x.2.1,fun r=>(r.1,r.2.1,r.2.2,()),fun r=>((),(),()),fun a b=>(a.1,a.2.1,a.2.2.1),fun _ _=>rfl,fun _ _=>rfl⟩
end impl_NodeTick
namespace impl_propose
abbrev R:=Node×(List Message)×Int
noncomputable def m (N:Nat) (a0:Node) (a1:Int) (a2:ByteArray):Option R:=
 bif (!a0.Up) then
  ob (impl_copyNode.m N a0) fun y1=>
  some (y1,([]:List Message),(5:Int))
 else
 bif (a0.Role != (2:Int)) then
  ob (impl_copyNode.m N a0) fun y2=>
  some (y2,([]:List Message),(14:Int))
 else
 bif ((a0.Log.length:Int)==(60:Int)) then
  ob (impl_copyNode.m N a0) fun y3=>
  some (y3,([]:List Message),(7:Int))
 else
 ob (impl_copyNode.m N a0) fun y4=>
 bif (room (y4.Log.length+([(Entry.mk a0.Term a1 a2)]).length) 32) then
 ob (impl_worker_commit.m N (worker.mk (Node.mk y4.Id y4.Term y4.Vote (y4.Log++[(Entry.mk a0.Term a1 a2)]) y4.Start y4.Role y4.Votes y4.Next y4.Match y4.Commit y4.Elapsed y4.Wait y4.Up) ([]:List Message))) fun y5=>
 ob (impl_worker_tellAll.m N (worker.mk (Node.mk y5.Node.Id y5.Node.Term y5.Node.Vote y5.Node.Log y5.Node.Start y5.Node.Role y5.Node.Votes y5.Node.Next y5.Node.Match y5.Node.Commit y5.Node.Elapsed y5.Node.Wait y5.Node.Up) y5.sent) y5.Node.Commit) fun y6=>
 ob (impl_worker_asNode.m N (worker.mk (Node.mk y6.Node.Id y6.Node.Term y6.Node.Vote y6.Node.Log y6.Node.Start y6.Node.Role y6.Node.Votes y6.Node.Next y6.Node.Match y6.Node.Commit y6.Node.Elapsed y6.Node.Wait y6.Node.Up) y6.sent)) fun y7=>
 some (y7.1,y7.2,(0:Int))
 else none
@[reducible] noncomputable def sp (N:Nat):Spec E:=⟨[.val (.st 39),.val (.int .i64),.val .str],[(.st 39),(.slice 74 (.st 74)),(.int .i64)],true,false,R,fun x=>m N x.1 x.2.1 x.2.2.1,fun r=>(r.1,r.2.1,r.2.2,()),fun r=>((),(),(),()),fun a b=>(a.1,a.2.1,a.2.2.1),fun _ _=>rfl,fun _ _=>rfl⟩
end impl_propose
namespace impl_configAllowed_1
abbrev R:=Bool
noncomputable def m (N:Nat) (a0:Entry):Option R:=
 some (a0.Kind==(2:Int))
@[reducible] noncomputable def sp (N:Nat):Spec E:=⟨[.val (.st 41)],[.bool],true,false,R,fun x=>m N x.1,fun r=>(r,()),fun r=>((),()),fun a b=>a.1,fun _ _=>rfl,fun _ _=>rfl⟩
end impl_configAllowed_1
namespace slices_IndexFunc_impl_Entry_impl_Entry__impl_configAllowed_1
abbrev R:=Int
noncomputable def step2 (N:Nat) (a0:List Entry) (rec:(Int×Int)→Option R):(Int×Int)→Option R
 | (v1,v2)=>
  bif (decide (v2<v1)) then
   bif (decide (0≤v2)) then
   bif (decide (v2<(a0.length:Int))) then
   ob (impl_configAllowed_1.m N (a0.getD (Int.toNat v2) Entry.dz)) fun y1=>
   bif y1 then
    some v2
   else
   rec (v1,(w64 (v2+(1:Int))))
   else none
   else none
  else
  some (-1:Int)
noncomputable def lp2 (N:Nat) (a0:List Entry):(Int×Int)→Option R:=
 miter (fun rec=>step2 N a0 rec) N
noncomputable def m0 (N:Nat) (a0:List Entry) (lp2:Int×Int→Option R):Option R:=
 lp2 ((a0.length:Int),(0:Int))
@[reducible] noncomputable def m (N:Nat) (a0:List Entry):Option R:=m0 N a0 (lp2 N a0)
@[reducible] noncomputable def sp (N:Nat):Spec E:=⟨[.val (.slice 41 (.st 41)),.clo 93 []],[(.int .i64)],true,false,R,fun x=>m N x.1,fun r=>(r,()),fun r=>((),(),()),fun a b=>a.1,fun _ _=>rfl,fun _ _=>rfl⟩
end slices_IndexFunc_impl_Entry_impl_Entry__impl_configAllowed_1
namespace slices_ContainsFunc_impl_Entry_impl_Entry__impl_configAllowed_1
abbrev R:=Bool
noncomputable def m (N:Nat) (a0:List Entry):Option R:=
 ob (slices_IndexFunc_impl_Entry_impl_Entry__impl_configAllowed_1.m N a0) fun y1=>
 some (decide (y1≥(0:Int)))
@[reducible] noncomputable def sp (N:Nat):Spec E:=⟨[.val (.slice 41 (.st 41)),.clo 93 []],[.bool],true,false,R,fun x=>m N x.1,fun r=>(r,()),fun r=>((),(),()),fun a b=>a.1,fun _ _=>rfl,fun _ _=>rfl⟩
end slices_ContainsFunc_impl_Entry_impl_Entry__impl_configAllowed_1
namespace impl_configAllowed
abbrev R:=Bool
noncomputable def step3 (N:Nat) (a0:Node) (a1:List Int) (rec:(Int×Int×(List Int))→Option R):(Int×Int×(List Int))→Option R
 | (v1,v2,v16)=>
  bif (decide (v2<(7:Int))) then
   ob (slices_Contains_int_int.m N v16 v2) fun y2=>
   ob (slices_Contains_int_int.m N a1 v2) fun y3=>
   bif (!(y2==y3)) then
    rec ((w64 (v1+(1:Int))),(w64 (v2+(1:Int))),v16)
   else
   rec (v1,(w64 (v2+(1:Int))),v16)
  else
  bif (decide (0≤a0.Commit)) then
  bif (decide (a0.Commit≤((a0.Log.length:Nat):Int))) then
  ob (slices_ContainsFunc_impl_Entry_impl_Entry__impl_configAllowed_1.m N (a0.Log.drop (Int.toNat a0.Commit))) fun y4=>
  bif (v1==(1:Int)) then
   bif (bif true then (a0.Role==(2:Int)) else false) then
    bif (bif true then (decide (a0.Commit > (0:Int))) else false) then
     ob (impl_Node_termAt.m N a0 a0.Commit) fun y5=>
     bif (bif true then (y5==a0.Term) else false) then
      some (bif true then (!y4) else false)
     else
     some false
    else
    some false
   else
   some false
  else
  some false
  else none
  else none
noncomputable def lp3 (N:Nat) (a0:Node) (a1:List Int):(Int×Int×(List Int))→Option R:=
 miter (fun rec=>step3 N a0 a1 rec) N
noncomputable def m0 (N:Nat) (a0:Node) (a1:List Int) (lp3:Int×Int×(List Int)→Option R):Option R:=
 ob (impl_Node_members.m N a0) fun y1=>
 lp3 ((0:Int),(0:Int),y1)
@[reducible] noncomputable def m (N:Nat) (a0:Node) (a1:List Int):Option R:=m0 N a0 a1 (lp3 N a0 a1)
@[reducible] noncomputable def sp (N:Nat):Spec E:=⟨[.val (.st 39),.val (.slice 3 (.int .i64))],[.bool],true,false,R,fun x=>m N x.1 x.2.1,fun r=>(r,()),fun r=>((),(),()),fun a b=>a.1,fun _ _=>rfl,fun _ _=>rfl⟩
end impl_configAllowed
namespace impl_Group_config
abbrev R:=Int×Group
noncomputable def m (N:Nat) (a0:Group) (a1:Node) (a2:ByteArray):Option R:=
 ob (impl_readMembers.m N a2) fun y1=>
 bif (!y1.2) then
  some ((1:Int),a0)
 else
 bif (decide (0≤(w64 ((y1.1.length:Int) - (1:Int))))) then
 bif (decide ((w64 ((y1.1.length:Int) - (1:Int)))<(y1.1.length:Int))) then
 bif (bif false then true else (decide ((y1.1.getD (Int.toNat (w64 ((y1.1.length:Int) - (1:Int)))) (0:Int))≥(a0.Nodes.length:Int)))) then
  some ((1:Int),a0)
 else
 bif (a1.Role==(2:Int)) then
  ob (impl_configAllowed.m N a1 y1.1) fun y2=>
  bif (bif true then (!y2) else false) then
   some ((17:Int),a0)
  else
  ob (impl_propose.m N a1 (2:Int) a2) fun y3=>
  ob (impl_Group_done.m N a0 y3.1 y3.2.1 y3.2.2) fun y4=>
  some (y4.1,y4.2)
 else
 ob (impl_propose.m N a1 (2:Int) a2) fun y5=>
 ob (impl_Group_done.m N a0 y5.1 y5.2.1 y5.2.2) fun y6=>
 some (y6.1,y6.2)
 else none
 else none
@[reducible] noncomputable def sp (N:Nat):Spec E:=⟨[.box false 29 29,.val (.st 39),.val .str],[(.int .i64)],true,false,R,fun x=>m N x.1 x.2.1 x.2.2.1,fun r=>(r.1,()),fun r=>(r.2,(),(),()),fun a b=>(a.1,b.1),fun _ _=>rfl,fun _ _=>rfl⟩
end impl_Group_config
namespace impl_Group_ofNode
abbrev R:=Int×Group
noncomputable def m (N:Nat) (a0:Group) (a1:GroupAct):Option R:=
 ob (impl_within.m N a1.N (0:Int) (w64 ((a0.Nodes.length:Int) - (1:Int)))) fun y1=>
 bif (!y1) then
  some ((4:Int),a0)
 else
 bif (decide (0≤a1.N)) then
 bif (decide (a1.N<(a0.Nodes.length:Int))) then
 bif (a1.Kind==(8:Int)) then
  bif (bif true then (a0.Nodes.getD (Int.toNat a1.N) Node.dz).Up else false) then
   some ((9:Int),a0)
  else
  bif (a1.Kind==(8:Int)) then
   (let w2:List Node:=(a0.Nodes.set (Int.toNat a1.N) (Node.mk ((a0.Nodes.getD (Int.toNat a1.N) Node.dz).Id) ((a0.Nodes.getD (Int.toNat a1.N) Node.dz).Term) ((a0.Nodes.getD (Int.toNat a1.N) Node.dz).Vote) ((a0.Nodes.getD (Int.toNat a1.N) Node.dz).Log) ((a0.Nodes.getD (Int.toNat a1.N) Node.dz).Start) ((a0.Nodes.getD (Int.toNat a1.N) Node.dz).Role) ((a0.Nodes.getD (Int.toNat a1.N) Node.dz).Votes) ((a0.Nodes.getD (Int.toNat a1.N) Node.dz).Next) ((a0.Nodes.getD (Int.toNat a1.N) Node.dz).Match) ((a0.Nodes.getD (Int.toNat a1.N) Node.dz).Commit) ((a0.Nodes.getD (Int.toNat a1.N) Node.dz).Elapsed) ((a0.Nodes.getD (Int.toNat a1.N) Node.dz).Wait) true))
   some ((0:Int),(Group.mk w2 a0.Wire a0.Leads a0.Dones)))
  else
  bif (!((a0.Nodes.getD (Int.toNat a1.N) Node.dz).Up)) then
   some ((5:Int),a0)
  else
  bif (a1.Kind==(7:Int)) then
   ob (impl_NodeCrash.m N (a0.Nodes.getD (Int.toNat a1.N) Node.dz)) fun y3=>
   some ((0:Int),(Group.mk (a0.Nodes.set (Int.toNat a1.N) y3.1) a0.Wire a0.Leads a0.Dones))
  else
  bif (a1.Kind==(1:Int)) then
   ob (impl_NodeTick.m N (a0.Nodes.getD (Int.toNat a1.N) Node.dz) a1.Draw) fun y4=>
   ob (impl_Group_done.m N (Group.mk a0.Nodes a0.Wire a0.Leads a0.Dones) y4.1 y4.2.1 y4.2.2) fun y5=>
   some (y5.1,y5.2)
  else
  bif (a1.Kind==(5:Int)) then
   ob (impl_within.m N (a1.Data.size:Int) (1:Int) (100:Int)) fun y6=>
   bif (!y6) then
    some ((1:Int),(Group.mk a0.Nodes a0.Wire a0.Leads a0.Dones))
   else
   ob (impl_propose.m N (a0.Nodes.getD (Int.toNat a1.N) Node.dz) (1:Int) a1.Data) fun y7=>
   ob (impl_Group_done.m N (Group.mk a0.Nodes a0.Wire a0.Leads a0.Dones) y7.1 y7.2.1 y7.2.2) fun y8=>
   some (y8.1,y8.2)
  else
  ob (impl_Group_config.m N a0 (a0.Nodes.getD (Int.toNat a1.N) Node.dz) a1.Data) fun y9=>
  some (y9.1,y9.2)
 else
 bif (a1.Kind==(8:Int)) then
  (let w10:List Node:=(a0.Nodes.set (Int.toNat a1.N) (Node.mk ((a0.Nodes.getD (Int.toNat a1.N) Node.dz).Id) ((a0.Nodes.getD (Int.toNat a1.N) Node.dz).Term) ((a0.Nodes.getD (Int.toNat a1.N) Node.dz).Vote) ((a0.Nodes.getD (Int.toNat a1.N) Node.dz).Log) ((a0.Nodes.getD (Int.toNat a1.N) Node.dz).Start) ((a0.Nodes.getD (Int.toNat a1.N) Node.dz).Role) ((a0.Nodes.getD (Int.toNat a1.N) Node.dz).Votes) ((a0.Nodes.getD (Int.toNat a1.N) Node.dz).Next) ((a0.Nodes.getD (Int.toNat a1.N) Node.dz).Match) ((a0.Nodes.getD (Int.toNat a1.N) Node.dz).Commit) ((a0.Nodes.getD (Int.toNat a1.N) Node.dz).Elapsed) ((a0.Nodes.getD (Int.toNat a1.N) Node.dz).Wait) true))
  some ((0:Int),(Group.mk w10 a0.Wire a0.Leads a0.Dones)))
 else
 bif (!((a0.Nodes.getD (Int.toNat a1.N) Node.dz).Up)) then
  some ((5:Int),a0)
 else
 bif (a1.Kind==(7:Int)) then
  ob (impl_NodeCrash.m N (a0.Nodes.getD (Int.toNat a1.N) Node.dz)) fun y11=>
  some ((0:Int),(Group.mk (a0.Nodes.set (Int.toNat a1.N) y11.1) a0.Wire a0.Leads a0.Dones))
 else
 bif (a1.Kind==(1:Int)) then
  ob (impl_NodeTick.m N (a0.Nodes.getD (Int.toNat a1.N) Node.dz) a1.Draw) fun y12=>
  ob (impl_Group_done.m N a0 y12.1 y12.2.1 y12.2.2) fun y13=>
  some (y13.1,y13.2)
 else
 bif (a1.Kind==(5:Int)) then
  ob (impl_within.m N (a1.Data.size:Int) (1:Int) (100:Int)) fun y14=>
  bif (!y14) then
   some ((1:Int),a0)
  else
  ob (impl_propose.m N (a0.Nodes.getD (Int.toNat a1.N) Node.dz) (1:Int) a1.Data) fun y15=>
  ob (impl_Group_done.m N a0 y15.1 y15.2.1 y15.2.2) fun y16=>
  some (y16.1,y16.2)
 else
 ob (impl_Group_config.m N a0 (a0.Nodes.getD (Int.toNat a1.N) Node.dz) a1.Data) fun y17=>
 some (y17.1,y17.2)
 else none
 else none
@[reducible] noncomputable def sp (N:Nat):Spec E:=⟨[.box false 29 29,.val (.st 46)],[(.int .i64)],true,false,R,fun x=>m N x.1 x.2.1,fun r=>(r.1,()),fun r=>(r.2,(),()),fun a b=>(a.1,b.1),fun _ _=>rfl,fun _ _=>rfl⟩
end impl_Group_ofNode
namespace impl_Group_do
abbrev R:=Int×Group
noncomputable def m (N:Nat) (a0:Group) (a1:GroupAct):Option R:=
 bif (a1.Kind==(2:Int)) then
  ob (impl_Group_ofWire_.m N a0 a1) fun y1=>
  some (y1.1,y1.2)
 else
 bif (a1.Kind==(3:Int)) then
  ob (impl_Group_ofWire_.m N a0 a1) fun y2=>
  some (y2.1,y2.2)
 else
 bif (a1.Kind==(4:Int)) then
  ob (impl_Group_ofWire_.m N a0 a1) fun y3=>
  some (y3.1,y3.2)
 else
 bif (a1.Kind==(1:Int)) then
  ob (impl_Group_ofNode.m N a0 (GroupAct.mk a1.Kind a1.N a1.Draw a1.Data)) fun y4=>
  some (y4.1,y4.2)
 else
 bif (a1.Kind==(5:Int)) then
  ob (impl_Group_ofNode.m N a0 (GroupAct.mk a1.Kind a1.N a1.Draw a1.Data)) fun y5=>
  some (y5.1,y5.2)
 else
 bif (a1.Kind==(6:Int)) then
  ob (impl_Group_ofNode.m N a0 (GroupAct.mk a1.Kind a1.N a1.Draw a1.Data)) fun y6=>
  some (y6.1,y6.2)
 else
 bif (a1.Kind==(7:Int)) then
  ob (impl_Group_ofNode.m N a0 (GroupAct.mk a1.Kind a1.N a1.Draw a1.Data)) fun y7=>
  some (y7.1,y7.2)
 else
 bif (a1.Kind==(8:Int)) then
  ob (impl_Group_ofNode.m N a0 (GroupAct.mk a1.Kind a1.N a1.Draw a1.Data)) fun y8=>
  some (y8.1,y8.2)
 else
 some ((3:Int),a0)
@[reducible] noncomputable def sp (N:Nat):Spec E:=⟨[.box false 29 29,.val (.st 46)],[(.int .i64)],true,false,R,fun x=>m N x.1 x.2.1,fun r=>(r.1,()),fun r=>(r.2,(),()),fun a b=>(a.1,b.1),fun _ _=>rfl,fun _ _=>rfl⟩
end impl_Group_do
namespace impl_isList_impl_Lead
abbrev R:=Bool
noncomputable def m (N:Nat) (a0:List Lead):Option R:=
 some (decide ((a0.length:Int)≤(4096:Int)))
@[reducible] noncomputable def sp (N:Nat):Spec E:=⟨[.val (.slice 67 (.st 67))],[.bool],true,false,R,fun x=>m N x.1,fun r=>(r,()),fun r=>((),()),fun a b=>a.1,fun _ _=>rfl,fun _ _=>rfl⟩
end impl_isList_impl_Lead
namespace impl_isList_impl_Done
abbrev R:=Bool
noncomputable def m (N:Nat) (a0:List Done):Option R:=
 some (decide ((a0.length:Int)≤(4096:Int)))
@[reducible] noncomputable def sp (N:Nat):Spec E:=⟨[.val (.slice 70 (.st 70))],[.bool],true,false,R,fun x=>m N x.1,fun r=>(r,()),fun r=>((),()),fun a b=>a.1,fun _ _=>rfl,fun _ _=>rfl⟩
end impl_isList_impl_Done
namespace impl_GroupOK_1
abbrev R:=Bool
noncomputable def m (N:Nat) (a0:Message):Option R:=
 ob (impl_messageOK.m N a0) fun y1=>
 some (!y1)
@[reducible] noncomputable def sp (N:Nat):Spec E:=⟨[.val (.st 74)],[.bool],true,false,R,fun x=>m N x.1,fun r=>(r,()),fun r=>((),()),fun a b=>a.1,fun _ _=>rfl,fun _ _=>rfl⟩
end impl_GroupOK_1
namespace slices_IndexFunc_impl_Message_impl_Message__impl_GroupOK_1
abbrev R:=Int
noncomputable def step2 (N:Nat) (a0:List Message) (rec:(Int×Int)→Option R):(Int×Int)→Option R
 | (v1,v2)=>
  bif (decide (v2<v1)) then
   bif (decide (0≤v2)) then
   bif (decide (v2<(a0.length:Int))) then
   ob (impl_GroupOK_1.m N (a0.getD (Int.toNat v2) Message.dz)) fun y1=>
   bif y1 then
    some v2
   else
   rec (v1,(w64 (v2+(1:Int))))
   else none
   else none
  else
  some (-1:Int)
noncomputable def lp2 (N:Nat) (a0:List Message):(Int×Int)→Option R:=
 miter (fun rec=>step2 N a0 rec) N
noncomputable def m0 (N:Nat) (a0:List Message) (lp2:Int×Int→Option R):Option R:=
 lp2 ((a0.length:Int),(0:Int))
@[reducible] noncomputable def m (N:Nat) (a0:List Message):Option R:=m0 N a0 (lp2 N a0)
@[reducible] noncomputable def sp (N:Nat):Spec E:=⟨[.val (.slice 74 (.st 74)),.clo 30 []],[(.int .i64)],true,false,R,fun x=>m N x.1,fun r=>(r,()),fun r=>((),(),()),fun a b=>a.1,fun _ _=>rfl,fun _ _=>rfl⟩
end slices_IndexFunc_impl_Message_impl_Message__impl_GroupOK_1
namespace slices_ContainsFunc_impl_Message_impl_Message__impl_GroupOK_1
abbrev R:=Bool
noncomputable def m (N:Nat) (a0:List Message):Option R:=
 ob (slices_IndexFunc_impl_Message_impl_Message__impl_GroupOK_1.m N a0) fun y1=>
 some (decide (y1≥(0:Int)))
@[reducible] noncomputable def sp (N:Nat):Spec E:=⟨[.val (.slice 74 (.st 74)),.clo 30 []],[.bool],true,false,R,fun x=>m N x.1,fun r=>(r,()),fun r=>((),(),()),fun a b=>a.1,fun _ _=>rfl,fun _ _=>rfl⟩
end slices_ContainsFunc_impl_Message_impl_Message__impl_GroupOK_1
namespace impl_GroupOK
abbrev R:=Bool
noncomputable def step4 (N:Nat) (a0:Group) (rec:(Int×Int)→Option R):(Int×Int)→Option R
 | (v1,v2)=>
  bif (decide (v2<v1)) then
   bif (decide (0≤v2)) then
   bif (decide (v2<(a0.Nodes.length:Int))) then
   ob (impl_NodeOK.m N (a0.Nodes.getD (Int.toNat v2) Node.dz)) fun y4=>
   bif (!y4) then
    some false
   else
   bif (bif false then true else ((a0.Nodes.getD (Int.toNat v2) Node.dz).Id != v2)) then
    some false
   else
   rec (v1,(w64 (v2+(1:Int))))
   else none
   else none
  else
  ob (slices_ContainsFunc_impl_Message_impl_Message__impl_GroupOK_1.m N a0.Wire) fun y5=>
  some (!y5)
noncomputable def lp4 (N:Nat) (a0:Group):(Int×Int)→Option R:=
 miter (fun rec=>step4 N a0 rec) N
noncomputable def m0 (N:Nat) (a0:Group) (lp4:Int×Int→Option R):Option R:=
 ob (impl_within.m N (a0.Nodes.length:Int) (1:Int) (5:Int)) fun y1=>
 bif (!y1) then
  some false
 else
 bif (bif false then true else (decide ((a0.Wire.length:Int) > (60:Int)))) then
  some false
 else
 ob (impl_isList_impl_Lead.m N a0.Leads) fun y2=>
 bif (bif false then true else (!y2)) then
  some false
 else
 ob (impl_isList_impl_Done.m N a0.Dones) fun y3=>
 bif (bif false then true else (!y3)) then
  some false
 else
 lp4 ((a0.Nodes.length:Int),(0:Int))
@[reducible] noncomputable def m (N:Nat) (a0:Group):Option R:=m0 N a0 (lp4 N a0)
@[reducible] noncomputable def sp (N:Nat):Spec E:=⟨[.val (.st 29)],[.bool],true,false,R,fun x=>m N x.1,fun r=>(r,()),fun r=>((),()),fun a b=>a.1,fun _ _=>rfl,fun _ _=>rfl⟩
end impl_GroupOK
namespace impl_groupStep
abbrev R:=Group×Int
noncomputable def m (N:Nat) (a0:Group) (a1:GroupAct):Option R:=
 ob (impl_copyGroup.m N a0) fun y1=>
 ob (impl_Group_do.m N y1 (GroupAct.mk a1.Kind a1.N a1.Draw a1.Data)) fun y2=>
 bif (y2.1==(0:Int)) then
  ob (impl_GroupOK.m N y2.2) fun y3=>
  bif (bif true then (!y3) else false) then
   bif ((3:Int) != (0:Int)) then
    ob (impl_copyGroup.m N a0) fun y4=>
    some (y4,(3:Int))
   else
   ob (impl_copyGroup.m N y2.2) fun y5=>
   some (y5,(0:Int))
  else
  bif (y2.1 != (0:Int)) then
   ob (impl_copyGroup.m N a0) fun y6=>
   some (y6,y2.1)
  else
  ob (impl_copyGroup.m N y2.2) fun y7=>
  some (y7,(0:Int))
 else
 bif (y2.1 != (0:Int)) then
  ob (impl_copyGroup.m N a0) fun y8=>
  some (y8,y2.1)
 else
 ob (impl_copyGroup.m N y2.2) fun y9=>
 some (y9,(0:Int))
@[reducible] noncomputable def sp (N:Nat):Spec E:=⟨[.val (.st 29),.val (.st 46)],[(.st 29),(.int .i64)],true,false,R,fun x=>m N x.1 x.2.1,fun r=>(r.1,r.2,()),fun r=>((),(),()),fun a b=>(a.1,a.2.1),fun _ _=>rfl,fun _ _=>rfl⟩
end impl_groupStep
namespace impl_GroupRun
abbrev R:=Group×(List Int)×Int
noncomputable def step10 (N:Nat) (a0:Int) (a1:List GroupAct) (rec:(Int×Int×(List Node)×(List Message)×(List Lead)×(List Done)×(List Int))→Option R):(Int×Int×(List Node)×(List Message)×(List Lead)×(List Done)×(List Int))→Option R
 | (v1,v2,v3,v4,v5,v6,v7)=>
  bif (decide (v2<v1)) then
   bif (decide (0≤v2)) then
   bif (decide (v2<(a1.length:Int))) then
   ob (impl_groupStep.m N (Group.mk v3 v4 v5 v6) (a1.getD (Int.toNat v2) GroupAct.dz)) fun y3=>
   bif (room (v7.length+([y3.2]).length) 8) then
   rec (v1,(w64 (v2+(1:Int))),y3.1.Nodes,y3.1.Wire,y3.1.Leads,y3.1.Dones,(v7++[y3.2]))
   else none
   else none
   else none
  else
  some ((Group.mk v3 v4 v5 v6),v7,(0:Int))
noncomputable def lp10 (N:Nat) (a0:Int) (a1:List GroupAct):(Int×Int×(List Node)×(List Message)×(List Lead)×(List Done)×(List Int))→Option R:=
 miter (fun rec=>step10 N a0 a1 rec) N
noncomputable def m0 (N:Nat) (a0:Int) (a1:List GroupAct) (lp10:Int×Int×(List Node)×(List Message)×(List Lead)×(List Done)×(List Int)→Option R):Option R:=
 ob (impl_isList_impl_GroupAct.m N a1) fun y1=>
 bif (!y1) then
  some ((Group.mk ([]:List Node) ([]:List Message) ([]:List Lead) ([]:List Done)),([]:List Int),(2:Int))
 else
 ob (impl_NewGroup.m N a0) fun y2=>
 bif (y2.2 != (0:Int)) then
  some ((Group.mk ([]:List Node) ([]:List Message) ([]:List Lead) ([]:List Done)),([]:List Int),y2.2)
 else
 bif (decide ((a1.length:Int) > (260:Int))) then
  some ((Group.mk ([]:List Node) ([]:List Message) ([]:List Lead) ([]:List Done)),([]:List Int),(6:Int))
 else
 lp10 ((a1.length:Int),(0:Int),y2.1.Nodes,y2.1.Wire,y2.1.Leads,y2.1.Dones,([]:List Int))
@[reducible] noncomputable def m (N:Nat) (a0:Int) (a1:List GroupAct):Option R:=m0 N a0 a1 (lp10 N a0 a1)
@[reducible] noncomputable def sp (N:Nat):Spec E:=⟨[.val (.int .i64),.val (.slice 46 (.st 46))],[(.st 29),(.slice 3 (.int .i64)),(.int .i64)],true,false,R,fun x=>m N x.1 x.2.1,fun r=>(r.1,r.2.1,r.2.2,()),fun r=>((),(),()),fun a b=>(a.1,a.2.1,a.2.2.1),fun _ _=>rfl,fun _ _=>rfl⟩
end impl_GroupRun
namespace impl_sameFirst
abbrev R:=Int
noncomputable def step2 (N:Nat) (a0:List Entry) (a1:List Entry) (rec:Int→Option R):Int→Option R
 | v2=>
  bif (decide (v2<(if (a1.length:Int)<(a0.length:Int) then (a1.length:Int) else (a0.length:Int)))) then
   bif (decide (0≤v2)) then
   bif (decide (v2<(a0.length:Int))) then
   bif (decide (0≤v2)) then
   bif (decide (v2<(a1.length:Int))) then
   (let w1:Bool:=(((a0.getD (Int.toNat v2) Entry.dz).Term==(a1.getD (Int.toNat v2) Entry.dz).Term)&&(((a0.getD (Int.toNat v2) Entry.dz).Kind==(a1.getD (Int.toNat v2) Entry.dz).Kind)&&(seq ((a0.getD (Int.toNat v2) Entry.dz).Data) ((a1.getD (Int.toNat v2) Entry.dz).Data))))
   bif (bif true then w1 else false) then
    rec (w64 (v2+(1:Int)))
   else
   some v2)
   else none
   else none
   else none
   else none
  else
  some v2
noncomputable def lp2 (N:Nat) (a0:List Entry) (a1:List Entry):Int→Option R:=
 miter (fun rec=>step2 N a0 a1 rec) N
noncomputable def m0 (N:Nat) (a0:List Entry) (a1:List Entry) (lp2:Int→Option R):Option R:=
 lp2 (0:Int)
@[reducible] noncomputable def m (N:Nat) (a0:List Entry) (a1:List Entry):Option R:=m0 N a0 a1 (lp2 N a0 a1)
@[reducible] noncomputable def sp (N:Nat):Spec E:=⟨[.val (.slice 41 (.st 41)),.val (.slice 41 (.st 41))],[(.int .i64)],true,false,R,fun x=>m N x.1 x.2.1,fun r=>(r,()),fun r=>((),(),()),fun a b=>a.1,fun _ _=>rfl,fun _ _=>rfl⟩
end impl_sameFirst
namespace impl_logsMatch
abbrev R:=Bool
noncomputable def step2 (N:Nat) (a0:Node) (a1:Node) (rec:Int→Option R):Int→Option R
 | v0=>
  bif (decide (v0 > (0:Int))) then
   bif (decide (0≤(w64 (v0 - (1:Int))))) then
   bif (decide ((w64 (v0 - (1:Int)))<(a0.Log.length:Int))) then
   bif (decide (0≤(w64 (v0 - (1:Int))))) then
   bif (decide ((w64 (v0 - (1:Int)))<(a1.Log.length:Int))) then
   (let w1:Bool:=(bif true then ((a0.Log.getD (Int.toNat (w64 (v0 - (1:Int)))) Entry.dz).Term != (a1.Log.getD (Int.toNat (w64 (v0 - (1:Int)))) Entry.dz).Term) else false)
   bif w1 then
    rec (w64 (v0 - (1:Int)))
   else
   bif (decide (0≤v0)) then
   bif (decide (v0≤((a0.Log.length:Nat):Int))) then
   bif (decide (0≤v0)) then
   bif (decide (v0≤((a1.Log.length:Nat):Int))) then
   ob (impl_sameFirst.m N (a0.Log.take (Int.toNat v0)) (a1.Log.take (Int.toNat v0))) fun y2=>
   some (y2==v0)
   else none
   else none
   else none
   else none)
   else none
   else none
   else none
   else none
  else
  bif (decide (0≤v0)) then
  bif (decide (v0≤((a0.Log.length:Nat):Int))) then
  bif (decide (0≤v0)) then
  bif (decide (v0≤((a1.Log.length:Nat):Int))) then
  ob (impl_sameFirst.m N (a0.Log.take (Int.toNat v0)) (a1.Log.take (Int.toNat v0))) fun y3=>
  some (y3==v0)
  else none
  else none
  else none
  else none
noncomputable def lp2 (N:Nat) (a0:Node) (a1:Node):Int→Option R:=
 miter (fun rec=>step2 N a0 a1 rec) N
noncomputable def m0 (N:Nat) (a0:Node) (a1:Node) (lp2:Int→Option R):Option R:=
 lp2 (if (a1.Log.length:Int)<(a0.Log.length:Int) then (a1.Log.length:Int) else (a0.Log.length:Int))
@[reducible] noncomputable def m (N:Nat) (a0:Node) (a1:Node):Option R:=m0 N a0 a1 (lp2 N a0 a1)
@[reducible] noncomputable def sp (N:Nat):Spec E:=⟨[.val (.st 39),.val (.st 39)],[.bool],true,false,R,fun x=>m N x.1 x.2.1,fun r=>(r,()),fun r=>((),(),()),fun a b=>a.1,fun _ _=>rfl,fun _ _=>rfl⟩
end impl_logsMatch
namespace impl_pairsHold_impl_Node__impl_logsMatch
abbrev R:=Bool
noncomputable def step2 (N:Nat) (a0:List Node) (lp5:Int×Int×(List Node)×Int×Int×Int×Int×Int×(List Entry)×(List Int)×Int×(List Int)×(List Int)×(List Int)×Int×Int×Int×Bool→Option R) (rec:(Int×Int)→Option R):(Int×Int)→Option R
 | (v2,v3)=>
  bif (decide (v3<v2)) then
   bif (decide (0≤v3)) then
   bif (decide (v3<(a0.length:Int))) then
   bif (decide (0≤v3)) then
   bif (decide (v3≤((a0.length:Nat):Int))) then
   lp5 (v2,v3,(a0.take (Int.toNat v3)),((a0.take (Int.toNat v3)).length:Int),(0:Int),(a0.getD (Int.toNat v3) Node.dz).Id,(a0.getD (Int.toNat v3) Node.dz).Term,(a0.getD (Int.toNat v3) Node.dz).Vote,(a0.getD (Int.toNat v3) Node.dz).Log,(a0.getD (Int.toNat v3) Node.dz).Start,(a0.getD (Int.toNat v3) Node.dz).Role,(a0.getD (Int.toNat v3) Node.dz).Votes,(a0.getD (Int.toNat v3) Node.dz).Next,(a0.getD (Int.toNat v3) Node.dz).Match,(a0.getD (Int.toNat v3) Node.dz).Commit,(a0.getD (Int.toNat v3) Node.dz).Elapsed,(a0.getD (Int.toNat v3) Node.dz).Wait,(a0.getD (Int.toNat v3) Node.dz).Up)
   else none
   else none
   else none
   else none
  else
  some true
noncomputable def step5 (N:Nat) (a0:List Node) (lp2:Int×Int→Option R) (rec:(Int×Int×(List Node)×Int×Int×Int×Int×Int×(List Entry)×(List Int)×Int×(List Int)×(List Int)×(List Int)×Int×Int×Int×Bool)→Option R):(Int×Int×(List Node)×Int×Int×Int×Int×Int×(List Entry)×(List Int)×Int×(List Int)×(List Int)×(List Int)×Int×Int×Int×Bool)→Option R
 | (v2,v3,v4,v5,v6,v7,v8,v9,v10,v11,v12,v13,v14,v15,v16,v17,v18,v19)=>
  bif (decide (v6<v5)) then
   bif (decide (0≤v6)) then
   bif (decide (v6<(v4.length:Int))) then
   ob (impl_logsMatch.m N (Node.mk v7 v8 v9 v10 v11 v12 v13 v14 v15 v16 v17 v18 v19) (v4.getD (Int.toNat v6) Node.dz)) fun y1=>
   bif (!y1) then
    some false
   else
   rec (v2,v3,v4,v5,(w64 (v6+(1:Int))),v7,v8,v9,v10,v11,v12,v13,v14,v15,v16,v17,v18,v19)
   else none
   else none
  else
  lp2 (v2,(w64 (v3+(1:Int))))
noncomputable def lp5 (N:Nat) (a0:List Node) (r2:Int×Int→Option R):(Int×Int×(List Node)×Int×Int×Int×Int×Int×(List Entry)×(List Int)×Int×(List Int)×(List Int)×(List Int)×Int×Int×Int×Bool)→Option R:=
 miter (fun rec=>step5 N a0 r2 rec) N
noncomputable def lp2 (N:Nat) (a0:List Node):(Int×Int)→Option R:=
 miter (fun rec=>step2 N a0 (lp5 N a0 rec) rec) N
noncomputable def m0 (N:Nat) (a0:List Node) (lp2:Int×Int→Option R):Option R:=
 lp2 ((a0.length:Int),(0:Int))
@[reducible] noncomputable def m (N:Nat) (a0:List Node):Option R:=m0 N a0 (lp2 N a0)
@[reducible] noncomputable def sp (N:Nat):Spec E:=⟨[.val (.slice 39 (.st 39)),.clo 16 []],[.bool],true,false,R,fun x=>m N x.1,fun r=>(r,()),fun r=>((),(),()),fun a b=>a.1,fun _ _=>rfl,fun _ _=>rfl⟩
end impl_pairsHold_impl_Node__impl_logsMatch
namespace impl_LogsMatch
abbrev R:=Bool×Int
noncomputable def m (N:Nat) (a0:Group):Option R:=
 ob (impl_GroupOK.m N a0) fun y1=>
 bif (!y1) then
  some (false,(1:Int))
 else
 ob (impl_pairsHold_impl_Node__impl_logsMatch.m N a0.Nodes) fun y2=>
 some (y2,(0:Int))
@[reducible] noncomputable def sp (N:Nat):Spec E:=⟨[.val (.st 29)],[.bool,(.int .i64)],true,false,R,fun x=>m N x.1,fun r=>(r.1,r.2,()),fun r=>((),()),fun a b=>(a.1,a.2.1),fun _ _=>rfl,fun _ _=>rfl⟩
end impl_LogsMatch
namespace laws_sameEntries
abbrev R:=Bool
noncomputable def step4 (N:Nat) (a0:List Entry) (a1:List Entry) (rec:Int→Option R):Int→Option R
 | v2=>
  bif (decide (v2<(a0.length:Int))) then
   bif (decide (0≤v2)) then
   bif (decide (v2<(a0.length:Int))) then
   bif (decide (0≤v2)) then
   bif (decide (v2<(a1.length:Int))) then
   (let w1:Bool:=(!(((a0.getD (Int.toNat v2) Entry.dz).Term==(a1.getD (Int.toNat v2) Entry.dz).Term)&&(((a0.getD (Int.toNat v2) Entry.dz).Kind==(a1.getD (Int.toNat v2) Entry.dz).Kind)&&(seq ((a0.getD (Int.toNat v2) Entry.dz).Data) ((a1.getD (Int.toNat v2) Entry.dz).Data)))))
   bif w1 then
    some false
   else
   rec (w64 (v2+(1:Int))))
   else none
   else none
   else none
   else none
  else
  some true
noncomputable def lp4 (N:Nat) (a0:List Entry) (a1:List Entry):Int→Option R:=
 miter (fun rec=>step4 N a0 a1 rec) N
noncomputable def m0 (N:Nat) (a0:List Entry) (a1:List Entry) (lp4:Int→Option R):Option R:=
 bif ((a0.length:Int) != (a1.length:Int)) then
  some false
 else
 lp4 (0:Int)
@[reducible] noncomputable def m (N:Nat) (a0:List Entry) (a1:List Entry):Option R:=m0 N a0 a1 (lp4 N a0 a1)
@[reducible] noncomputable def sp (N:Nat):Spec E:=⟨[.val (.slice 41 (.st 41)),.val (.slice 41 (.st 41))],[.bool],true,false,R,fun x=>m N x.1 x.2.1,fun r=>(r,()),fun r=>((),(),()),fun a b=>a.1,fun _ _=>rfl,fun _ _=>rfl⟩
end laws_sameEntries
namespace laws_FnLogs
abbrev R:=Bool
noncomputable def step11 (N:Nat) (a0:List Int) (a1:List Int) (rec:(Int×Int×Int×Int×(List Entry)×(List Int)×Int×(List Int)×(List Int)×(List Int)×Int×Int×Int×Bool×Int×Int×Int×(List Entry)×(List Int)×Int×(List Int)×(List Int)×(List Int)×Int×Int×Int×Bool)→Option R):(Int×Int×Int×Int×(List Entry)×(List Int)×Int×(List Int)×(List Int)×(List Int)×Int×Int×Int×Bool×Int×Int×Int×(List Entry)×(List Int)×Int×(List Int)×(List Int)×(List Int)×Int×Int×Int×Bool)→Option R
 | (v0,v1,v2,v3,v4,v5,v6,v7,v8,v9,v10,v11,v12,v13,v14,v15,v16,v17,v18,v19,v20,v21,v22,v23,v24,v25,v26)=>
  bif (decide (v0≥(0:Int))) then
   bif (decide (0≤v0)) then
   bif (decide (v0<(v4.length:Int))) then
   bif (decide (0≤v0)) then
   bif (decide (v0<(v17.length:Int))) then
   bif ((v4.getD (Int.toNat v0) Entry.dz).Term==(v17.getD (Int.toNat v0) Entry.dz).Term) then
    bif (decide (0≤(w64 (v0+(1:Int))))) then
    bif (decide ((w64 (v0+(1:Int)))≤((v4.length:Nat):Int))) then
    bif (decide (0≤(w64 (v0+(1:Int))))) then
    bif (decide ((w64 (v0+(1:Int)))≤((v17.length:Nat):Int))) then
    ob (laws_sameEntries.m N (v4.take (Int.toNat (w64 (v0+(1:Int))))) (v17.take (Int.toNat (w64 (v0+(1:Int)))))) fun y8=>
    some y8
    else none
    else none
    else none
    else none
   else
   rec ((w64 (v0 - (1:Int))),v1,v2,v3,v4,v5,v6,v7,v8,v9,v10,v11,v12,v13,v14,v15,v16,v17,v18,v19,v20,v21,v22,v23,v24,v25,v26)
   else none
   else none
   else none
   else none
  else
  some true
noncomputable def lp11 (N:Nat) (a0:List Int) (a1:List Int):(Int×Int×Int×Int×(List Entry)×(List Int)×Int×(List Int)×(List Int)×(List Int)×Int×Int×Int×Bool×Int×Int×Int×(List Entry)×(List Int)×Int×(List Int)×(List Int)×(List Int)×Int×Int×Int×Bool)→Option R:=
 miter (fun rec=>step11 N a0 a1 rec) N
noncomputable def m0 (N:Nat) (a0:List Int) (a1:List Int) (lp11:Int×Int×Int×Int×(List Entry)×(List Int)×Int×(List Int)×(List Int)×(List Int)×Int×Int×Int×Bool×Int×Int×Int×(List Entry)×(List Int)×Int×(List Int)×(List Int)×(List Int)×Int×Int×Int×Bool→Option R):Option R:=
 bif (decide ((a0.length:Int) > (1048576:Int))) then
  some true
 else
 bif (bif false then true else (decide ((a1.length:Int) > (1048576:Int)))) then
  some true
 else
 ob (laws_at.m N a1 (0:Int) (4:Int)) fun y1=>
 ob (spec_GroupActsOf.m N a0 (w64 ((2:Int)+y1))) fun y2=>
 ob (impl_GroupRun.m N (w64 ((2:Int)+y1)) y2) fun y3=>
 ob (impl_LogsMatch.m N y3.1) fun y4=>
 bif (y3.2.2 != (0:Int)) then
  some false
 else
 bif (bif false then true else (y4.2 != (0:Int))) then
  some false
 else
 bif (bif false then true else (!y4.1)) then
  some false
 else
 ob (laws_at.m N a1 (1:Int) (w64 ((2:Int)+y1))) fun y5=>
 bif (decide (0≤y5)) then
 bif (decide (y5<(y3.1.Nodes.length:Int))) then
 ob (laws_at.m N a1 (2:Int) (w64 ((2:Int)+y1))) fun y6=>
 bif (decide (0≤y6)) then
 bif (decide (y6<(y3.1.Nodes.length:Int))) then
 (let w7:Int:=(if (((y3.1.Nodes.getD (Int.toNat y6) Node.dz).Log).length:Int)<(((y3.1.Nodes.getD (Int.toNat y5) Node.dz).Log).length:Int) then (((y3.1.Nodes.getD (Int.toNat y6) Node.dz).Log).length:Int) else (((y3.1.Nodes.getD (Int.toNat y5) Node.dz).Log).length:Int))
 lp11 ((w64 (w7 - (1:Int))),(y3.1.Nodes.getD (Int.toNat y5) Node.dz).Id,(y3.1.Nodes.getD (Int.toNat y5) Node.dz).Term,(y3.1.Nodes.getD (Int.toNat y5) Node.dz).Vote,(y3.1.Nodes.getD (Int.toNat y5) Node.dz).Log,(y3.1.Nodes.getD (Int.toNat y5) Node.dz).Start,(y3.1.Nodes.getD (Int.toNat y5) Node.dz).Role,(y3.1.Nodes.getD (Int.toNat y5) Node.dz).Votes,(y3.1.Nodes.getD (Int.toNat y5) Node.dz).Next,(y3.1.Nodes.getD (Int.toNat y5) Node.dz).Match,(y3.1.Nodes.getD (Int.toNat y5) Node.dz).Commit,(y3.1.Nodes.getD (Int.toNat y5) Node.dz).Elapsed,(y3.1.Nodes.getD (Int.toNat y5) Node.dz).Wait,(y3.1.Nodes.getD (Int.toNat y5) Node.dz).Up,(y3.1.Nodes.getD (Int.toNat y6) Node.dz).Id,(y3.1.Nodes.getD (Int.toNat y6) Node.dz).Term,(y3.1.Nodes.getD (Int.toNat y6) Node.dz).Vote,(y3.1.Nodes.getD (Int.toNat y6) Node.dz).Log,(y3.1.Nodes.getD (Int.toNat y6) Node.dz).Start,(y3.1.Nodes.getD (Int.toNat y6) Node.dz).Role,(y3.1.Nodes.getD (Int.toNat y6) Node.dz).Votes,(y3.1.Nodes.getD (Int.toNat y6) Node.dz).Next,(y3.1.Nodes.getD (Int.toNat y6) Node.dz).Match,(y3.1.Nodes.getD (Int.toNat y6) Node.dz).Commit,(y3.1.Nodes.getD (Int.toNat y6) Node.dz).Elapsed,(y3.1.Nodes.getD (Int.toNat y6) Node.dz).Wait,(y3.1.Nodes.getD (Int.toNat y6) Node.dz).Up))
 else none
 else none
 else none
 else none
@[reducible] noncomputable def m (N:Nat) (a0:List Int) (a1:List Int):Option R:=m0 N a0 a1 (lp11 N a0 a1)
@[reducible] noncomputable def sp (N:Nat):Spec E:=⟨[.val (.slice 5 (.int .u8)),.val (.slice 5 (.int .u8))],[.bool],true,false,R,fun x=>m N x.1 x.2.1,fun r=>(r,()),fun r=>((),(),()),fun a b=>a.1,fun _ _=>rfl,fun _ _=>rfl⟩
end laws_FnLogs
end Mir.Y
