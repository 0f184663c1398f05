/- Models of functions. -/
import Derived.Test.YtcgniikapdcfmaaGreatEngD
import Derived.Test.YtcgniikapdcfmaaGreatRLM1
namespace Mir.Y
set_option linter.unusedVariables false
set_option maxRecDepth 10000
open Go Go.Proofs Mir
namespace impl_Node_upToDate
abbrev R:=Bool
noncomputable def m (N:Nat) (a0:Node) (a1:Int) (a2:Int):Option R:=
 ob (impl_Node_termAt.m N a0 (a0.Log.length:Int)) fun y1=>
 bif (decide (a2 > y1)) then
  some true
 else
 bif (a2==y1) then
  some (bif false then true else (bif true then (decide (a1≥(a0.Log.length:Int))) else false))
 else
 some (bif false then true else false)
@[reducible] noncomputable def sp (N:Nat):Spec E:=⟨[.val (.st 39),.val (.int .i64),.val (.int .i64)],[.bool],true,false,R,fun x=>m N x.1 x.2.1 x.2.2.1,fun r=>(r,()),fun r=>((),(),(),()),fun a b=>a.1,fun _ _=>rfl,fun _ _=>rfl⟩
end impl_Node_upToDate
namespace impl_worker_send
abbrev R:=worker
noncomputable def m (N:Nat) (a0:worker) (a1:Message):Option R:=
 bif (room (a0.sent.length+([(Message.mk a1.Kind a0.Node.Id a1.To a0.Node.Term a1.Index a1.LogTerm a1.Commit a1.Entries a1.Ok)]).length) 88) then
 some (worker.mk (Node.mk a0.Node.Id a0.Node.Term a0.Node.Vote a0.Node.Log a0.Node.Start a0.Node.Role a0.Node.Votes a0.Node.Next a0.Node.Match a0.Node.Commit a0.Node.Elapsed a0.Node.Wait a0.Node.Up) (a0.sent++[(Message.mk a1.Kind a0.Node.Id a1.To a0.Node.Term a1.Index a1.LogTerm a1.Commit a1.Entries a1.Ok)]))
 else none
@[reducible] noncomputable def sp (N:Nat):Spec E:=⟨[.box false 119 119,.mov false (.st 74)],[],true,false,R,fun x=>m N x.1 x.2.1,fun r=>(),fun r=>(r,(),()),fun a b=>b.1,fun _ _=>rfl,fun _ _=>rfl⟩
end impl_worker_send
namespace impl_worker_vote
abbrev R:=worker
noncomputable def m (N:Nat) (a0:worker) (a1:Message):Option R:=
 bif (a1.Term==a0.Node.Term) then
  bif (a0.Node.Vote==(-1:Int)) then
   bif (bif true then true else false) then
    ob (impl_Node_upToDate.m N (Node.mk a0.Node.Id a0.Node.Term a0.Node.Vote a0.Node.Log a0.Node.Start a0.Node.Role a0.Node.Votes a0.Node.Next a0.Node.Match a0.Node.Commit a0.Node.Elapsed a0.Node.Wait a0.Node.Up) a1.Index a1.LogTerm) fun y1=>
    bif (bif true then y1 else false) then
     ob (impl_worker_send.m N (worker.mk (Node.mk a0.Node.Id a0.Node.Term a1.From a0.Node.Log a0.Node.Start a0.Node.Role a0.Node.Votes a0.Node.Next a0.Node.Match a0.Node.Commit (0:Int) a0.Node.Wait a0.Node.Up) a0.sent) (Message.mk (2:Int) (0:Int) a1.From (0:Int) (0:Int) (0:Int) (0:Int) ([]:List Entry) (bif true then y1 else false))) fun y2=>
     some (worker.mk (Node.mk y2.Node.Id y2.Node.Term y2.Node.Vote y2.Node.Log y2.Node.Start y2.Node.Role y2.Node.Votes y2.Node.Next y2.Node.Match y2.Node.Commit y2.Node.Elapsed y2.Node.Wait y2.Node.Up) y2.sent)
    else
    ob (impl_worker_send.m N (worker.mk (Node.mk a0.Node.Id a0.Node.Term a0.Node.Vote a0.Node.Log a0.Node.Start a0.Node.Role a0.Node.Votes a0.Node.Next a0.Node.Match a0.Node.Commit a0.Node.Elapsed a0.Node.Wait a0.Node.Up) a0.sent) (Message.mk (2:Int) (0:Int) a1.From (0:Int) (0:Int) (0:Int) (0:Int) ([]:List Entry) (bif true then y1 else false))) fun y3=>
    some (worker.mk (Node.mk y3.Node.Id y3.Node.Term y3.Node.Vote y3.Node.Log y3.Node.Start y3.Node.Role y3.Node.Votes y3.Node.Next y3.Node.Match y3.Node.Commit y3.Node.Elapsed y3.Node.Wait y3.Node.Up) y3.sent)
   else
   ob (impl_worker_send.m N (worker.mk (Node.mk a0.Node.Id a0.Node.Term a0.Node.Vote a0.Node.Log a0.Node.Start a0.Node.Role a0.Node.Votes a0.Node.Next a0.Node.Match a0.Node.Commit a0.Node.Elapsed a0.Node.Wait a0.Node.Up) a0.sent) (Message.mk (2:Int) (0:Int) a1.From (0:Int) (0:Int) (0:Int) (0:Int) ([]:List Entry) false)) fun y4=>
   some (worker.mk (Node.mk y4.Node.Id y4.Node.Term y4.Node.Vote y4.Node.Log y4.Node.Start y4.Node.Role y4.Node.Votes y4.Node.Next y4.Node.Match y4.Node.Commit y4.Node.Elapsed y4.Node.Wait y4.Node.Up) y4.sent)
  else
  bif (bif true then (bif false then true else (a0.Node.Vote==a1.From)) else false) then
   ob (impl_Node_upToDate.m N (Node.mk a0.Node.Id a0.Node.Term a0.Node.Vote a0.Node.Log a0.Node.Start a0.Node.Role a0.Node.Votes a0.Node.Next a0.Node.Match a0.Node.Commit a0.Node.Elapsed a0.Node.Wait a0.Node.Up) a1.Index a1.LogTerm) fun y5=>
   bif (bif true then y5 else false) then
    ob (impl_worker_send.m N (worker.mk (Node.mk a0.Node.Id a0.Node.Term a1.From a0.Node.Log a0.Node.Start a0.Node.Role a0.Node.Votes a0.Node.Next a0.Node.Match a0.Node.Commit (0:Int) a0.Node.Wait a0.Node.Up) a0.sent) (Message.mk (2:Int) (0:Int) a1.From (0:Int) (0:Int) (0:Int) (0:Int) ([]:List Entry) (bif true then y5 else false))) fun y6=>
    some (worker.mk (Node.mk y6.Node.Id y6.Node.Term y6.Node.Vote y6.Node.Log y6.Node.Start y6.Node.Role y6.Node.Votes y6.Node.Next y6.Node.Match y6.Node.Commit y6.Node.Elapsed y6.Node.Wait y6.Node.Up) y6.sent)
   else
   ob (impl_worker_send.m N (worker.mk (Node.mk a0.Node.Id a0.Node.Term a0.Node.Vote a0.Node.Log a0.Node.Start a0.Node.Role a0.Node.Votes a0.Node.Next a0.Node.Match a0.Node.Commit a0.Node.Elapsed a0.Node.Wait a0.Node.Up) a0.sent) (Message.mk (2:Int) (0:Int) a1.From (0:Int) (0:Int) (0:Int) (0:Int) ([]:List Entry) (bif true then y5 else false))) fun y7=>
   some (worker.mk (Node.mk y7.Node.Id y7.Node.Term y7.Node.Vote y7.Node.Log y7.Node.Start y7.Node.Role y7.Node.Votes y7.Node.Next y7.Node.Match y7.Node.Commit y7.Node.Elapsed y7.Node.Wait y7.Node.Up) y7.sent)
  else
  ob (impl_worker_send.m N (worker.mk (Node.mk a0.Node.Id a0.Node.Term a0.Node.Vote a0.Node.Log a0.Node.Start a0.Node.Role a0.Node.Votes a0.Node.Next a0.Node.Match a0.Node.Commit a0.Node.Elapsed a0.Node.Wait a0.Node.Up) a0.sent) (Message.mk (2:Int) (0:Int) a1.From (0:Int) (0:Int) (0:Int) (0:Int) ([]:List Entry) false)) fun y8=>
  some (worker.mk (Node.mk y8.Node.Id y8.Node.Term y8.Node.Vote y8.Node.Log y8.Node.Start y8.Node.Role y8.Node.Votes y8.Node.Next y8.Node.Match y8.Node.Commit y8.Node.Elapsed y8.Node.Wait y8.Node.Up) y8.sent)
 else
 ob (impl_worker_send.m N (worker.mk (Node.mk a0.Node.Id a0.Node.Term a0.Node.Vote a0.Node.Log a0.Node.Start a0.Node.Role a0.Node.Votes a0.Node.Next a0.Node.Match a0.Node.Commit a0.Node.Elapsed a0.Node.Wait a0.Node.Up) a0.sent) (Message.mk (2:Int) (0:Int) a1.From (0:Int) (0:Int) (0:Int) (0:Int) ([]:List Entry) false)) fun y9=>
 some (worker.mk (Node.mk y9.Node.Id y9.Node.Term y9.Node.Vote y9.Node.Log y9.Node.Start y9.Node.Role y9.Node.Votes y9.Node.Next y9.Node.Match y9.Node.Commit y9.Node.Elapsed y9.Node.Wait y9.Node.Up) y9.sent)
@[reducible] noncomputable def sp (N:Nat):Spec E:=⟨[.box false 119 119,.val (.st 74)],[],true,false,R,fun x=>m N x.1 x.2.1,fun r=>(),fun r=>(r,(),()),fun a b=>b.1,fun _ _=>rfl,fun _ _=>rfl⟩
end impl_worker_vote
namespace cmp_isNaN_int
abbrev R:=Bool
noncomputable def m (N:Nat) (a0:Int):Option R:=
 some (a0 != a0)
@[reducible] noncomputable def sp (N:Nat):Spec E:=⟨[.val (.int .i64)],[.bool],true,false,R,fun x=>m N x.1,fun r=>(r,()),fun r=>((),()),fun a b=>a.1,fun _ _=>rfl,fun _ _=>rfl⟩
end cmp_isNaN_int
namespace cmp_Less_int
abbrev R:=Bool
noncomputable def m (N:Nat) (a0:Int) (a1:Int):Option R:=
 ob (cmp_isNaN_int.m N a0) fun y1=>
 bif y1 then
  ob (cmp_isNaN_int.m N a1) fun y2=>
  bif (bif true then (!y2) else false) then
   some true
  else
  some (bif false then true else (decide (a0<a1)))
 else
 some (bif false then true else (decide (a0<a1)))
@[reducible] noncomputable def sp (N:Nat):Spec E:=⟨[.val (.int .i64),.val (.int .i64)],[.bool],true,false,R,fun x=>m N x.1 x.2.1,fun r=>(r,()),fun r=>((),(),()),fun a b=>a.1,fun _ _=>rfl,fun _ _=>rfl⟩
end cmp_Less_int
namespace slices_isNaN_int
abbrev R:=Bool
noncomputable def m (N:Nat) (a0:Int):Option R:=
 some (a0 != a0)
@[reducible] noncomputable def sp (N:Nat):Spec E:=⟨[.val (.int .i64)],[.bool],true,false,R,fun x=>m N x.1,fun r=>(r,()),fun r=>((),()),fun a b=>a.1,fun _ _=>rfl,fun _ _=>rfl⟩
end slices_isNaN_int
namespace slices_BinarySearch_int_int
abbrev R:=Int×Bool
noncomputable def step3 (N:Nat) (a0:List Int) (a1:Int) (rec:(Int×Int×Int)→Option R):(Int×Int×Int)→Option R
 | (v2,v3,v4)=>
  bif (decide (v3<v4)) then
   bif (!decide ((1:Int)<0)) then
   bif (decide (0≤(w64 (Int.fdiv (wu64 (w64 (v3+v4))) (2 ^ (min (Int.toNat (1:Int)) 64)))))) then
   bif (decide ((w64 (Int.fdiv (wu64 (w64 (v3+v4))) (2 ^ (min (Int.toNat (1:Int)) 64))))<(a0.length:Int))) then
   ob (cmp_Less_int.m N (a0.getD (Int.toNat (w64 (Int.fdiv (wu64 (w64 (v3+v4))) (2 ^ (min (Int.toNat (1:Int)) 64))))) (0:Int)) a1) fun y1=>
   bif y1 then
    rec (v2,(w64 ((w64 (Int.fdiv (wu64 (w64 (v3+v4))) (2 ^ (min (Int.toNat (1:Int)) 64))))+(1:Int))),v4)
   else
   rec (v2,v3,(w64 (Int.fdiv (wu64 (w64 (v3+v4))) (2 ^ (min (Int.toNat (1:Int)) 64)))))
   else none
   else none
   else none
  else
  bif (decide (v3<v2)) then
   bif (decide (0≤v3)) then
   bif (decide (v3<(a0.length:Int))) then
   bif ((a0.getD (Int.toNat v3) (0:Int))==a1) then
    some (v3,(bif true then true else false))
   else
   bif (decide (0≤v3)) then
   bif (decide (v3<(a0.length:Int))) then
   ob (slices_isNaN_int.m N (a0.getD (Int.toNat v3) (0:Int))) fun y2=>
   bif y2 then
    ob (slices_isNaN_int.m N a1) fun y3=>
    some (v3,(bif true then (bif false then true else (bif true then y3 else false)) else false))
   else
   some (v3,(bif true then (bif false then true else false) else false))
   else none
   else none
   else none
   else none
  else
  some (v3,false)
noncomputable def lp3 (N:Nat) (a0:List Int) (a1:Int):(Int×Int×Int)→Option R:=
 miter (fun rec=>step3 N a0 a1 rec) N
noncomputable def m0 (N:Nat) (a0:List Int) (a1:Int) (lp3:Int×Int×Int→Option R):Option R:=
 lp3 ((a0.length:Int),(0:Int),(a0.length:Int))
@[reducible] noncomputable def m (N:Nat) (a0:List Int) (a1:Int):Option R:=m0 N a0 a1 (lp3 N a0 a1)
@[reducible] noncomputable def sp (N:Nat):Spec E:=⟨[.val (.slice 3 (.int .i64)),.val (.int .i64)],[(.int .i64),.bool],true,false,R,fun x=>m N x.1 x.2.1,fun r=>(r.1,r.2,()),fun r=>((),(),()),fun a b=>(a.1,a.2.1),fun _ _=>rfl,fun _ _=>rfl⟩
end slices_BinarySearch_int_int
namespace slices_Insert_int
abbrev R:=List Int
def m (N:Nat) (a0:List Int) (a1:Int) (a2:List Int):Option R:=insM 8 a0 a1 a2
@[reducible] noncomputable def sp (N:Nat):Spec E:={ ps:=[.mov false (.slice 3 (.int .i64)),.val (.int .i64),.mov false (.slice 3 (.int .i64))],rs:=[(.slice 3 (.int .i64))],own:=true,dp:=false,R:=R,fn:=fun x=>m N x.1 x.2.1 x.2.2.1,res:=fun r=>(r,()),out:=fun r=>((),(),(),()),shut:=fun a b=>a.1,res_shut:=fun _ _=>rfl,out_shut:=fun _ _=>rfl }
end slices_Insert_int
namespace impl_Node_members
abbrev R:=List Int
noncomputable def m (N:Nat) (a0:Node):Option R:=
 bif decide (a0.Log.length≤1048576000)&&a0.Log.all (fun e=>!(e.Kind==2)||(impl_readMembers.m N e.Data).isSome) then
  match a0.Log.reverse.find? (fun e=>e.Kind==2) with
  | some e=>(impl_readMembers.m N e.Data).map (·.1)
  | none=>slices_Clone_int_int.m N a0.Start
 else none
@[reducible] noncomputable def sp (N:Nat):Spec E:={ ps:=[.val (.st 39)],rs:=[(.slice 3 (.int .i64))],own:=true,dp:=false,R:=R,fn:=fun x=>m N x.1,res:=fun r=>(r,()),out:=fun r=>((),()),shut:=fun a b=>a.1,res_shut:=fun _ _=>rfl,out_shut:=fun _ _=>rfl }
end impl_Node_members
namespace slices_Index_int_int
abbrev R:=Int
noncomputable def step2 (N:Nat) (a0:List Int) (a1:Int) (rec:(Int×Int)→Option R):(Int×Int)→Option R
 | (v2,v3)=>
  bif (decide (v3<v2)) then
   bif (decide (0≤v3)) then
   bif (decide (v3<(a0.length:Int))) then
   bif (a1==(a0.getD (Int.toNat v3) (0:Int))) then
    some v3
   else
   rec (v2,(w64 (v3+(1:Int))))
   else none
   else none
  else
  some (-1:Int)
noncomputable def lp2 (N:Nat) (a0:List Int) (a1:Int):(Int×Int)→Option R:=
 miter (fun rec=>step2 N a0 a1 rec) N
noncomputable def m0 (N:Nat) (a0:List Int) (a1:Int) (lp2:Int×Int→Option R):Option R:=
 lp2 ((a0.length:Int),(0:Int))
@[reducible] noncomputable def m (N:Nat) (a0:List Int) (a1:Int):Option R:=m0 N a0 a1 (lp2 N a0 a1)
@[reducible] noncomputable def sp (N:Nat):Spec E:=⟨[.val (.slice 3 (.int .i64)),.val (.int .i64)],[(.int .i64)],true,false,R,fun x=>m N x.1 x.2.1,fun r=>(r,()),fun r=>((),(),()),fun a b=>a.1,fun _ _=>rfl,fun _ _=>rfl⟩
end slices_Index_int_int
namespace slices_Contains_int_int
abbrev R:=Bool
noncomputable def m (N:Nat) (a0:List Int) (a1:Int):Option R:=
 ob (slices_Index_int_int.m N a0 a1) fun y1=>
 some (decide (y1≥(0:Int)))
@[reducible] noncomputable def sp (N:Nat):Spec E:=⟨[.val (.slice 3 (.int .i64)),.val (.int .i64)],[.bool],true,false,R,fun x=>m N x.1 x.2.1,fun r=>(r,()),fun r=>((),(),()),fun a b=>a.1,fun _ _=>rfl,fun _ _=>rfl⟩
end slices_Contains_int_int
namespace impl_worker_leadIf_1
abbrev R:=Bool
noncomputable def m (N:Nat) (a0:Int) (a1:worker):Option R:=
 ob (slices_Contains_int_int.m N a1.Node.Votes a0) fun y1=>
 some y1
@[reducible] noncomputable def sp (N:Nat):Spec E:=⟨[.val (.int .i64),.cap (.rpp (.st 119))],[.bool],true,false,R,fun x=>m N x.1 x.2.1,fun r=>(r,()),fun r=>((),(),()),fun a b=>a.1,fun _ _=>rfl,fun _ _=>rfl⟩
end impl_worker_leadIf_1
namespace impl_worker_isMost__impl_worker_leadIf_1_
abbrev R:=Bool
noncomputable def step3 (N:Nat) (a0:worker) (a1_0:worker) (rec:(Int×Int×Int×(List Int))→Option R):(Int×Int×Int×(List Int))→Option R
 | (v0,v1,v2,v17)=>
  bif (decide (v2<v1)) then
   bif (decide (0≤v2)) then
   bif (decide (v2<(v17.length:Int))) then
   ob (impl_worker_leadIf_1.m N (v17.getD (Int.toNat v2) (0:Int)) (worker.mk (Node.mk a1_0.Node.Id a1_0.Node.Term a1_0.Node.Vote a1_0.Node.Log a1_0.Node.Start a1_0.Node.Role a1_0.Node.Votes a1_0.Node.Next a1_0.Node.Match a1_0.Node.Commit a1_0.Node.Elapsed a1_0.Node.Wait a1_0.Node.Up) a1_0.sent)) fun y2=>
   bif y2 then
    rec ((w64 (v0+(1:Int))),v1,(w64 (v2+(1:Int))),v17)
   else
   rec (v0,v1,(w64 (v2+(1:Int))),v17)
   else none
   else none
  else
  some (decide ((w64 ((2:Int) * v0)) > (v17.length:Int)))
noncomputable def lp3 (N:Nat) (a0:worker) (a1_0:worker):(Int×Int×Int×(List Int))→Option R:=
 miter (fun rec=>step3 N a0 a1_0 rec) N
noncomputable def m0 (N:Nat) (a0:worker) (a1_0:worker) (lp3:Int×Int×Int×(List Int)→Option R):Option R:=
 ob (impl_Node_members.m N (Node.mk a0.Node.Id a0.Node.Term a0.Node.Vote a0.Node.Log a0.Node.Start a0.Node.Role a0.Node.Votes a0.Node.Next a0.Node.Match a0.Node.Commit a0.Node.Elapsed a0.Node.Wait a0.Node.Up)) fun y1=>
 lp3 ((0:Int),(y1.length:Int),(0:Int),y1)
@[reducible] noncomputable def m (N:Nat) (a0:worker) (a1_0:worker):Option R:=m0 N a0 a1_0 (lp3 N a0 a1_0)
@[reducible] noncomputable def sp (N:Nat):Spec E:=⟨[.cap (.rb (.st 119)),.clo 109 [.rpp (.st 119)]],[.bool],true,false,R,fun x=>m N x.1 x.2.1.1,fun r=>(r,()),fun r=>((),(),()),fun a b=>a.1,fun _ _=>rfl,fun _ _=>rfl⟩
end impl_worker_isMost__impl_worker_leadIf_1_
namespace impl_worker_commit_1
abbrev R:=Bool
noncomputable def m (N:Nat) (a0:Int) (a1:worker) (a2:Int):Option R:=
 bif (a0==a1.Node.Id) then
  some true
 else
 bif (decide (0≤a0)) then
 bif (decide (a0<(a1.Node.Match.length:Int))) then
 some (bif false then true else (decide ((a1.Node.Match.getD (Int.toNat a0) (0:Int))≥a2)))
 else none
 else none
@[reducible] noncomputable def sp (N:Nat):Spec E:=⟨[.val (.int .i64),.cap (.rpp (.st 119)),.cap (.rb (.int .i64))],[.bool],true,false,R,fun x=>m N x.1 x.2.1 x.2.2.1,fun r=>(r,()),fun r=>((),(),(),()),fun a b=>a.1,fun _ _=>rfl,fun _ _=>rfl⟩
end impl_worker_commit_1
namespace impl_worker_isMost__impl_worker_commit_1_
abbrev R:=Bool
noncomputable def step3 (N:Nat) (a0:worker) (a1_0:worker) (a1_1:Int) (rec:(Int×Int×Int×(List Int))→Option R):(Int×Int×Int×(List Int))→Option R
 | (v0,v1,v2,v18)=>
  bif (decide (v2<v1)) then
   bif (decide (0≤v2)) then
   bif (decide (v2<(v18.length:Int))) then
   ob (impl_worker_commit_1.m N (v18.getD (Int.toNat v2) (0:Int)) (worker.mk (Node.mk a1_0.Node.Id a1_0.Node.Term a1_0.Node.Vote a1_0.Node.Log a1_0.Node.Start a1_0.Node.Role a1_0.Node.Votes a1_0.Node.Next a1_0.Node.Match a1_0.Node.Commit a1_0.Node.Elapsed a1_0.Node.Wait a1_0.Node.Up) a1_0.sent) a1_1) fun y2=>
   bif y2 then
    rec ((w64 (v0+(1:Int))),v1,(w64 (v2+(1:Int))),v18)
   else
   rec (v0,v1,(w64 (v2+(1:Int))),v18)
   else none
   else none
  else
  some (decide ((w64 ((2:Int) * v0)) > (v18.length:Int)))
noncomputable def lp3 (N:Nat) (a0:worker) (a1_0:worker) (a1_1:Int):(Int×Int×Int×(List Int))→Option R:=
 miter (fun rec=>step3 N a0 a1_0 a1_1 rec) N
noncomputable def m0 (N:Nat) (a0:worker) (a1_0:worker) (a1_1:Int) (lp3:Int×Int×Int×(List Int)→Option R):Option R:=
 ob (impl_Node_members.m N (Node.mk a0.Node.Id a0.Node.Term a0.Node.Vote a0.Node.Log a0.Node.Start a0.Node.Role a0.Node.Votes a0.Node.Next a0.Node.Match a0.Node.Commit a0.Node.Elapsed a0.Node.Wait a0.Node.Up)) fun y1=>
 lp3 ((0:Int),(y1.length:Int),(0:Int),y1)
@[reducible] noncomputable def m (N:Nat) (a0:worker) (a1_0:worker) (a1_1:Int):Option R:=m0 N a0 a1_0 a1_1 (lp3 N a0 a1_0 a1_1)
@[reducible] noncomputable def sp (N:Nat):Spec E:=⟨[.cap (.rb (.st 119)),.clo 89 [.rpp (.st 119),.rb (.int .i64)]],[.bool],true,false,R,fun x=>m N x.1 x.2.1.1 x.2.1.2.1,fun r=>(r,()),fun r=>((),(),()),fun a b=>a.1,fun _ _=>rfl,fun _ _=>rfl⟩
end impl_worker_isMost__impl_worker_commit_1_
namespace impl_worker_commit
abbrev R:=worker
noncomputable def step2 (N:Nat) (a0:worker) (rec:Int→Option R):Int→Option R
 | v14=>
  bif (decide (v14 > a0.Node.Commit)) then
   ob (impl_Node_termAt.m N (Node.mk a0.Node.Id a0.Node.Term a0.Node.Vote a0.Node.Log a0.Node.Start a0.Node.Role a0.Node.Votes a0.Node.Next a0.Node.Match a0.Node.Commit a0.Node.Elapsed a0.Node.Wait a0.Node.Up) v14) fun y1=>
   bif (bif true then (y1==a0.Node.Term) else false) then
    ob (impl_worker_isMost__impl_worker_commit_1_.m N (worker.mk (Node.mk a0.Node.Id a0.Node.Term a0.Node.Vote a0.Node.Log a0.Node.Start a0.Node.Role a0.Node.Votes a0.Node.Next a0.Node.Match a0.Node.Commit a0.Node.Elapsed a0.Node.Wait a0.Node.Up) a0.sent) (worker.mk (Node.mk a0.Node.Id a0.Node.Term a0.Node.Vote a0.Node.Log a0.Node.Start a0.Node.Role a0.Node.Votes a0.Node.Next a0.Node.Match a0.Node.Commit a0.Node.Elapsed a0.Node.Wait a0.Node.Up) a0.sent) v14) fun y2=>
    bif y2 then
     some (worker.mk (Node.mk a0.Node.Id a0.Node.Term a0.Node.Vote a0.Node.Log a0.Node.Start a0.Node.Role a0.Node.Votes a0.Node.Next a0.Node.Match v14 a0.Node.Elapsed a0.Node.Wait a0.Node.Up) a0.sent)
    else
    rec (w64 (v14 - (1:Int)))
   else
   some (worker.mk (Node.mk a0.Node.Id a0.Node.Term a0.Node.Vote a0.Node.Log a0.Node.Start a0.Node.Role a0.Node.Votes a0.Node.Next a0.Node.Match a0.Node.Commit a0.Node.Elapsed a0.Node.Wait a0.Node.Up) a0.sent)
  else
  some (worker.mk (Node.mk a0.Node.Id a0.Node.Term a0.Node.Vote a0.Node.Log a0.Node.Start a0.Node.Role a0.Node.Votes a0.Node.Next a0.Node.Match a0.Node.Commit a0.Node.Elapsed a0.Node.Wait a0.Node.Up) a0.sent)
noncomputable def lp2 (N:Nat) (a0:worker):Int→Option R:=
 miter (fun rec=>step2 N a0 rec) N
noncomputable def m0 (N:Nat) (a0:worker) (lp2:Int→Option R):Option R:=
 lp2 (a0.Node.Log.length:Int)
@[reducible] noncomputable def m (N:Nat) (a0:worker):Option R:=m0 N a0 (lp2 N a0)
@[reducible] noncomputable def sp (N:Nat):Spec E:=⟨[.box false 119 119],[],true,false,R,fun x=>m N x.1,fun r=>(),fun r=>(r,()),fun a b=>b.1,fun _ _=>rfl,fun _ _=>rfl⟩
end impl_worker_commit
namespace impl_worker_others_1
abbrev R:=Bool
noncomputable def m (N:Nat) (a0:Int) (a1:worker):Option R:=
 some (a0==a1.Node.Id)
@[reducible] noncomputable def sp (N:Nat):Spec E:=⟨[.val (.int .i64),.cap (.rpp (.st 119))],[.bool],true,false,R,fun x=>m N x.1 x.2.1,fun r=>(r,()),fun r=>((),(),()),fun a b=>a.1,fun _ _=>rfl,fun _ _=>rfl⟩
end impl_worker_others_1
namespace slices_IndexFunc_int_int__impl_worker_others_1
abbrev R:=Int
noncomputable def step2 (N:Nat) (a0:List Int) (a1_0:worker) (rec:(Int×Int)→Option R):(Int×Int)→Option R
 | (v1,v2)=>
  bif (decide (v2<v1)) then
   bif (decide (0≤v2)) then
   bif (decide (v2<(a0.length:Int))) then
   ob (impl_worker_others_1.m N (a0.getD (Int.toNat v2) (0:Int)) (worker.mk (Node.mk a1_0.Node.Id a1_0.Node.Term a1_0.Node.Vote a1_0.Node.Log a1_0.Node.Start a1_0.Node.Role a1_0.Node.Votes a1_0.Node.Next a1_0.Node.Match a1_0.Node.Commit a1_0.Node.Elapsed a1_0.Node.Wait a1_0.Node.Up) a1_0.sent)) fun y1=>
   bif y1 then
    some v2
   else
   rec (v1,(w64 (v2+(1:Int))))
   else none
   else none
  else
  some (-1:Int)
noncomputable def lp2 (N:Nat) (a0:List Int) (a1_0:worker):(Int×Int)→Option R:=
 miter (fun rec=>step2 N a0 a1_0 rec) N
noncomputable def m0 (N:Nat) (a0:List Int) (a1_0:worker) (lp2:Int×Int→Option R):Option R:=
 lp2 ((a0.length:Int),(0:Int))
@[reducible] noncomputable def m (N:Nat) (a0:List Int) (a1_0:worker):Option R:=m0 N a0 a1_0 (lp2 N a0 a1_0)
@[reducible] noncomputable def sp (N:Nat):Spec E:=⟨[.val (.slice 3 (.int .i64)),.clo 103 [.rpp (.st 119)]],[(.int .i64)],true,false,R,fun x=>m N x.1 x.2.1.1,fun r=>(r,()),fun r=>((),(),()),fun a b=>a.1,fun _ _=>rfl,fun _ _=>rfl⟩
end slices_IndexFunc_int_int__impl_worker_others_1
namespace slices_DeleteFunc_int_int__impl_worker_others_1
abbrev R:=(List Int)
noncomputable def step5 (N:Nat) (a0:List Int) (a1_0:worker) (rec:(Int×Int×(List Int))→Option R):(Int×Int×(List Int))→Option R
 | (v0,v1,v2)=>
  bif (decide (v1<(v2.length:Int))) then
   bif (decide (0≤v1)) then
   bif (decide (v1<(v2.length:Int))) then
   ob (impl_worker_others_1.m N (v2.getD (Int.toNat v1) (0:Int)) (worker.mk (Node.mk a1_0.Node.Id a1_0.Node.Term a1_0.Node.Vote a1_0.Node.Log a1_0.Node.Start a1_0.Node.Role a1_0.Node.Votes a1_0.Node.Next a1_0.Node.Match a1_0.Node.Commit a1_0.Node.Elapsed a1_0.Node.Wait a1_0.Node.Up) a1_0.sent)) fun y2=>
   bif (!y2) then
    bif (decide (0≤v0)) then
    bif (decide (v0<(v2.length:Int))) then
    rec ((w64 (v0+(1:Int))),(w64 (v1+(1:Int))),(v2.set (Int.toNat v0) (v2.getD (Int.toNat v1) (0:Int))))
    else none
    else none
   else
   rec (v0,(w64 (v1+(1:Int))),v2)
   else none
   else none
  else
  bif (decide (0≤v0)) then
  bif (decide (v0≤(((v2.length):Nat):Int))) then
  bif (decide ((Int.toNat v0)+((v2.length) - (Int.toNat v0))≤v2.length)) then
  (let w3:List Int:=(v2.take (Int.toNat v0)++(List.replicate ((v2.length) - (Int.toNat v0)) (0:Int)++v2.drop ((Int.toNat v0)+((v2.length) - (Int.toNat v0)))))
  bif (decide (0≤v0)) then
  bif (decide (v0≤((w3.length:Nat):Int))) then
  bif (decide (0+((Int.toNat v0) - 0)≤w3.length)) then
  some ((w3.drop 0).take ((Int.toNat v0) - 0))
  else none
  else none
  else none)
  else none
  else none
  else none
noncomputable def lp5 (N:Nat) (a0:List Int) (a1_0:worker):(Int×Int×(List Int))→Option R:=
 miter (fun rec=>step5 N a0 a1_0 rec) N
noncomputable def m0 (N:Nat) (a0:List Int) (a1_0:worker) (lp5:Int×Int×(List Int)→Option R):Option R:=
 ob (slices_IndexFunc_int_int__impl_worker_others_1.m N a0 (worker.mk (Node.mk a1_0.Node.Id a1_0.Node.Term a1_0.Node.Vote a1_0.Node.Log a1_0.Node.Start a1_0.Node.Role a1_0.Node.Votes a1_0.Node.Next a1_0.Node.Match a1_0.Node.Commit a1_0.Node.Elapsed a1_0.Node.Wait a1_0.Node.Up) a1_0.sent)) fun y1=>
 bif (y1==(-1:Int)) then
  some a0
 else
 lp5 (y1,(w64 (y1+(1:Int))),a0)
@[reducible] noncomputable def m (N:Nat) (a0:List Int) (a1_0:worker):Option R:=m0 N a0 a1_0 (lp5 N a0 a1_0)
@[reducible] noncomputable def sp (N:Nat):Spec E:=⟨[.mov false (.slice 3 (.int .i64)),.clo 103 [.rpp (.st 119)]],[(.slice 3 (.int .i64))],true,false,R,fun x=>m N x.1 x.2.1.1,fun r=>(r,()),fun r=>((),(),()),fun a b=>a.1,fun _ _=>rfl,fun _ _=>rfl⟩
end slices_DeleteFunc_int_int__impl_worker_others_1
namespace impl_worker_others_
abbrev R:=(List Int)
noncomputable def m (N:Nat) (a0:worker):Option R:=
 ob (impl_Node_members.m N (Node.mk a0.Node.Id a0.Node.Term a0.Node.Vote a0.Node.Log a0.Node.Start a0.Node.Role a0.Node.Votes a0.Node.Next a0.Node.Match a0.Node.Commit a0.Node.Elapsed a0.Node.Wait a0.Node.Up)) fun y1=>
 ob (slices_DeleteFunc_int_int__impl_worker_others_1.m N y1 (worker.mk (Node.mk a0.Node.Id a0.Node.Term a0.Node.Vote a0.Node.Log a0.Node.Start a0.Node.Role a0.Node.Votes a0.Node.Next a0.Node.Match a0.Node.Commit a0.Node.Elapsed a0.Node.Wait a0.Node.Up) a0.sent)) fun y2=>
 some y2
@[reducible] noncomputable def sp (N:Nat):Spec E:=⟨[.cap (.rb (.st 119))],[(.slice 3 (.int .i64))],true,false,R,fun x=>m N x.1,fun r=>(r,()),fun r=>((),()),fun a b=>a.1,fun _ _=>rfl,fun _ _=>rfl⟩
end impl_worker_others_
namespace impl_worker_tell_
abbrev R:=worker
noncomputable def m (N:Nat) (a0:worker) (a1:Int) (a2:Int):Option R:=
 bif (decide (0≤a1)) then
 bif (decide (a1<(a0.Node.Next.length:Int))) then
 ob (impl_Node_termAt.m N (Node.mk a0.Node.Id a0.Node.Term a0.Node.Vote a0.Node.Log a0.Node.Start a0.Node.Role a0.Node.Votes a0.Node.Next a0.Node.Match a0.Node.Commit a0.Node.Elapsed a0.Node.Wait a0.Node.Up) (w64 ((a0.Node.Next.getD (Int.toNat a1) (0:Int)) - (1:Int)))) fun y1=>
 bif (decide (0≤(w64 ((a0.Node.Next.getD (Int.toNat a1) (0:Int)) - (1:Int))))) then
 bif (decide ((w64 ((a0.Node.Next.getD (Int.toNat a1) (0:Int)) - (1:Int)))≤(((a0.Node.Log.length):Nat):Int))) then
 bif (decide ((Int.toNat (w64 ((a0.Node.Next.getD (Int.toNat a1) (0:Int)) - (1:Int))))+((a0.Node.Log.length) - (Int.toNat (w64 ((a0.Node.Next.getD (Int.toNat a1) (0:Int)) - (1:Int)))))≤a0.Node.Log.length)) then
 ob (slices_Clone_impl_Entry_impl_Entry.m N ((a0.Node.Log.drop (Int.toNat (w64 ((a0.Node.Next.getD (Int.toNat a1) (0:Int)) - (1:Int))))).take ((a0.Node.Log.length) - (Int.toNat (w64 ((a0.Node.Next.getD (Int.toNat a1) (0:Int)) - (1:Int))))))) fun y2=>
 ob (impl_worker_send.m N (worker.mk (Node.mk a0.Node.Id a0.Node.Term a0.Node.Vote a0.Node.Log a0.Node.Start a0.Node.Role a0.Node.Votes a0.Node.Next a0.Node.Match a0.Node.Commit a0.Node.Elapsed a0.Node.Wait a0.Node.Up) a0.sent) (Message.mk (3:Int) (0:Int) a1 (0:Int) (w64 ((a0.Node.Next.getD (Int.toNat a1) (0:Int)) - (1:Int))) y1 a2 y2 false)) fun y3=>
 some (worker.mk (Node.mk y3.Node.Id y3.Node.Term y3.Node.Vote y3.Node.Log y3.Node.Start y3.Node.Role y3.Node.Votes y3.Node.Next y3.Node.Match y3.Node.Commit y3.Node.Elapsed y3.Node.Wait y3.Node.Up) y3.sent)
 else none
 else none
 else none
 else none
 else none
@[reducible] noncomputable def sp (N:Nat):Spec E:=⟨[.box false 119 119,.val (.int .i64),.val (.int .i64)],[],true,false,R,fun x=>m N x.1 x.2.1 x.2.2.1,fun r=>(),fun r=>(r,(),(),()),fun a b=>b.1,fun _ _=>rfl,fun _ _=>rfl⟩
end impl_worker_tell_
namespace impl_worker_tellAll
abbrev R:=worker
noncomputable def step1 (N:Nat) (a0:worker) (a1:Int) (rec:(Int×Int×Int×Int×Int×Int×Int×Int×Int×Bool×(List Entry)×(List Int)×(List Int)×(List Int)×(List Int)×(List Message)×(List Int))→Option R):(Int×Int×Int×Int×Int×Int×Int×Int×Int×Bool×(List Entry)×(List Int)×(List Int)×(List Int)×(List Int)×(List Message)×(List Int))→Option R
 | (v1,v2,v3,v4,v5,v6,v7,v8,v9,v10,v11,v12,v13,v14,v15,v16,v17)=>
  bif (decide (v2<v1)) then
   bif (decide (0≤v2)) then
   bif (decide (v2<(v17.length:Int))) then
   ob (impl_worker_tell_.m N (worker.mk (Node.mk v3 v4 v5 v11 v12 v6 v13 v14 v15 v7 v8 v9 v10) v16) (v17.getD (Int.toNat v2) (0:Int)) a1) fun y2=>
   rec (v1,(w64 (v2+(1:Int))),y2.Node.Id,y2.Node.Term,y2.Node.Vote,y2.Node.Role,y2.Node.Commit,y2.Node.Elapsed,y2.Node.Wait,y2.Node.Up,y2.Node.Log,y2.Node.Start,y2.Node.Votes,y2.Node.Next,y2.Node.Match,y2.sent,v17)
   else none
   else none
  else
  some (worker.mk (Node.mk v3 v4 v5 v11 v12 v6 v13 v14 v15 v7 v8 v9 v10) v16)
noncomputable def lp1 (N:Nat) (a0:worker) (a1:Int):(Int×Int×Int×Int×Int×Int×Int×Int×Int×Bool×(List Entry)×(List Int)×(List Int)×(List Int)×(List Int)×(List Message)×(List Int))→Option R:=
 miter (fun rec=>step1 N a0 a1 rec) N
noncomputable def m0 (N:Nat) (a0:worker) (a1:Int) (lp1:Int×Int×Int×Int×Int×Int×Int×Int×Int×Bool×(List Entry)×(List Int)×(List Int)×(List Int)×(List Int)×(List Message)×(List Int)→Option R):Option R:=
 ob (impl_worker_others_.m N (worker.mk (Node.mk a0.Node.Id a0.Node.Term a0.Node.Vote a0.Node.Log a0.Node.Start a0.Node.Role a0.Node.Votes a0.Node.Next a0.Node.Match a0.Node.Commit a0.Node.Elapsed a0.Node.Wait a0.Node.Up) a0.sent)) fun y1=>
 lp1 ((y1.length:Int),(0:Int),a0.Node.Id,a0.Node.Term,a0.Node.Vote,a0.Node.Role,a0.Node.Commit,a0.Node.Elapsed,a0.Node.Wait,a0.Node.Up,a0.Node.Log,a0.Node.Start,a0.Node.Votes,a0.Node.Next,a0.Node.Match,a0.sent,y1)
@[reducible] noncomputable def m (N:Nat) (a0:worker) (a1:Int):Option R:=m0 N a0 a1 (lp1 N a0 a1)
@[reducible] noncomputable def sp (N:Nat):Spec E:=⟨[.box false 119 119,.val (.int .i64)],[],true,false,R,fun x=>m N x.1 x.2.1,fun r=>(),fun r=>(r,(),()),fun a b=>b.1,fun _ _=>rfl,fun _ _=>rfl⟩
end impl_worker_tellAll
namespace impl_worker_lead_
abbrev R:=worker
noncomputable def m (N:Nat) (a0:worker):Option R:=
 ob (slices_Repeat_int_int.m N ([(w64 ((a0.Node.Log.length:Int)+(1:Int)))]) (7:Int)) fun y1=>
 bif (decide (0≤(7:Int))) then
 bif (room 7 8) then
 bif (decide ((a0.Node.Log.length:Int)<(60:Int))) then
  bif (room (a0.Node.Log.length+([(Entry.mk a0.Node.Term (0:Int) ByteArray.empty)]).length) 32) then
  ob (impl_worker_commit.m N (worker.mk (Node.mk a0.Node.Id a0.Node.Term a0.Node.Vote (a0.Node.Log++[(Entry.mk a0.Node.Term (0:Int) ByteArray.empty)]) a0.Node.Start (2:Int) a0.Node.Votes y1 (List.replicate 7 (0:Int)) a0.Node.Commit (0:Int) a0.Node.Wait a0.Node.Up) a0.sent)) fun y2=>
  ob (impl_worker_tellAll.m N (worker.mk (Node.mk y2.Node.Id y2.Node.Term y2.Node.Vote y2.Node.Log y2.Node.Start y2.Node.Role y2.Node.Votes y2.Node.Next y2.Node.Match y2.Node.Commit y2.Node.Elapsed y2.Node.Wait y2.Node.Up) y2.sent) a0.Node.Commit) fun y3=>
  some (worker.mk (Node.mk y3.Node.Id y3.Node.Term y3.Node.Vote y3.Node.Log y3.Node.Start y3.Node.Role y3.Node.Votes y3.Node.Next y3.Node.Match y3.Node.Commit y3.Node.Elapsed y3.Node.Wait y3.Node.Up) y3.sent)
  else none
 else
 ob (impl_worker_commit.m N (worker.mk (Node.mk a0.Node.Id a0.Node.Term a0.Node.Vote a0.Node.Log a0.Node.Start (2:Int) a0.Node.Votes y1 (List.replicate 7 (0:Int)) a0.Node.Commit (0:Int) a0.Node.Wait a0.Node.Up) a0.sent)) fun y4=>
 ob (impl_worker_tellAll.m N (worker.mk (Node.mk y4.Node.Id y4.Node.Term y4.Node.Vote y4.Node.Log y4.Node.Start y4.Node.Role y4.Node.Votes y4.Node.Next y4.Node.Match y4.Node.Commit y4.Node.Elapsed y4.Node.Wait y4.Node.Up) y4.sent) a0.Node.Commit) fun y5=>
 some (worker.mk (Node.mk y5.Node.Id y5.Node.Term y5.Node.Vote y5.Node.Log y5.Node.Start y5.Node.Role y5.Node.Votes y5.Node.Next y5.Node.Match y5.Node.Commit y5.Node.Elapsed y5.Node.Wait y5.Node.Up) y5.sent)
 else none
 else none
@[reducible] noncomputable def sp (N:Nat):Spec E:=⟨[.box false 119 119],[],true,false,R,fun x=>m N x.1,fun r=>(),fun r=>(r,()),fun a b=>b.1,fun _ _=>rfl,fun _ _=>rfl⟩
end impl_worker_lead_
namespace impl_worker_leadIf
abbrev R:=Bool×worker
noncomputable def m (N:Nat) (a0:worker):Option R:=
 ob (impl_worker_isMost__impl_worker_leadIf_1_.m N (worker.mk (Node.mk a0.Node.Id a0.Node.Term a0.Node.Vote a0.Node.Log a0.Node.Start a0.Node.Role a0.Node.Votes a0.Node.Next a0.Node.Match a0.Node.Commit a0.Node.Elapsed a0.Node.Wait a0.Node.Up) a0.sent) (worker.mk (Node.mk a0.Node.Id a0.Node.Term a0.Node.Vote a0.Node.Log a0.Node.Start a0.Node.Role a0.Node.Votes a0.Node.Next a0.Node.Match a0.Node.Commit a0.Node.Elapsed a0.Node.Wait a0.Node.Up) a0.sent)) fun y1=>
 bif y1 then
  ob (impl_worker_lead_.m N (worker.mk (Node.mk a0.Node.Id a0.Node.Term a0.Node.Vote a0.Node.Log a0.Node.Start a0.Node.Role a0.Node.Votes a0.Node.Next a0.Node.Match a0.Node.Commit a0.Node.Elapsed a0.Node.Wait a0.Node.Up) a0.sent)) fun y2=>
  some (y1,(worker.mk (Node.mk y2.Node.Id y2.Node.Term y2.Node.Vote y2.Node.Log y2.Node.Start y2.Node.Role y2.Node.Votes y2.Node.Next y2.Node.Match y2.Node.Commit y2.Node.Elapsed y2.Node.Wait y2.Node.Up) y2.sent))
 else
 some (y1,(worker.mk (Node.mk a0.Node.Id a0.Node.Term a0.Node.Vote a0.Node.Log a0.Node.Start a0.Node.Role a0.Node.Votes a0.Node.Next a0.Node.Match a0.Node.Commit a0.Node.Elapsed a0.Node.Wait a0.Node.Up) a0.sent))
@[reducible] noncomputable def sp (N:Nat):Spec E:=⟨[.box false 119 119],[.bool],true,false,R,fun x=>m N x.1,fun r=>(r.1,()),fun r=>(r.2,()),fun a b=>(a.1,b.1),fun _ _=>rfl,fun _ _=>rfl⟩
end impl_worker_leadIf
namespace impl_worker_voted
abbrev R:=worker
noncomputable def m (N:Nat) (a0:worker) (a1:Message):Option R:=
 bif (a0.Node.Role != (1:Int)) then
  some (worker.mk (Node.mk a0.Node.Id a0.Node.Term a0.Node.Vote a0.Node.Log a0.Node.Start a0.Node.Role a0.Node.Votes a0.Node.Next a0.Node.Match a0.Node.Commit a0.Node.Elapsed a0.Node.Wait a0.Node.Up) a0.sent)
 else
 bif (bif false then true else (a1.Term != a0.Node.Term)) then
  some (worker.mk (Node.mk a0.Node.Id a0.Node.Term a0.Node.Vote a0.Node.Log a0.Node.Start a0.Node.Role a0.Node.Votes a0.Node.Next a0.Node.Match a0.Node.Commit a0.Node.Elapsed a0.Node.Wait a0.Node.Up) a0.sent)
 else
 bif (bif false then true else (!a1.Ok)) then
  some (worker.mk (Node.mk a0.Node.Id a0.Node.Term a0.Node.Vote a0.Node.Log a0.Node.Start a0.Node.Role a0.Node.Votes a0.Node.Next a0.Node.Match a0.Node.Commit a0.Node.Elapsed a0.Node.Wait a0.Node.Up) a0.sent)
 else
 ob (slices_BinarySearch_int_int.m N a0.Node.Votes a1.From) fun y1=>
 bif (!y1.2) then
  ob (slices_Insert_int.m N a0.Node.Votes y1.1 ([a1.From])) fun y2=>
  ob (impl_worker_leadIf.m N (worker.mk (Node.mk a0.Node.Id a0.Node.Term a0.Node.Vote a0.Node.Log a0.Node.Start a0.Node.Role y2 a0.Node.Next a0.Node.Match a0.Node.Commit a0.Node.Elapsed a0.Node.Wait a0.Node.Up) a0.sent)) fun y3=>
  some (worker.mk (Node.mk y3.2.Node.Id y3.2.Node.Term y3.2.Node.Vote y3.2.Node.Log y3.2.Node.Start y3.2.Node.Role y3.2.Node.Votes y3.2.Node.Next y3.2.Node.Match y3.2.Node.Commit y3.2.Node.Elapsed y3.2.Node.Wait y3.2.Node.Up) y3.2.sent)
 else
 ob (impl_worker_leadIf.m N (worker.mk (Node.mk a0.Node.Id a0.Node.Term a0.Node.Vote a0.Node.Log a0.Node.Start a0.Node.Role a0.Node.Votes a0.Node.Next a0.Node.Match a0.Node.Commit a0.Node.Elapsed a0.Node.Wait a0.Node.Up) a0.sent)) fun y4=>
 some (worker.mk (Node.mk y4.2.Node.Id y4.2.Node.Term y4.2.Node.Vote y4.2.Node.Log y4.2.Node.Start y4.2.Node.Role y4.2.Node.Votes y4.2.Node.Next y4.2.Node.Match y4.2.Node.Commit y4.2.Node.Elapsed y4.2.Node.Wait y4.2.Node.Up) y4.2.sent)
@[reducible] noncomputable def sp (N:Nat):Spec E:=⟨[.box false 119 119,.val (.st 74)],[],true,false,R,fun x=>m N x.1 x.2.1,fun r=>(),fun r=>(r,(),()),fun a b=>b.1,fun _ _=>rfl,fun _ _=>rfl⟩
end impl_worker_voted
namespace impl_worker_store
abbrev R:=worker
noncomputable def step2 (N:Nat) (a0:worker) (a1:Message) (rec:(Int×Int)→Option R):(Int×Int)→Option R
 | (v1,v2)=>
  bif (decide (v2<v1)) then
   bif (decide (0≤v2)) then
   bif (decide (v2<(a1.Entries.length:Int))) then
   bif (decide ((w64 ((w64 (a1.Index+v2))+(1:Int))) > (a0.Node.Log.length:Int))) then
    bif (decide (0≤(w64 ((w64 ((w64 (a1.Index+v2))+(1:Int))) - (1:Int))))) then
    bif (decide ((w64 ((w64 ((w64 (a1.Index+v2))+(1:Int))) - (1:Int)))≤((a0.Node.Log.length:Nat):Int))) then
    bif (decide (0≤v2)) then
    bif (decide (v2≤((a1.Entries.length:Nat):Int))) then
    bif (room (((Int.toNat (w64 ((w64 ((w64 (a1.Index+v2))+(1:Int))) - (1:Int)))) - 0)+(a1.Entries.drop (Int.toNat v2)).length) 32) then
    some (worker.mk (Node.mk a0.Node.Id a0.Node.Term a0.Node.Vote (a0.Node.Log.take ((Int.toNat (w64 ((w64 ((w64 (a1.Index+v2))+(1:Int))) - (1:Int)))) - 0)++(a1.Entries.drop (Int.toNat v2))) a0.Node.Start a0.Node.Role a0.Node.Votes a0.Node.Next a0.Node.Match a0.Node.Commit a0.Node.Elapsed a0.Node.Wait a0.Node.Up) a0.sent)
    else none
    else none
    else none
    else none
    else none
   else
   ob (impl_Node_termAt.m N (Node.mk a0.Node.Id a0.Node.Term a0.Node.Vote a0.Node.Log a0.Node.Start a0.Node.Role a0.Node.Votes a0.Node.Next a0.Node.Match a0.Node.Commit a0.Node.Elapsed a0.Node.Wait a0.Node.Up) (w64 ((w64 (a1.Index+v2))+(1:Int)))) fun y1=>
   bif (bif false then true else (y1 != (a1.Entries.getD (Int.toNat v2) Entry.dz).Term)) then
    bif (decide (0≤(w64 ((w64 ((w64 (a1.Index+v2))+(1:Int))) - (1:Int))))) then
    bif (decide ((w64 ((w64 ((w64 (a1.Index+v2))+(1:Int))) - (1:Int)))≤((a0.Node.Log.length:Nat):Int))) then
    bif (decide (0≤v2)) then
    bif (decide (v2≤((a1.Entries.length:Nat):Int))) then
    bif (room (((Int.toNat (w64 ((w64 ((w64 (a1.Index+v2))+(1:Int))) - (1:Int)))) - 0)+(a1.Entries.drop (Int.toNat v2)).length) 32) then
    some (worker.mk (Node.mk a0.Node.Id a0.Node.Term a0.Node.Vote (a0.Node.Log.take ((Int.toNat (w64 ((w64 ((w64 (a1.Index+v2))+(1:Int))) - (1:Int)))) - 0)++(a1.Entries.drop (Int.toNat v2))) a0.Node.Start a0.Node.Role a0.Node.Votes a0.Node.Next a0.Node.Match a0.Node.Commit a0.Node.Elapsed a0.Node.Wait a0.Node.Up) a0.sent)
    else none
    else none
    else none
    else none
    else none
   else
   rec (v1,(w64 (v2+(1:Int))))
   else none
   else none
  else
  some (worker.mk (Node.mk a0.Node.Id a0.Node.Term a0.Node.Vote a0.Node.Log a0.Node.Start a0.Node.Role a0.Node.Votes a0.Node.Next a0.Node.Match a0.Node.Commit a0.Node.Elapsed a0.Node.Wait a0.Node.Up) a0.sent)
noncomputable def lp2 (N:Nat) (a0:worker) (a1:Message):(Int×Int)→Option R:=
 miter (fun rec=>step2 N a0 a1 rec) N
noncomputable def m0 (N:Nat) (a0:worker) (a1:Message) (lp2:Int×Int→Option R):Option R:=
 lp2 ((a1.Entries.length:Int),(0:Int))
@[reducible] noncomputable def m (N:Nat) (a0:worker) (a1:Message):Option R:=m0 N a0 a1 (lp2 N a0 a1)
@[reducible] noncomputable def sp (N:Nat):Spec E:=⟨[.box false 119 119,.val (.st 74)],[],true,false,R,fun x=>m N x.1 x.2.1,fun r=>(),fun r=>(r,(),()),fun a b=>b.1,fun _ _=>rfl,fun _ _=>rfl⟩
end impl_worker_store
namespace impl_worker_takeAppend
abbrev R:=worker
noncomputable def m (N:Nat) (a0:worker) (a1:Message):Option R:=
 (let w1:Int:=(if (0:Int)<(if (w64 (a1.Index - (1:Int)))<(a0.Node.Log.length:Int) then (w64 (a1.Index - (1:Int))) else (a0.Node.Log.length:Int)) then (if (w64 (a1.Index - (1:Int)))<(a0.Node.Log.length:Int) then (w64 (a1.Index - (1:Int))) else (a0.Node.Log.length:Int)) else (0:Int))
 bif (decide (a1.Term<a0.Node.Term)) then
  ob (impl_worker_send.m N (worker.mk (Node.mk a0.Node.Id a0.Node.Term a0.Node.Vote a0.Node.Log a0.Node.Start a0.Node.Role a0.Node.Votes a0.Node.Next a0.Node.Match a0.Node.Commit a0.Node.Elapsed a0.Node.Wait a0.Node.Up) a0.sent) (Message.mk (4:Int) (0:Int) a1.From (0:Int) w1 (0:Int) (0:Int) ([]:List Entry) false)) fun y2=>
  some (worker.mk (Node.mk y2.Node.Id y2.Node.Term y2.Node.Vote y2.Node.Log y2.Node.Start y2.Node.Role y2.Node.Votes y2.Node.Next y2.Node.Match y2.Node.Commit y2.Node.Elapsed y2.Node.Wait y2.Node.Up) y2.sent)
 else
 ob (impl_Node_follow_.m N (worker.mk (Node.mk a0.Node.Id a0.Node.Term a0.Node.Vote a0.Node.Log a0.Node.Start a0.Node.Role a0.Node.Votes a0.Node.Next a0.Node.Match a0.Node.Commit a0.Node.Elapsed a0.Node.Wait a0.Node.Up) a0.sent)) fun y3=>
 bif (decide ((y3.Node.Log.length:Int)<a1.Index)) then
  ob (impl_worker_send.m N (worker.mk (Node.mk y3.Node.Id y3.Node.Term y3.Node.Vote y3.Node.Log y3.Node.Start y3.Node.Role y3.Node.Votes y3.Node.Next y3.Node.Match y3.Node.Commit (0:Int) y3.Node.Wait y3.Node.Up) y3.sent) (Message.mk (4:Int) (0:Int) a1.From (0:Int) w1 (0:Int) (0:Int) ([]:List Entry) false)) fun y4=>
  some (worker.mk (Node.mk y4.Node.Id y4.Node.Term y4.Node.Vote y4.Node.Log y4.Node.Start y4.Node.Role y4.Node.Votes y4.Node.Next y4.Node.Match y4.Node.Commit y4.Node.Elapsed y4.Node.Wait y4.Node.Up) y4.sent)
 else
 ob (impl_Node_termAt.m N (Node.mk y3.Node.Id y3.Node.Term y3.Node.Vote y3.Node.Log y3.Node.Start y3.Node.Role y3.Node.Votes y3.Node.Next y3.Node.Match y3.Node.Commit (0:Int) y3.Node.Wait y3.Node.Up) a1.Index) fun y5=>
 bif (bif false then true else (y5 != a1.LogTerm)) then
  ob (impl_worker_send.m N (worker.mk (Node.mk y3.Node.Id y3.Node.Term y3.Node.Vote y3.Node.Log y3.Node.Start y3.Node.Role y3.Node.Votes y3.Node.Next y3.Node.Match y3.Node.Commit (0:Int) y3.Node.Wait y3.Node.Up) y3.sent) (Message.mk (4:Int) (0:Int) a1.From (0:Int) w1 (0:Int) (0:Int) ([]:List Entry) false)) fun y6=>
  some (worker.mk (Node.mk y6.Node.Id y6.Node.Term y6.Node.Vote y6.Node.Log y6.Node.Start y6.Node.Role y6.Node.Votes y6.Node.Next y6.Node.Match y6.Node.Commit y6.Node.Elapsed y6.Node.Wait y6.Node.Up) y6.sent)
 else
 ob (impl_worker_store.m N (worker.mk (Node.mk y3.Node.Id y3.Node.Term y3.Node.Vote y3.Node.Log y3.Node.Start y3.Node.Role y3.Node.Votes y3.Node.Next y3.Node.Match y3.Node.Commit (0:Int) y3.Node.Wait y3.Node.Up) y3.sent) a1) fun y7=>
 (let w8:Int:=(if y7.Node.Commit<(if (w64 (a1.Index+(a1.Entries.length:Int)))<a1.Commit then (w64 (a1.Index+(a1.Entries.length:Int))) else a1.Commit) then (if (w64 (a1.Index+(a1.Entries.length:Int)))<a1.Commit then (w64 (a1.Index+(a1.Entries.length:Int))) else a1.Commit) else y7.Node.Commit)
 ob (impl_worker_send.m N (worker.mk (Node.mk y7.Node.Id y7.Node.Term y7.Node.Vote y7.Node.Log y7.Node.Start y7.Node.Role y7.Node.Votes y7.Node.Next y7.Node.Match w8 y7.Node.Elapsed y7.Node.Wait y7.Node.Up) y7.sent) (Message.mk (4:Int) (0:Int) a1.From (0:Int) (w64 (a1.Index+(a1.Entries.length:Int))) (0:Int) (0:Int) ([]:List Entry) true)) fun y9=>
 some (worker.mk (Node.mk y9.Node.Id y9.Node.Term y9.Node.Vote y9.Node.Log y9.Node.Start y9.Node.Role y9.Node.Votes y9.Node.Next y9.Node.Match y9.Node.Commit y9.Node.Elapsed y9.Node.Wait y9.Node.Up) y9.sent)))
@[reducible] noncomputable def sp (N:Nat):Spec E:=⟨[.box false 119 119,.val (.st 74)],[],true,false,R,fun x=>m N x.1 x.2.1,fun r=>(),fun r=>(r,(),()),fun a b=>b.1,fun _ _=>rfl,fun _ _=>rfl⟩
end impl_worker_takeAppend
namespace impl_worker_appended
abbrev R:=worker
noncomputable def m (N:Nat) (a0:worker) (a1:Message):Option R:=
 bif (a0.Node.Role != (2:Int)) then
  some (worker.mk (Node.mk a0.Node.Id a0.Node.Term a0.Node.Vote a0.Node.Log a0.Node.Start a0.Node.Role a0.Node.Votes a0.Node.Next a0.Node.Match a0.Node.Commit a0.Node.Elapsed a0.Node.Wait a0.Node.Up) a0.sent)
 else
 bif (bif false then true else (a1.Term != a0.Node.Term)) then
  some (worker.mk (Node.mk a0.Node.Id a0.Node.Term a0.Node.Vote a0.Node.Log a0.Node.Start a0.Node.Role a0.Node.Votes a0.Node.Next a0.Node.Match a0.Node.Commit a0.Node.Elapsed a0.Node.Wait a0.Node.Up) a0.sent)
 else
 bif (decide (0≤a1.From)) then
 bif (decide (a1.From<(a0.Node.Next.length:Int))) then
 bif (decide (0≤a1.From)) then
 bif (decide (a1.From<(a0.Node.Match.length:Int))) then
 bif a1.Ok then
  (let w1:Int:=(if (a0.Node.Match.getD (Int.toNat a1.From) (0:Int))<(if (a0.Node.Log.length:Int)<a1.Index then (a0.Node.Log.length:Int) else a1.Index) then (if (a0.Node.Log.length:Int)<a1.Index then (a0.Node.Log.length:Int) else a1.Index) else (a0.Node.Match.getD (Int.toNat a1.From) (0:Int)))
  (let w2:Int:=(if (a0.Node.Next.getD (Int.toNat a1.From) (0:Int))<(w64 (((a0.Node.Match.set (Int.toNat a1.From) w1).getD (Int.toNat a1.From) (0:Int))+(1:Int))) then (w64 (((a0.Node.Match.set (Int.toNat a1.From) w1).getD (Int.toNat a1.From) (0:Int))+(1:Int))) else (a0.Node.Next.getD (Int.toNat a1.From) (0:Int)))
  ob (impl_worker_commit.m N (worker.mk (Node.mk a0.Node.Id a0.Node.Term a0.Node.Vote a0.Node.Log a0.Node.Start a0.Node.Role a0.Node.Votes (a0.Node.Next.set (Int.toNat a1.From) w2) (a0.Node.Match.set (Int.toNat a1.From) w1) a0.Node.Commit a0.Node.Elapsed a0.Node.Wait a0.Node.Up) a0.sent)) fun y3=>
  some (worker.mk (Node.mk y3.Node.Id y3.Node.Term y3.Node.Vote y3.Node.Log y3.Node.Start y3.Node.Role y3.Node.Votes y3.Node.Next y3.Node.Match y3.Node.Commit y3.Node.Elapsed y3.Node.Wait y3.Node.Up) y3.sent)))
 else
 (let w4:Int:=(if (w64 (a1.Index+(1:Int)))<(w64 ((a0.Node.Next.getD (Int.toNat a1.From) (0:Int)) - (1:Int))) then (w64 (a1.Index+(1:Int))) else (w64 ((a0.Node.Next.getD (Int.toNat a1.From) (0:Int)) - (1:Int))))
 (let w5:Int:=(if (w64 ((a0.Node.Match.getD (Int.toNat a1.From) (0:Int))+(1:Int)))<w4 then w4 else (w64 ((a0.Node.Match.getD (Int.toNat a1.From) (0:Int))+(1:Int))))
 ob (impl_worker_tell_.m N (worker.mk (Node.mk a0.Node.Id a0.Node.Term a0.Node.Vote a0.Node.Log a0.Node.Start a0.Node.Role a0.Node.Votes (a0.Node.Next.set (Int.toNat a1.From) w5) a0.Node.Match a0.Node.Commit a0.Node.Elapsed a0.Node.Wait a0.Node.Up) a0.sent) a1.From a0.Node.Commit) fun y6=>
 some (worker.mk (Node.mk y6.Node.Id y6.Node.Term y6.Node.Vote y6.Node.Log y6.Node.Start y6.Node.Role y6.Node.Votes y6.Node.Next y6.Node.Match y6.Node.Commit y6.Node.Elapsed y6.Node.Wait y6.Node.Up) y6.sent)))
 else none
 else none
 else none
 else none
@[reducible] noncomputable def sp (N:Nat):Spec E:=⟨[.box false 119 119,.val (.st 74)],[],true,false,R,fun x=>m N x.1 x.2.1,fun r=>(),fun r=>(r,(),()),fun a b=>b.1,fun _ _=>rfl,fun _ _=>rfl⟩
end impl_worker_appended
namespace impl_worker_take
abbrev R:=worker
noncomputable def m (N:Nat) (a0:worker) (a1:Message):Option R:=
 bif (decide (a1.Term > a0.Node.Term)) then
  ob (impl_Node_follow_.m N (worker.mk (Node.mk a0.Node.Id a1.Term (-1:Int) a0.Node.Log a0.Node.Start a0.Node.Role a0.Node.Votes a0.Node.Next a0.Node.Match a0.Node.Commit a0.Node.Elapsed a0.Node.Wait a0.Node.Up) a0.sent)) fun y1=>
  bif (a1.Kind==(1:Int)) then
   ob (impl_worker_vote.m N (worker.mk (Node.mk y1.Node.Id y1.Node.Term y1.Node.Vote y1.Node.Log y1.Node.Start y1.Node.Role y1.Node.Votes y1.Node.Next y1.Node.Match y1.Node.Commit y1.Node.Elapsed y1.Node.Wait y1.Node.Up) y1.sent) a1) fun y2=>
   some (worker.mk (Node.mk y2.Node.Id y2.Node.Term y2.Node.Vote y2.Node.Log y2.Node.Start y2.Node.Role y2.Node.Votes y2.Node.Next y2.Node.Match y2.Node.Commit y2.Node.Elapsed y2.Node.Wait y2.Node.Up) y2.sent)
  else
  bif (a1.Kind==(2:Int)) then
   ob (impl_worker_voted.m N (worker.mk (Node.mk y1.Node.Id y1.Node.Term y1.Node.Vote y1.Node.Log y1.Node.Start y1.Node.Role y1.Node.Votes y1.Node.Next y1.Node.Match y1.Node.Commit y1.Node.Elapsed y1.Node.Wait y1.Node.Up) y1.sent) a1) fun y3=>
   some (worker.mk (Node.mk y3.Node.Id y3.Node.Term y3.Node.Vote y3.Node.Log y3.Node.Start y3.Node.Role y3.Node.Votes y3.Node.Next y3.Node.Match y3.Node.Commit y3.Node.Elapsed y3.Node.Wait y3.Node.Up) y3.sent)
  else
  bif (a1.Kind==(3:Int)) then
   ob (impl_worker_takeAppend.m N (worker.mk (Node.mk y1.Node.Id y1.Node.Term y1.Node.Vote y1.Node.Log y1.Node.Start y1.Node.Role y1.Node.Votes y1.Node.Next y1.Node.Match y1.Node.Commit y1.Node.Elapsed y1.Node.Wait y1.Node.Up) y1.sent) a1) fun y4=>
   some (worker.mk (Node.mk y4.Node.Id y4.Node.Term y4.Node.Vote y4.Node.Log y4.Node.Start y4.Node.Role y4.Node.Votes y4.Node.Next y4.Node.Match y4.Node.Commit y4.Node.Elapsed y4.Node.Wait y4.Node.Up) y4.sent)
  else
  bif (a1.Kind==(4:Int)) then
   ob (impl_worker_appended.m N (worker.mk (Node.mk y1.Node.Id y1.Node.Term y1.Node.Vote y1.Node.Log y1.Node.Start y1.Node.Role y1.Node.Votes y1.Node.Next y1.Node.Match y1.Node.Commit y1.Node.Elapsed y1.Node.Wait y1.Node.Up) y1.sent) a1) fun y5=>
   some (worker.mk (Node.mk y5.Node.Id y5.Node.Term y5.Node.Vote y5.Node.Log y5.Node.Start y5.Node.Role y5.Node.Votes y5.Node.Next y5.Node.Match y5.Node.Commit y5.Node.Elapsed y5.Node.Wait y5.Node.Up) y5.sent)
  else
  some (worker.mk (Node.mk y1.Node.Id y1.Node.Term y1.Node.Vote y1.Node.Log y1.Node.Start y1.Node.Role y1.Node.Votes y1.Node.Next y1.Node.Match y1.Node.Commit y1.Node.Elapsed y1.Node.Wait y1.Node.Up) y1.sent)
 else
 bif (a1.Kind==(1:Int)) then
  ob (impl_worker_vote.m N (worker.mk (Node.mk a0.Node.Id a0.Node.Term a0.Node.Vote a0.Node.Log a0.Node.Start a0.Node.Role a0.Node.Votes a0.Node.Next a0.Node.Match a0.Node.Commit a0.Node.Elapsed a0.Node.Wait a0.Node.Up) a0.sent) a1) fun y6=>
  some (worker.mk (Node.mk y6.Node.Id y6.Node.Term y6.Node.Vote y6.Node.Log y6.Node.Start y6.Node.Role y6.Node.Votes y6.Node.Next y6.Node.Match y6.Node.Commit y6.Node.Elapsed y6.Node.Wait y6.Node.Up) y6.sent)
 else
 bif (a1.Kind==(2:Int)) then
  ob (impl_worker_voted.m N (worker.mk (Node.mk a0.Node.Id a0.Node.Term a0.Node.Vote a0.Node.Log a0.Node.Start a0.Node.Role a0.Node.Votes a0.Node.Next a0.Node.Match a0.Node.Commit a0.Node.Elapsed a0.Node.Wait a0.Node.Up) a0.sent) a1) fun y7=>
  some (worker.mk (Node.mk y7.Node.Id y7.Node.Term y7.Node.Vote y7.Node.Log y7.Node.Start y7.Node.Role y7.Node.Votes y7.Node.Next y7.Node.Match y7.Node.Commit y7.Node.Elapsed y7.Node.Wait y7.Node.Up) y7.sent)
 else
 bif (a1.Kind==(3:Int)) then
  ob (impl_worker_takeAppend.m N (worker.mk (Node.mk a0.Node.Id a0.Node.Term a0.Node.Vote a0.Node.Log a0.Node.Start a0.Node.Role a0.Node.Votes a0.Node.Next a0.Node.Match a0.Node.Commit a0.Node.Elapsed a0.Node.Wait a0.Node.Up) a0.sent) a1) fun y8=>
  some (worker.mk (Node.mk y8.Node.Id y8.Node.Term y8.Node.Vote y8.Node.Log y8.Node.Start y8.Node.Role y8.Node.Votes y8.Node.Next y8.Node.Match y8.Node.Commit y8.Node.Elapsed y8.Node.Wait y8.Node.Up) y8.sent)
 else
 bif (a1.Kind==(4:Int)) then
  ob (impl_worker_appended.m N (worker.mk (Node.mk a0.Node.Id a0.Node.Term a0.Node.Vote a0.Node.Log a0.Node.Start a0.Node.Role a0.Node.Votes a0.Node.Next a0.Node.Match a0.Node.Commit a0.Node.Elapsed a0.Node.Wait a0.Node.Up) a0.sent) a1) fun y9=>
  some (worker.mk (Node.mk y9.Node.Id y9.Node.Term y9.Node.Vote y9.Node.Log y9.Node.Start y9.Node.Role y9.Node.Votes y9.Node.Next y9.Node.Match y9.Node.Commit y9.Node.Elapsed y9.Node.Wait y9.Node.Up) y9.sent)
 else
 some (worker.mk (Node.mk a0.Node.Id a0.Node.Term a0.Node.Vote a0.Node.Log a0.Node.Start a0.Node.Role a0.Node.Votes a0.Node.Next a0.Node.Match a0.Node.Commit a0.Node.Elapsed a0.Node.Wait a0.Node.Up) a0.sent)
@[reducible] noncomputable def sp (N:Nat):Spec E:=⟨[.box false 119 119,.val (.st 74)],[],true,false,R,fun x=>m N x.1 x.2.1,fun r=>(),fun r=>(r,(),()),fun a b=>b.1,fun _ _=>rfl,fun _ _=>rfl⟩
end impl_worker_take
namespace impl_worker_asNode
abbrev R:=Node×(List Message)
noncomputable def m (N:Nat) (a0:worker):Option R:=
 ob (impl_copyNode.m N (Node.mk a0.Node.Id a0.Node.Term a0.Node.Vote a0.Node.Log a0.Node.Start a0.Node.Role a0.Node.Votes a0.Node.Next a0.Node.Match a0.Node.Commit a0.Node.Elapsed a0.Node.Wait a0.Node.Up)) fun y1=>
 some (y1,a0.sent)
@[reducible] noncomputable def sp (N:Nat):Spec E:=⟨[.movb false 119 119],[(.st 39),(.slice 74 (.st 74))],true,false,R,fun x=>m N x.1,fun r=>(r.1,r.2,()),fun r=>((),()),fun a b=>(a.1,a.2.1),fun _ _=>rfl,fun _ _=>rfl⟩
end impl_worker_asNode
namespace impl_NodeTake
abbrev R:=Node×(List Message)×Int
noncomputable def m (N:Nat) (a0:Node) (a1:Message):Option R:=
 ob (impl_NodeOK.m N (Node.mk a0.Id a0.Term a0.Vote a0.Log a0.Start a0.Role a0.Votes a0.Next a0.Match a0.Commit a0.Elapsed a0.Wait a0.Up)) fun y1=>
 bif (!y1) then
  some ((Node.mk (0:Int) (0:Int) (0:Int) ([]:List Entry) ([]:List Int) (0:Int) ([]:List Int) ([]:List Int) ([]:List Int) (0:Int) (0:Int) (0:Int) false),([]:List Message),(1:Int))
 else
 ob (impl_messageOK.m N a1) fun y2=>
 bif (bif false then true else (!y2)) then
  some ((Node.mk (0:Int) (0:Int) (0:Int) ([]:List Entry) ([]:List Int) (0:Int) ([]:List Int) ([]:List Int) ([]:List Int) (0:Int) (0:Int) (0:Int) false),([]:List Message),(1:Int))
 else
 bif (a1.To != a0.Id) then
  some ((Node.mk (0:Int) (0:Int) (0:Int) ([]:List Entry) ([]:List Int) (0:Int) ([]:List Int) ([]:List Int) ([]:List Int) (0:Int) (0:Int) (0:Int) false),([]:List Message),(4:Int))
 else
 bif (!a0.Up) then
  ob (impl_copyNode.m N (Node.mk a0.Id a0.Term a0.Vote a0.Log a0.Start a0.Role a0.Votes a0.Next a0.Match a0.Commit a0.Elapsed a0.Wait a0.Up)) fun y3=>
  some (y3,([]:List Message),(5:Int))
 else
 ob (impl_copyNode.m N (Node.mk a0.Id a0.Term a0.Vote a0.Log a0.Start a0.Role a0.Votes a0.Next a0.Match a0.Commit a0.Elapsed a0.Wait a0.Up)) fun y4=>
 ob (impl_worker_take.m N (worker.mk (Node.mk y4.Id y4.Term y4.Vote y4.Log y4.Start y4.Role y4.Votes y4.Next y4.Match y4.Commit y4.Elapsed y4.Wait y4.Up) ([]:List Message)) a1) fun y5=>
 ob (impl_NodeOK.m N (Node.mk y5.Node.Id y5.Node.Term y5.Node.Vote y5.Node.Log y5.Node.Start y5.Node.Role y5.Node.Votes y5.Node.Next y5.Node.Match y5.Node.Commit y5.Node.Elapsed y5.Node.Wait y5.Node.Up)) fun y6=>
 bif (!y6) then
  ob (impl_copyNode.m N (Node.mk a0.Id a0.Term a0.Vote a0.Log a0.Start a0.Role a0.Votes a0.Next a0.Match a0.Commit a0.Elapsed a0.Wait a0.Up)) fun y7=>
  some (y7,([]:List Message),(3:Int))
 else
 ob (impl_worker_asNode.m N (worker.mk (Node.mk y5.Node.Id y5.Node.Term y5.Node.Vote y5.Node.Log y5.Node.Start y5.Node.Role y5.Node.Votes y5.Node.Next y5.Node.Match y5.Node.Commit y5.Node.Elapsed y5.Node.Wait y5.Node.Up) y5.sent)) fun y8=>
 some (y8.1,y8.2,(0:Int))
@[reducible] noncomputable def sp (N:Nat):Spec E:=⟨[.val (.st 39),.val (.st 74)],[(.st 39),(.slice 74 (.st 74)),(.int .i64)],true,false,R,fun x=>m N x.1 x.2.1,fun r=>(r.1,r.2.1,r.2.2,()),fun r=>((),(),()),fun a b=>(a.1,a.2.1,a.2.2.1),fun _ _=>rfl,fun _ _=>rfl⟩
end impl_NodeTake
namespace impl_Group_put_
abbrev R:=Group
noncomputable def step6 (N:Nat) (a0:Group) (a1:Node) (a2:List Message) (rec:(Int×(List Node)×(List Lead)×(List Done))→Option R):(Int×(List Node)×(List Lead)×(List Done))→Option R
 | (v1,v2,v4,v5)=>
  bif (decide (v1≤a1.Commit)) then
   bif (decide (0≤(w64 (v1 - (1:Int))))) then
   bif (decide ((w64 (v1 - (1:Int)))<(a1.Log.length:Int))) then
   bif (room (v5.length+([(Done.mk a1.Id a1.Term v1 (a1.Log.getD (Int.toNat (w64 (v1 - (1:Int)))) Entry.dz))]).length) 56) then
   rec ((w64 (v1+(1:Int))),v2,v4,(v5++[(Done.mk a1.Id a1.Term v1 (a1.Log.getD (Int.toNat (w64 (v1 - (1:Int)))) Entry.dz))]))
   else none
   else none
   else none
  else
  bif (decide (0≤(if (a2.length:Int)<(w64 ((60:Int) - (a0.Wire.length:Int))) then (a2.length:Int) else (w64 ((60:Int) - (a0.Wire.length:Int)))))) then
  bif (decide ((if (a2.length:Int)<(w64 ((60:Int) - (a0.Wire.length:Int))) then (a2.length:Int) else (w64 ((60:Int) - (a0.Wire.length:Int))))≤((a2.length:Nat):Int))) then
  (let w3:List Message:=(a2.take (Int.toNat (if (a2.length:Int)<(w64 ((60:Int) - (a0.Wire.length:Int))) then (a2.length:Int) else (w64 ((60:Int) - (a0.Wire.length:Int))))))
  bif (room (a0.Wire.length+w3.length) 88) then
  some (Group.mk v2 (a0.Wire++w3) v4 v5)
  else none)
  else none
  else none
noncomputable def lp6 (N:Nat) (a0:Group) (a1:Node) (a2:List Message):(Int×(List Node)×(List Lead)×(List Done))→Option R:=
 miter (fun rec=>step6 N a0 a1 a2 rec) N
noncomputable def m0 (N:Nat) (a0:Group) (a1:Node) (a2:List Message) (lp6:Int×(List Node)×(List Lead)×(List Done)→Option R):Option R:=
 bif (decide (0≤a1.Id)) then
 bif (decide (a1.Id<(a0.Nodes.length:Int))) then
 bif (decide (0≤a1.Id)) then
 bif (decide (a1.Id<(a0.Nodes.length:Int))) then
 bif (a1.Role==(2:Int)) then
  bif ((a0.Nodes.getD (Int.toNat a1.Id) Node.dz).Role != (2:Int)) then
   bif (bif true then true else false) then
    ob (slices_Clone_impl_Entry_impl_Entry.m N a1.Log) fun y1=>
    bif (room (a0.Leads.length+([(Lead.mk a1.Term a1.Id y1)]).length) 40) then
    lp6 ((w64 ((a0.Nodes.getD (Int.toNat a1.Id) Node.dz).Commit+(1:Int))),(a0.Nodes.set (Int.toNat a1.Id) a1),(a0.Leads++[(Lead.mk a1.Term a1.Id y1)]),a0.Dones)
    else none
   else
   lp6 ((w64 ((a0.Nodes.getD (Int.toNat a1.Id) Node.dz).Commit+(1:Int))),(a0.Nodes.set (Int.toNat a1.Id) a1),a0.Leads,a0.Dones)
  else
  bif (bif true then (bif false then true else ((a0.Nodes.getD (Int.toNat a1.Id) Node.dz).Term != a1.Term)) else false) then
   ob (slices_Clone_impl_Entry_impl_Entry.m N a1.Log) fun y2=>
   bif (room (a0.Leads.length+([(Lead.mk a1.Term a1.Id y2)]).length) 40) then
   lp6 ((w64 ((a0.Nodes.getD (Int.toNat a1.Id) Node.dz).Commit+(1:Int))),(a0.Nodes.set (Int.toNat a1.Id) a1),(a0.Leads++[(Lead.mk a1.Term a1.Id y2)]),a0.Dones)
   else none
  else
  lp6 ((w64 ((a0.Nodes.getD (Int.toNat a1.Id) Node.dz).Commit+(1:Int))),(a0.Nodes.set (Int.toNat a1.Id) a1),a0.Leads,a0.Dones)
 else
 lp6 ((w64 ((a0.Nodes.getD (Int.toNat a1.Id) Node.dz).Commit+(1:Int))),(a0.Nodes.set (Int.toNat a1.Id) a1),a0.Leads,a0.Dones)
 else none
 else none
 else none
 else none
@[reducible] noncomputable def m (N:Nat) (a0:Group) (a1:Node) (a2:List Message):Option R:=m0 N a0 a1 a2 (lp6 N a0 a1 a2)
@[reducible] noncomputable def sp (N:Nat):Spec E:=⟨[.box false 29 29,.val (.st 39),.val (.slice 74 (.st 74))],[],true,false,R,fun x=>m N x.1 x.2.1 x.2.2.1,fun r=>(),fun r=>(r,(),(),()),fun a b=>b.1,fun _ _=>rfl,fun _ _=>rfl⟩
end impl_Group_put_
end Mir.Y
