/- Models of functions. -/
import Derived.Test.YtbbkpgpfppnakaaJM1
namespace Mir.Y
set_option linter.unusedVariables false
set_option maxRecDepth 10000
open Go Go.Proofs Mir
namespace slices_DeleteFunc_int_int__impl_worker_others_1
abbrev R:=(List Int)
noncomputable def step5 (N:Nat) (a0:List Int) (a1_0:worker) (rec:(Int×Int×(List Int))→Option R):(Int×Int×(List Int))→Option R
 | (v0,v1,v2)=>
  bif (decide (v1<(v2.length:Int))) then
   bif (decide (0≤v1)) then
   bif (decide (v1<(v2.length:Int))) then
   ob (impl_worker_others_1.m N (v2.getD (Int.toNat v1) (0:Int)) (worker.mk (Node.mk a1_0.Node.Id a1_0.Node.Term a1_0.Node.Vote a1_0.Node.Log a1_0.Node.Start a1_0.Node.Role a1_0.Node.Votes a1_0.Node.Next a1_0.Node.Match a1_0.Node.Commit a1_0.Node.Elapsed a1_0.Node.Wait a1_0.Node.Up) a1_0.sent)) fun y2=>
   bif (!y2) then
    bif (decide (0≤v0)) then
    bif (decide (v0<(v2.length:Int))) then
    rec ((w64 (v0+(1:Int))),(w64 (v1+(1:Int))),(v2.set (Int.toNat v0) (v2.getD (Int.toNat v1) (0:Int))))
    else none
    else none
   else
   rec (v0,(w64 (v1+(1:Int))),v2)
   else none
   else none
  else
  bif (decide (0≤v0)) then
  bif (decide (v0≤(((v2.length):Nat):Int))) then
  bif (decide ((Int.toNat v0)+((v2.length) - (Int.toNat v0))≤v2.length)) then
  (let w3:List Int:=(v2.take (Int.toNat v0)++(List.replicate ((v2.length) - (Int.toNat v0)) (0:Int)++v2.drop ((Int.toNat v0)+((v2.length) - (Int.toNat v0)))))
  bif (decide (0≤v0)) then
  bif (decide (v0≤((w3.length:Nat):Int))) then
  bif (decide (0+((Int.toNat v0) - 0)≤w3.length)) then
  some ((w3.drop 0).take ((Int.toNat v0) - 0))
  else none
  else none
  else none)
  else none
  else none
  else none
noncomputable def lp5 (N:Nat) (a0:List Int) (a1_0:worker):(Int×Int×(List Int))→Option R:=
 miter (fun rec=>step5 N a0 a1_0 rec) N
noncomputable def m0 (N:Nat) (a0:List Int) (a1_0:worker) (lp5:Int×Int×(List Int)→Option R):Option R:=
 ob (slices_IndexFunc_int_int__impl_worker_others_1.m N a0 (worker.mk (Node.mk a1_0.Node.Id a1_0.Node.Term a1_0.Node.Vote a1_0.Node.Log a1_0.Node.Start a1_0.Node.Role a1_0.Node.Votes a1_0.Node.Next a1_0.Node.Match a1_0.Node.Commit a1_0.Node.Elapsed a1_0.Node.Wait a1_0.Node.Up) a1_0.sent)) fun y1=>
 bif (y1==(-1:Int)) then
  some a0
 else
 lp5 (y1,(w64 (y1+(1:Int))),a0)
@[reducible] noncomputable def m (N:Nat) (a0:List Int) (a1_0:worker):Option R:=m0 N a0 a1_0 (lp5 N a0 a1_0)
@[reducible] noncomputable def sp (N:Nat):Spec E:=⟨[.mov false (.slice 3 (.int .i64)),.clo 78 [.rpp (.st 50)]],[(.slice 3 (.int .i64))],true,false,R,fun x=>m N x.1 x.2.1.1,fun r=>(r,()),fun r=>((),(),()),fun a b=>a.1,fun _ _=>rfl,fun _ _=>rfl⟩
end slices_DeleteFunc_int_int__impl_worker_others_1
namespace impl_worker_others_
abbrev R:=(List Int)
noncomputable def m (N:Nat) (a0:worker):Option R:=
 ob (impl_Node_members.m N (Node.mk a0.Node.Id a0.Node.Term a0.Node.Vote a0.Node.Log a0.Node.Start a0.Node.Role a0.Node.Votes a0.Node.Next a0.Node.Match a0.Node.Commit a0.Node.Elapsed a0.Node.Wait a0.Node.Up)) fun y1=>
 ob (slices_DeleteFunc_int_int__impl_worker_others_1.m N y1 (worker.mk (Node.mk a0.Node.Id a0.Node.Term a0.Node.Vote a0.Node.Log a0.Node.Start a0.Node.Role a0.Node.Votes a0.Node.Next a0.Node.Match a0.Node.Commit a0.Node.Elapsed a0.Node.Wait a0.Node.Up) a0.sent)) fun y2=>
 some y2
@[reducible] noncomputable def sp (N:Nat):Spec E:=⟨[.cap (.rb (.st 50))],[(.slice 3 (.int .i64))],true,false,R,fun x=>m N x.1,fun r=>(r,()),fun r=>((),()),fun a b=>a.1,fun _ _=>rfl,fun _ _=>rfl⟩
end impl_worker_others_
namespace impl_Node_termAt
abbrev R:=Int
noncomputable def m (N:Nat) (a0:Node) (a1:Int):Option R:=
 bif (a1==(0:Int)) then
  some (0:Int)
 else
 bif (decide (0≤(w64 (a1 - (1:Int))))) then
 bif (decide ((w64 (a1 - (1:Int)))<(a0.Log.length:Int))) then
 some ((a0.Log.getD (Int.toNat (w64 (a1 - (1:Int)))) Entry.dz).Term)
 else none
 else none
@[reducible] noncomputable def sp (N:Nat):Spec E:=⟨[.val (.st 29),.val (.int .i64)],[(.int .i64)],true,false,R,fun x=>m N x.1 x.2.1,fun r=>(r,()),fun r=>((),(),()),fun a b=>a.1,fun _ _=>rfl,fun _ _=>rfl⟩
end impl_Node_termAt
namespace impl_worker_send_
abbrev R:=worker
noncomputable def m (N:Nat) (a0:worker) (a1:Message):Option R:=
 bif (room (a0.sent.length+([(Message.mk a1.Kind a0.Node.Id a1.To a0.Node.Term a1.Index a1.LogTerm a1.Commit a1.Entries a1.Ok)]).length) 88) then
 some (worker.mk (Node.mk a0.Node.Id a0.Node.Term a0.Node.Vote a0.Node.Log a0.Node.Start a0.Node.Role a0.Node.Votes a0.Node.Next a0.Node.Match a0.Node.Commit a0.Node.Elapsed a0.Node.Wait a0.Node.Up) (a0.sent++[(Message.mk a1.Kind a0.Node.Id a1.To a0.Node.Term a1.Index a1.LogTerm a1.Commit a1.Entries a1.Ok)]))
 else none
@[reducible] noncomputable def sp (N:Nat):Spec E:=⟨[.box true 50 50,.mov true (.st 57)],[],true,true,R,fun x=>m N x.1 x.2.1,fun r=>(),fun r=>(r,(),()),fun a b=>b.1,fun _ _=>rfl,fun _ _=>rfl⟩
end impl_worker_send_
namespace impl_worker_tell_
abbrev R:=worker
noncomputable def m (N:Nat) (a0:worker) (a1:Int) (a2:Int):Option R:=
 bif (decide (0≤a1)) then
 bif (decide (a1<(a0.Node.Next.length:Int))) then
 ob (impl_Node_termAt.m N (Node.mk a0.Node.Id a0.Node.Term a0.Node.Vote a0.Node.Log a0.Node.Start a0.Node.Role a0.Node.Votes a0.Node.Next a0.Node.Match a0.Node.Commit a0.Node.Elapsed a0.Node.Wait a0.Node.Up) (w64 ((a0.Node.Next.getD (Int.toNat a1) (0:Int)) - (1:Int)))) fun y1=>
 bif (decide (0≤(w64 ((a0.Node.Next.getD (Int.toNat a1) (0:Int)) - (1:Int))))) then
 bif (decide ((w64 ((a0.Node.Next.getD (Int.toNat a1) (0:Int)) - (1:Int)))≤(((a0.Node.Log.length):Nat):Int))) then
 bif (decide ((Int.toNat (w64 ((a0.Node.Next.getD (Int.toNat a1) (0:Int)) - (1:Int))))+((a0.Node.Log.length) - (Int.toNat (w64 ((a0.Node.Next.getD (Int.toNat a1) (0:Int)) - (1:Int)))))≤a0.Node.Log.length)) then
 ob (slices_Clone_impl_Entry_impl_Entry.m N ((a0.Node.Log.drop (Int.toNat (w64 ((a0.Node.Next.getD (Int.toNat a1) (0:Int)) - (1:Int))))).take ((a0.Node.Log.length) - (Int.toNat (w64 ((a0.Node.Next.getD (Int.toNat a1) (0:Int)) - (1:Int))))))) fun y2=>
 ob (impl_worker_send_.m N (worker.mk (Node.mk a0.Node.Id a0.Node.Term a0.Node.Vote a0.Node.Log a0.Node.Start a0.Node.Role a0.Node.Votes a0.Node.Next a0.Node.Match a0.Node.Commit a0.Node.Elapsed a0.Node.Wait a0.Node.Up) a0.sent) (Message.mk (3:Int) (0:Int) a1 (0:Int) (w64 ((a0.Node.Next.getD (Int.toNat a1) (0:Int)) - (1:Int))) y1 a2 y2 false)) fun y3=>
 some (worker.mk (Node.mk y3.Node.Id y3.Node.Term y3.Node.Vote y3.Node.Log y3.Node.Start y3.Node.Role y3.Node.Votes y3.Node.Next y3.Node.Match y3.Node.Commit y3.Node.Elapsed y3.Node.Wait y3.Node.Up) y3.sent)
 else none
 else none
 else none
 else none
 else none
@[reducible] noncomputable def sp (N:Nat):Spec E:=⟨[.box true 50 50,.val (.int .i64),.val (.int .i64)],[],true,true,R,fun x=>m N x.1 x.2.1 x.2.2.1,fun r=>(),fun r=>(r,(),(),()),fun a b=>b.1,fun _ _=>rfl,fun _ _=>rfl⟩
end impl_worker_tell_
namespace impl_worker_tellAll
abbrev R:=worker
noncomputable def step1 (N:Nat) (a0:worker) (a1:Int) (rec:(Int×Int×Int×Int×Int×Int×Int×Int×Int×Bool×(List Entry)×(List Int)×(List Int)×(List Int)×(List Int)×(List Message)×(List Int))→Option R):(Int×Int×Int×Int×Int×Int×Int×Int×Int×Bool×(List Entry)×(List Int)×(List Int)×(List Int)×(List Int)×(List Message)×(List Int))→Option R
 | (v1,v2,v3,v4,v5,v6,v7,v8,v9,v10,v11,v12,v13,v14,v15,v16,v17)=>
  bif (decide (v2<v1)) then
   bif (decide (0≤v2)) then
   bif (decide (v2<(v17.length:Int))) then
   ob (impl_worker_tell_.m N (worker.mk (Node.mk v3 v4 v5 v11 v12 v6 v13 v14 v15 v7 v8 v9 v10) v16) (v17.getD (Int.toNat v2) (0:Int)) a1) fun y2=>
   rec (v1,(w64 (v2+(1:Int))),y2.Node.Id,y2.Node.Term,y2.Node.Vote,y2.Node.Role,y2.Node.Commit,y2.Node.Elapsed,y2.Node.Wait,y2.Node.Up,y2.Node.Log,y2.Node.Start,y2.Node.Votes,y2.Node.Next,y2.Node.Match,y2.sent,v17)
   else none
   else none
  else
  some (worker.mk (Node.mk v3 v4 v5 v11 v12 v6 v13 v14 v15 v7 v8 v9 v10) v16)
noncomputable def lp1 (N:Nat) (a0:worker) (a1:Int):(Int×Int×Int×Int×Int×Int×Int×Int×Int×Bool×(List Entry)×(List Int)×(List Int)×(List Int)×(List Int)×(List Message)×(List Int))→Option R:=
 miter (fun rec=>step1 N a0 a1 rec) N
noncomputable def m0 (N:Nat) (a0:worker) (a1:Int) (lp1:Int×Int×Int×Int×Int×Int×Int×Int×Int×Bool×(List Entry)×(List Int)×(List Int)×(List Int)×(List Int)×(List Message)×(List Int)→Option R):Option R:=
 ob (impl_worker_others_.m N (worker.mk (Node.mk a0.Node.Id a0.Node.Term a0.Node.Vote a0.Node.Log a0.Node.Start a0.Node.Role a0.Node.Votes a0.Node.Next a0.Node.Match a0.Node.Commit a0.Node.Elapsed a0.Node.Wait a0.Node.Up) a0.sent)) fun y1=>
 lp1 ((y1.length:Int),(0:Int),a0.Node.Id,a0.Node.Term,a0.Node.Vote,a0.Node.Role,a0.Node.Commit,a0.Node.Elapsed,a0.Node.Wait,a0.Node.Up,a0.Node.Log,a0.Node.Start,a0.Node.Votes,a0.Node.Next,a0.Node.Match,a0.sent,y1)
@[reducible] noncomputable def m (N:Nat) (a0:worker) (a1:Int):Option R:=m0 N a0 a1 (lp1 N a0 a1)
@[reducible] noncomputable def sp (N:Nat):Spec E:=⟨[.box true 50 50,.val (.int .i64)],[],true,true,R,fun x=>m N x.1 x.2.1,fun r=>(),fun r=>(r,(),()),fun a b=>b.1,fun _ _=>rfl,fun _ _=>rfl⟩
end impl_worker_tellAll
namespace slices_Index_int_int
abbrev R:=Int
noncomputable def step2 (N:Nat) (a0:List Int) (a1:Int) (rec:(Int×Int)→Option R):(Int×Int)→Option R
 | (v2,v3)=>
  bif (decide (v3<v2)) then
   bif (decide (0≤v3)) then
   bif (decide (v3<(a0.length:Int))) then
   bif (a1==(a0.getD (Int.toNat v3) (0:Int))) then
    some v3
   else
   rec (v2,(w64 (v3+(1:Int))))
   else none
   else none
  else
  some (-1:Int)
noncomputable def lp2 (N:Nat) (a0:List Int) (a1:Int):(Int×Int)→Option R:=
 miter (fun rec=>step2 N a0 a1 rec) N
noncomputable def m0 (N:Nat) (a0:List Int) (a1:Int) (lp2:Int×Int→Option R):Option R:=
 lp2 ((a0.length:Int),(0:Int))
@[reducible] noncomputable def m (N:Nat) (a0:List Int) (a1:Int):Option R:=m0 N a0 a1 (lp2 N a0 a1)
@[reducible] noncomputable def sp (N:Nat):Spec E:=⟨[.val (.slice 3 (.int .i64)),.val (.int .i64)],[(.int .i64)],true,false,R,fun x=>m N x.1 x.2.1,fun r=>(r,()),fun r=>((),(),()),fun a b=>a.1,fun _ _=>rfl,fun _ _=>rfl⟩
end slices_Index_int_int
namespace slices_Contains_int_int
abbrev R:=Bool
noncomputable def m (N:Nat) (a0:List Int) (a1:Int):Option R:=
 ob (slices_Index_int_int.m N a0 a1) fun y1=>
 some (decide (y1≥(0:Int)))
@[reducible] noncomputable def sp (N:Nat):Spec E:=⟨[.val (.slice 3 (.int .i64)),.val (.int .i64)],[.bool],true,false,R,fun x=>m N x.1 x.2.1,fun r=>(r,()),fun r=>((),(),()),fun a b=>a.1,fun _ _=>rfl,fun _ _=>rfl⟩
end slices_Contains_int_int
namespace impl_worker_leadIf_1
abbrev R:=Bool
noncomputable def m (N:Nat) (a0:Int) (a1:worker):Option R:=
 ob (slices_Contains_int_int.m N a1.Node.Votes a0) fun y1=>
 some y1
@[reducible] noncomputable def sp (N:Nat):Spec E:=⟨[.val (.int .i64),.cap (.rpp (.st 50))],[.bool],true,false,R,fun x=>m N x.1 x.2.1,fun r=>(r,()),fun r=>((),(),()),fun a b=>a.1,fun _ _=>rfl,fun _ _=>rfl⟩
end impl_worker_leadIf_1
namespace impl_worker_isMost__impl_worker_leadIf_1_
abbrev R:=Bool
noncomputable def step3 (N:Nat) (a0:worker) (a1_0:worker) (rec:(Int×Int×Int×(List Int))→Option R):(Int×Int×Int×(List Int))→Option R
 | (v0,v1,v2,v17)=>
  bif (decide (v2<v1)) then
   bif (decide (0≤v2)) then
   bif (decide (v2<(v17.length:Int))) then
   ob (impl_worker_leadIf_1.m N (v17.getD (Int.toNat v2) (0:Int)) (worker.mk (Node.mk a1_0.Node.Id a1_0.Node.Term a1_0.Node.Vote a1_0.Node.Log a1_0.Node.Start a1_0.Node.Role a1_0.Node.Votes a1_0.Node.Next a1_0.Node.Match a1_0.Node.Commit a1_0.Node.Elapsed a1_0.Node.Wait a1_0.Node.Up) a1_0.sent)) fun y2=>
   bif y2 then
    rec ((w64 (v0+(1:Int))),v1,(w64 (v2+(1:Int))),v17)
   else
   rec (v0,v1,(w64 (v2+(1:Int))),v17)
   else none
   else none
  else
  some (decide ((w64 ((2:Int) * v0)) > (v17.length:Int)))
noncomputable def lp3 (N:Nat) (a0:worker) (a1_0:worker):(Int×Int×Int×(List Int))→Option R:=
 miter (fun rec=>step3 N a0 a1_0 rec) N
noncomputable def m0 (N:Nat) (a0:worker) (a1_0:worker) (lp3:Int×Int×Int×(List Int)→Option R):Option R:=
 ob (impl_Node_members.m N (Node.mk a0.Node.Id a0.Node.Term a0.Node.Vote a0.Node.Log a0.Node.Start a0.Node.Role a0.Node.Votes a0.Node.Next a0.Node.Match a0.Node.Commit a0.Node.Elapsed a0.Node.Wait a0.Node.Up)) fun y1=>
 lp3 ((0:Int),(y1.length:Int),(0:Int),y1)
@[reducible] noncomputable def m (N:Nat) (a0:worker) (a1_0:worker):Option R:=m0 N a0 a1_0 (lp3 N a0 a1_0)
@[reducible] noncomputable def sp (N:Nat):Spec E:=⟨[.cap (.rb (.st 50)),.clo 81 [.rpp (.st 50)]],[.bool],true,false,R,fun x=>m N x.1 x.2.1.1,fun r=>(r,()),fun r=>((),(),()),fun a b=>a.1,fun _ _=>rfl,fun _ _=>rfl⟩
end impl_worker_isMost__impl_worker_leadIf_1_
namespace math_bits_Mul64
abbrev R:=Int×Int
noncomputable def m (N:Nat) (a0:Int) (a1:Int):Option R:=
 bif (!decide ((32:Int)<0)) then
 bif (!decide ((32:Int)<0)) then
 bif (!decide ((32:Int)<0)) then
 (let w1:Int:=(wu64 ((wu64 ((Int.fdiv a0 (2 ^ (min (Int.toNat (32:Int)) 64))) * (ibit .and .u64 a1 (4294967295:Int))))+(Int.fdiv (wu64 ((ibit .and .u64 a0 (4294967295:Int)) * (ibit .and .u64 a1 (4294967295:Int)))) (2 ^ (min (Int.toNat (32:Int)) 64)))))
 bif (!decide ((32:Int)<0)) then
 (let w2:Int:=(wu64 ((ibit .and .u64 w1 (4294967295:Int))+(wu64 ((ibit .and .u64 a0 (4294967295:Int)) * (Int.fdiv a1 (2 ^ (min (Int.toNat (32:Int)) 64)))))))
 (let w3:Int:=(wu64 ((wu64 ((Int.fdiv a0 (2 ^ (min (Int.toNat (32:Int)) 64))) * (Int.fdiv a1 (2 ^ (min (Int.toNat (32:Int)) 64)))))+(Int.fdiv w1 (2 ^ (min (Int.toNat (32:Int)) 64)))))
 bif (!decide ((32:Int)<0)) then
 some ((wu64 (w3+(Int.fdiv w2 (2 ^ (min (Int.toNat (32:Int)) 64))))),(wu64 (a0 * a1)))
 else none))
 else none)
 else none
 else none
 else none
@[reducible] noncomputable def sp (N:Nat):Spec E:=⟨[.val (.int .u64),.val (.int .u64)],[(.int .u64),(.int .u64)],true,false,R,fun x=>m N x.1 x.2.1,fun r=>(r.1,r.2,()),fun r=>((),(),()),fun a b=>(a.1,a.2.1),fun _ _=>rfl,fun _ _=>rfl⟩
end math_bits_Mul64
namespace math_bits_Mul
abbrev R:=Int×Int
noncomputable def m (N:Nat) (a0:Int) (a1:Int):Option R:=
 ob (math_bits_Mul64.m N a0 a1) fun y1=>
 some (y1.1,y1.2)
@[reducible] noncomputable def sp (N:Nat):Spec E:=⟨[.val (.int .u64),.val (.int .u64)],[(.int .u64),(.int .u64)],true,false,R,fun x=>m N x.1 x.2.1,fun r=>(r.1,r.2,()),fun r=>((),(),()),fun a b=>(a.1,a.2.1),fun _ _=>rfl,fun _ _=>rfl⟩
end math_bits_Mul
namespace slices_Repeat_int_int
abbrev R:=(List Int)
noncomputable def step8 (N:Nat) (a0:List Int) (a1:Int) (rec:(Int×(List Int))→Option R):(Int×(List Int))→Option R
 | (v0,v1)=>
  bif (decide (v0<(v1.length:Int))) then
   bif (decide (0≤v0)) then
   bif (decide (v0≤(((v1.length):Nat):Int))) then
   bif (decide (0≤v0)) then
   bif (decide (v0≤((v1.length:Nat):Int))) then
   bif (decide ((Int.toNat v0)+((v1.length) - (Int.toNat v0))≤v1.length)) then
   bif (decide (0+((Int.toNat v0) - 0)≤v1.length)) then
   (let w3:List Int:=(v1.take (Int.toNat v0)++(((v1.drop 0).take ((Int.toNat v0) - 0)).take ((v1.length) - (Int.toNat v0))++v1.drop ((Int.toNat v0)+(min ((v1.drop 0).take ((Int.toNat v0) - 0)).length ((v1.length) - (Int.toNat v0)):Nat))))
   rec ((w64 (v0+((min ((v1.drop 0).take ((Int.toNat v0) - 0)).length ((v1.length) - (Int.toNat v0)):Nat):Int))),w3))
   else none
   else none
   else none
   else none
   else none
   else none
  else
  some v1
noncomputable def lp8 (N:Nat) (a0:List Int) (a1:Int):(Int×(List Int))→Option R:=
 miter (fun rec=>step8 N a0 a1 rec) N
noncomputable def m0 (N:Nat) (a0:List Int) (a1:Int) (lp8:Int×(List Int)→Option R):Option R:=
 bif (decide (a1<(0:Int))) then
  none
 else
 ob (math_bits_Mul.m N (wu64 (a0.length:Int)) (wu64 a1)) fun y1=>
 bif (decide (y1.1 > (0:Int))) then
  none
 else
 bif (bif false then true else (decide (y1.2 > (9223372036854775807:Int)))) then
  none
 else
 bif (decide (0≤(w64 y1.2))) then
 bif (room (Int.toNat (w64 y1.2)) 8) then
 (let w2:List Int:=((List.replicate (Int.toNat (w64 y1.2)) (0:Int)).take 0++(a0.take ((List.replicate (Int.toNat (w64 y1.2)) (0:Int)).length)++(List.replicate (Int.toNat (w64 y1.2)) (0:Int)).drop (0+(min a0.length ((List.replicate (Int.toNat (w64 y1.2)) (0:Int)).length):Nat))))
 lp8 (((min a0.length ((List.replicate (Int.toNat (w64 y1.2)) (0:Int)).length):Nat):Int),w2))
 else none
 else none
@[reducible] noncomputable def m (N:Nat) (a0:List Int) (a1:Int):Option R:=m0 N a0 a1 (lp8 N a0 a1)
@[reducible] noncomputable def sp (N:Nat):Spec E:=⟨[.val (.slice 3 (.int .i64)),.val (.int .i64)],[(.slice 3 (.int .i64))],true,false,R,fun x=>m N x.1 x.2.1,fun r=>(r,()),fun r=>((),(),()),fun a b=>a.1,fun _ _=>rfl,fun _ _=>rfl⟩
end slices_Repeat_int_int
namespace impl_worker_commit_1
abbrev R:=Bool
noncomputable def m (N:Nat) (a0:Int) (a1:worker) (a2:Int):Option R:=
 bif (a0==a1.Node.Id) then
  some true
 else
 bif (decide (0≤a0)) then
 bif (decide (a0<(a1.Node.Match.length:Int))) then
 some (bif false then true else (decide ((a1.Node.Match.getD (Int.toNat a0) (0:Int))≥a2)))
 else none
 else none
@[reducible] noncomputable def sp (N:Nat):Spec E:=⟨[.val (.int .i64),.cap (.rpp (.st 50)),.cap (.rb (.int .i64))],[.bool],true,false,R,fun x=>m N x.1 x.2.1 x.2.2.1,fun r=>(r,()),fun r=>((),(),(),()),fun a b=>a.1,fun _ _=>rfl,fun _ _=>rfl⟩
end impl_worker_commit_1
namespace impl_worker_isMost__impl_worker_commit_1_
abbrev R:=Bool
noncomputable def step3 (N:Nat) (a0:worker) (a1_0:worker) (a1_1:Int) (rec:(Int×Int×Int×(List Int))→Option R):(Int×Int×Int×(List Int))→Option R
 | (v0,v1,v2,v18)=>
  bif (decide (v2<v1)) then
   bif (decide (0≤v2)) then
   bif (decide (v2<(v18.length:Int))) then
   ob (impl_worker_commit_1.m N (v18.getD (Int.toNat v2) (0:Int)) (worker.mk (Node.mk a1_0.Node.Id a1_0.Node.Term a1_0.Node.Vote a1_0.Node.Log a1_0.Node.Start a1_0.Node.Role a1_0.Node.Votes a1_0.Node.Next a1_0.Node.Match a1_0.Node.Commit a1_0.Node.Elapsed a1_0.Node.Wait a1_0.Node.Up) a1_0.sent) a1_1) fun y2=>
   bif y2 then
    rec ((w64 (v0+(1:Int))),v1,(w64 (v2+(1:Int))),v18)
   else
   rec (v0,v1,(w64 (v2+(1:Int))),v18)
   else none
   else none
  else
  some (decide ((w64 ((2:Int) * v0)) > (v18.length:Int)))
noncomputable def lp3 (N:Nat) (a0:worker) (a1_0:worker) (a1_1:Int):(Int×Int×Int×(List Int))→Option R:=
 miter (fun rec=>step3 N a0 a1_0 a1_1 rec) N
noncomputable def m0 (N:Nat) (a0:worker) (a1_0:worker) (a1_1:Int) (lp3:Int×Int×Int×(List Int)→Option R):Option R:=
 ob (impl_Node_members.m N (Node.mk a0.Node.Id a0.Node.Term a0.Node.Vote a0.Node.Log a0.Node.Start a0.Node.Role a0.Node.Votes a0.Node.Next a0.Node.Match a0.Node.Commit a0.Node.Elapsed a0.Node.Wait a0.Node.Up)) fun y1=>
 lp3 ((0:Int),(y1.length:Int),(0:Int),y1)
@[reducible] noncomputable def m (N:Nat) (a0:worker) (a1_0:worker) (a1_1:Int):Option R:=m0 N a0 a1_0 a1_1 (lp3 N a0 a1_0 a1_1)
@[reducible] noncomputable def sp (N:Nat):Spec E:=⟨[.cap (.rb (.st 50)),.clo 86 [.rpp (.st 50),.rb (.int .i64)]],[.bool],true,false,R,fun x=>m N x.1 x.2.1.1 x.2.1.2.1,fun r=>(r,()),fun r=>((),(),()),fun a b=>a.1,fun _ _=>rfl,fun _ _=>rfl⟩
end impl_worker_isMost__impl_worker_commit_1_
namespace impl_worker_commit
abbrev R:=worker
noncomputable def step2 (N:Nat) (a0:worker) (rec:Int→Option R):Int→Option R
 | v14=>
  bif (decide (v14 > a0.Node.Commit)) then
   ob (impl_Node_termAt.m N (Node.mk a0.Node.Id a0.Node.Term a0.Node.Vote a0.Node.Log a0.Node.Start a0.Node.Role a0.Node.Votes a0.Node.Next a0.Node.Match a0.Node.Commit a0.Node.Elapsed a0.Node.Wait a0.Node.Up) v14) fun y1=>
   bif (bif true then (y1==a0.Node.Term) else false) then
    ob (impl_worker_isMost__impl_worker_commit_1_.m N (worker.mk (Node.mk a0.Node.Id a0.Node.Term a0.Node.Vote a0.Node.Log a0.Node.Start a0.Node.Role a0.Node.Votes a0.Node.Next a0.Node.Match a0.Node.Commit a0.Node.Elapsed a0.Node.Wait a0.Node.Up) a0.sent) (worker.mk (Node.mk a0.Node.Id a0.Node.Term a0.Node.Vote a0.Node.Log a0.Node.Start a0.Node.Role a0.Node.Votes a0.Node.Next a0.Node.Match a0.Node.Commit a0.Node.Elapsed a0.Node.Wait a0.Node.Up) a0.sent) v14) fun y2=>
    bif y2 then
     some (worker.mk (Node.mk a0.Node.Id a0.Node.Term a0.Node.Vote a0.Node.Log a0.Node.Start a0.Node.Role a0.Node.Votes a0.Node.Next a0.Node.Match v14 a0.Node.Elapsed a0.Node.Wait a0.Node.Up) a0.sent)
    else
    rec (w64 (v14 - (1:Int)))
   else
   some (worker.mk (Node.mk a0.Node.Id a0.Node.Term a0.Node.Vote a0.Node.Log a0.Node.Start a0.Node.Role a0.Node.Votes a0.Node.Next a0.Node.Match a0.Node.Commit a0.Node.Elapsed a0.Node.Wait a0.Node.Up) a0.sent)
  else
  some (worker.mk (Node.mk a0.Node.Id a0.Node.Term a0.Node.Vote a0.Node.Log a0.Node.Start a0.Node.Role a0.Node.Votes a0.Node.Next a0.Node.Match a0.Node.Commit a0.Node.Elapsed a0.Node.Wait a0.Node.Up) a0.sent)
noncomputable def lp2 (N:Nat) (a0:worker):Int→Option R:=
 miter (fun rec=>step2 N a0 rec) N
noncomputable def m0 (N:Nat) (a0:worker) (lp2:Int→Option R):Option R:=
 lp2 (a0.Node.Log.length:Int)
@[reducible] noncomputable def m (N:Nat) (a0:worker):Option R:=m0 N a0 (lp2 N a0)
@[reducible] noncomputable def sp (N:Nat):Spec E:=⟨[.box true 50 50],[],true,true,R,fun x=>m N x.1,fun r=>(),fun r=>(r,()),fun a b=>b.1,fun _ _=>rfl,fun _ _=>rfl⟩
end impl_worker_commit
namespace impl_worker_lead_
abbrev R:=worker
noncomputable def m (N:Nat) (a0:worker):Option R:=
 ob (slices_Repeat_int_int.m N ([(w64 ((a0.Node.Log.length:Int)+(1:Int)))]) (7:Int)) fun y1=>
 bif (decide (0≤(7:Int))) then
 bif (room 7 8) then
 bif (decide ((a0.Node.Log.length:Int)<(60:Int))) then
  bif (room (a0.Node.Log.length+([(Entry.mk a0.Node.Term (0:Int) ByteArray.empty)]).length) 32) then
  ob (impl_worker_commit.m N (worker.mk (Node.mk a0.Node.Id a0.Node.Term a0.Node.Vote (a0.Node.Log++[(Entry.mk a0.Node.Term (0:Int) ByteArray.empty)]) a0.Node.Start (2:Int) a0.Node.Votes y1 (List.replicate 7 (0:Int)) a0.Node.Commit (0:Int) a0.Node.Wait a0.Node.Up) a0.sent)) fun y2=>
  ob (impl_worker_tellAll.m N (worker.mk (Node.mk y2.Node.Id y2.Node.Term y2.Node.Vote y2.Node.Log y2.Node.Start y2.Node.Role y2.Node.Votes y2.Node.Next y2.Node.Match y2.Node.Commit y2.Node.Elapsed y2.Node.Wait y2.Node.Up) y2.sent) a0.Node.Commit) fun y3=>
  some (worker.mk (Node.mk y3.Node.Id y3.Node.Term y3.Node.Vote y3.Node.Log y3.Node.Start y3.Node.Role y3.Node.Votes y3.Node.Next y3.Node.Match y3.Node.Commit y3.Node.Elapsed y3.Node.Wait y3.Node.Up) y3.sent)
  else none
 else
 ob (impl_worker_commit.m N (worker.mk (Node.mk a0.Node.Id a0.Node.Term a0.Node.Vote a0.Node.Log a0.Node.Start (2:Int) a0.Node.Votes y1 (List.replicate 7 (0:Int)) a0.Node.Commit (0:Int) a0.Node.Wait a0.Node.Up) a0.sent)) fun y4=>
 ob (impl_worker_tellAll.m N (worker.mk (Node.mk y4.Node.Id y4.Node.Term y4.Node.Vote y4.Node.Log y4.Node.Start y4.Node.Role y4.Node.Votes y4.Node.Next y4.Node.Match y4.Node.Commit y4.Node.Elapsed y4.Node.Wait y4.Node.Up) y4.sent) a0.Node.Commit) fun y5=>
 some (worker.mk (Node.mk y5.Node.Id y5.Node.Term y5.Node.Vote y5.Node.Log y5.Node.Start y5.Node.Role y5.Node.Votes y5.Node.Next y5.Node.Match y5.Node.Commit y5.Node.Elapsed y5.Node.Wait y5.Node.Up) y5.sent)
 else none
 else none
@[reducible] noncomputable def sp (N:Nat):Spec E:=⟨[.box true 50 50],[],true,true,R,fun x=>m N x.1,fun r=>(),fun r=>(r,()),fun a b=>b.1,fun _ _=>rfl,fun _ _=>rfl⟩
end impl_worker_lead_
namespace impl_worker_leadIf
abbrev R:=Bool×worker
noncomputable def m (N:Nat) (a0:worker):Option R:=
 ob (impl_worker_isMost__impl_worker_leadIf_1_.m N (worker.mk (Node.mk a0.Node.Id a0.Node.Term a0.Node.Vote a0.Node.Log a0.Node.Start a0.Node.Role a0.Node.Votes a0.Node.Next a0.Node.Match a0.Node.Commit a0.Node.Elapsed a0.Node.Wait a0.Node.Up) a0.sent) (worker.mk (Node.mk a0.Node.Id a0.Node.Term a0.Node.Vote a0.Node.Log a0.Node.Start a0.Node.Role a0.Node.Votes a0.Node.Next a0.Node.Match a0.Node.Commit a0.Node.Elapsed a0.Node.Wait a0.Node.Up) a0.sent)) fun y1=>
 bif y1 then
  ob (impl_worker_lead_.m N (worker.mk (Node.mk a0.Node.Id a0.Node.Term a0.Node.Vote a0.Node.Log a0.Node.Start a0.Node.Role a0.Node.Votes a0.Node.Next a0.Node.Match a0.Node.Commit a0.Node.Elapsed a0.Node.Wait a0.Node.Up) a0.sent)) fun y2=>
  some (y1,(worker.mk (Node.mk y2.Node.Id y2.Node.Term y2.Node.Vote y2.Node.Log y2.Node.Start y2.Node.Role y2.Node.Votes y2.Node.Next y2.Node.Match y2.Node.Commit y2.Node.Elapsed y2.Node.Wait y2.Node.Up) y2.sent))
 else
 some (y1,(worker.mk (Node.mk a0.Node.Id a0.Node.Term a0.Node.Vote a0.Node.Log a0.Node.Start a0.Node.Role a0.Node.Votes a0.Node.Next a0.Node.Match a0.Node.Commit a0.Node.Elapsed a0.Node.Wait a0.Node.Up) a0.sent))
@[reducible] noncomputable def sp (N:Nat):Spec E:=⟨[.box true 50 50],[.bool],true,true,R,fun x=>m N x.1,fun r=>(r.1,()),fun r=>(r.2,()),fun a b=>(a.1,b.1),fun _ _=>rfl,fun _ _=>rfl⟩
end impl_worker_leadIf
namespace impl_worker_stand
abbrev R:=worker
noncomputable def step4 (N:Nat) (a0:worker) (a1:Int) (rec:(Int×Int×Int×Int×Int×Int×Int×Int×Int×Bool×(List Entry)×(List Int)×(List Int)×(List Int)×(List Int)×(List Message)×(List Int))→Option R):(Int×Int×Int×Int×Int×Int×Int×Int×Int×Bool×(List Entry)×(List Int)×(List Int)×(List Int)×(List Int)×(List Message)×(List Int))→Option R
 | (v0,v1,v2,v3,v4,v5,v6,v7,v8,v9,v10,v11,v12,v13,v14,v15,v16)=>
  bif (decide (v1<v0)) then
   bif (decide (0≤v1)) then
   bif (decide (v1<(v16.length:Int))) then
   ob (impl_Node_termAt.m N (Node.mk v2 v3 v4 v10 v11 v5 v12 v13 v14 v6 v7 v8 v9) (v10.length:Int)) fun y3=>
   ob (impl_worker_send_.m N (worker.mk (Node.mk v2 v3 v4 v10 v11 v5 v12 v13 v14 v6 v7 v8 v9) v15) (Message.mk (1:Int) (0:Int) (v16.getD (Int.toNat v1) (0:Int)) (0:Int) (v10.length:Int) y3 (0:Int) ([]:List Entry) false)) fun y4=>
   rec (v0,(w64 (v1+(1:Int))),y4.Node.Id,y4.Node.Term,y4.Node.Vote,y4.Node.Role,y4.Node.Commit,y4.Node.Elapsed,y4.Node.Wait,y4.Node.Up,y4.Node.Log,y4.Node.Start,y4.Node.Votes,y4.Node.Next,y4.Node.Match,y4.sent,v16)
   else none
   else none
  else
  some (worker.mk (Node.mk v2 v3 v4 v10 v11 v5 v12 v13 v14 v6 v7 v8 v9) v15)
noncomputable def lp4 (N:Nat) (a0:worker) (a1:Int):(Int×Int×Int×Int×Int×Int×Int×Int×Int×Bool×(List Entry)×(List Int)×(List Int)×(List Int)×(List Int)×(List Message)×(List Int))→Option R:=
 miter (fun rec=>step4 N a0 a1 rec) N
noncomputable def m0 (N:Nat) (a0:worker) (a1:Int) (lp4:Int×Int×Int×Int×Int×Int×Int×Int×Int×Bool×(List Entry)×(List Int)×(List Int)×(List Int)×(List Int)×(List Message)×(List Int)→Option R):Option R:=
 bif (!decide ((8:Int)=0)) then
 ob (impl_worker_leadIf.m N (worker.mk (Node.mk a0.Node.Id (w64 (a0.Node.Term+(1:Int))) a0.Node.Id a0.Node.Log a0.Node.Start (1:Int) ([a0.Node.Id]) a0.Node.Next a0.Node.Match a0.Node.Commit (0:Int) (w64 ((5:Int)+(Int.tmod a1 (8:Int)))) a0.Node.Up) a0.sent)) fun y1=>
 bif y1.1 then
  some (worker.mk (Node.mk y1.2.Node.Id y1.2.Node.Term y1.2.Node.Vote y1.2.Node.Log y1.2.Node.Start y1.2.Node.Role y1.2.Node.Votes y1.2.Node.Next y1.2.Node.Match y1.2.Node.Commit y1.2.Node.Elapsed y1.2.Node.Wait y1.2.Node.Up) y1.2.sent)
 else
 ob (impl_worker_others_.m N (worker.mk (Node.mk y1.2.Node.Id y1.2.Node.Term y1.2.Node.Vote y1.2.Node.Log y1.2.Node.Start y1.2.Node.Role y1.2.Node.Votes y1.2.Node.Next y1.2.Node.Match y1.2.Node.Commit y1.2.Node.Elapsed y1.2.Node.Wait y1.2.Node.Up) y1.2.sent)) fun y2=>
 lp4 ((y2.length:Int),(0:Int),y1.2.Node.Id,y1.2.Node.Term,y1.2.Node.Vote,y1.2.Node.Role,y1.2.Node.Commit,y1.2.Node.Elapsed,y1.2.Node.Wait,y1.2.Node.Up,y1.2.Node.Log,y1.2.Node.Start,y1.2.Node.Votes,y1.2.Node.Next,y1.2.Node.Match,y1.2.sent,y2)
 else none
@[reducible] noncomputable def m (N:Nat) (a0:worker) (a1:Int):Option R:=m0 N a0 a1 (lp4 N a0 a1)
@[reducible] noncomputable def sp (N:Nat):Spec E:=⟨[.box true 50 50,.val (.int .i64)],[],true,true,R,fun x=>m N x.1 x.2.1,fun r=>(),fun r=>(r,(),()),fun a b=>b.1,fun _ _=>rfl,fun _ _=>rfl⟩
end impl_worker_stand
namespace impl_worker_tick
abbrev R:=worker
noncomputable def m (N:Nat) (a0:worker) (a1:Int):Option R:=
 bif (a0.Node.Role==(2:Int)) then
  (let w1:Bool:=(bif true then (decide ((if (w64 (a0.Node.Elapsed+(1:Int)))<(1000:Int) then (w64 (a0.Node.Elapsed+(1:Int))) else (1000:Int))≥(2:Int))) else false)
  bif w1 then
   ob (impl_worker_tellAll.m N (worker.mk (Node.mk a0.Node.Id a0.Node.Term a0.Node.Vote a0.Node.Log a0.Node.Start a0.Node.Role a0.Node.Votes a0.Node.Next a0.Node.Match a0.Node.Commit (0:Int) a0.Node.Wait a0.Node.Up) a0.sent) a0.Node.Commit) fun y2=>
   some (worker.mk (Node.mk y2.Node.Id y2.Node.Term y2.Node.Vote y2.Node.Log y2.Node.Start y2.Node.Role y2.Node.Votes y2.Node.Next y2.Node.Match y2.Node.Commit y2.Node.Elapsed y2.Node.Wait y2.Node.Up) y2.sent)
  else
  bif (a0.Node.Role != (2:Int)) then
   (let w3:Bool:=(bif true then (decide ((if (w64 (a0.Node.Elapsed+(1:Int)))<(1000:Int) then (w64 (a0.Node.Elapsed+(1:Int))) else (1000:Int))≥a0.Node.Wait)) else false)
   bif w3 then
    bif (bif true then (decide (a0.Node.Term<(1000000:Int))) else false) then
     ob (impl_Node_members.m N (Node.mk a0.Node.Id a0.Node.Term a0.Node.Vote a0.Node.Log a0.Node.Start a0.Node.Role a0.Node.Votes a0.Node.Next a0.Node.Match a0.Node.Commit (if (w64 (a0.Node.Elapsed+(1:Int)))<(1000:Int) then (w64 (a0.Node.Elapsed+(1:Int))) else (1000:Int)) a0.Node.Wait a0.Node.Up)) fun y4=>
     ob (slices_Contains_int_int.m N y4 a0.Node.Id) fun y5=>
     bif (bif true then y5 else false) then
      ob (impl_worker_stand.m N (worker.mk (Node.mk a0.Node.Id a0.Node.Term a0.Node.Vote a0.Node.Log a0.Node.Start a0.Node.Role a0.Node.Votes a0.Node.Next a0.Node.Match a0.Node.Commit (if (w64 (a0.Node.Elapsed+(1:Int)))<(1000:Int) then (w64 (a0.Node.Elapsed+(1:Int))) else (1000:Int)) a0.Node.Wait a0.Node.Up) a0.sent) a1) fun y6=>
      some (worker.mk (Node.mk y6.Node.Id y6.Node.Term y6.Node.Vote y6.Node.Log y6.Node.Start y6.Node.Role y6.Node.Votes y6.Node.Next y6.Node.Match y6.Node.Commit y6.Node.Elapsed y6.Node.Wait y6.Node.Up) y6.sent)
     else
     some (worker.mk (Node.mk a0.Node.Id a0.Node.Term a0.Node.Vote a0.Node.Log a0.Node.Start a0.Node.Role a0.Node.Votes a0.Node.Next a0.Node.Match a0.Node.Commit (if (w64 (a0.Node.Elapsed+(1:Int)))<(1000:Int) then (w64 (a0.Node.Elapsed+(1:Int))) else (1000:Int)) a0.Node.Wait a0.Node.Up) a0.sent)
    else
    some (worker.mk (Node.mk a0.Node.Id a0.Node.Term a0.Node.Vote a0.Node.Log a0.Node.Start a0.Node.Role a0.Node.Votes a0.Node.Next a0.Node.Match a0.Node.Commit (if (w64 (a0.Node.Elapsed+(1:Int)))<(1000:Int) then (w64 (a0.Node.Elapsed+(1:Int))) else (1000:Int)) a0.Node.Wait a0.Node.Up) a0.sent)
   else
   some (worker.mk (Node.mk a0.Node.Id a0.Node.Term a0.Node.Vote a0.Node.Log a0.Node.Start a0.Node.Role a0.Node.Votes a0.Node.Next a0.Node.Match a0.Node.Commit (if (w64 (a0.Node.Elapsed+(1:Int)))<(1000:Int) then (w64 (a0.Node.Elapsed+(1:Int))) else (1000:Int)) a0.Node.Wait a0.Node.Up) a0.sent))
  else
  some (worker.mk (Node.mk a0.Node.Id a0.Node.Term a0.Node.Vote a0.Node.Log a0.Node.Start a0.Node.Role a0.Node.Votes a0.Node.Next a0.Node.Match a0.Node.Commit (if (w64 (a0.Node.Elapsed+(1:Int)))<(1000:Int) then (w64 (a0.Node.Elapsed+(1:Int))) else (1000:Int)) a0.Node.Wait a0.Node.Up) a0.sent))
 else
 bif (a0.Node.Role != (2:Int)) then
  (let w7:Bool:=(bif true then (decide ((if (w64 (a0.Node.Elapsed+(1:Int)))<(1000:Int) then (w64 (a0.Node.Elapsed+(1:Int))) else (1000:Int))≥a0.Node.Wait)) else false)
  bif w7 then
   bif (bif true then (decide (a0.Node.Term<(1000000:Int))) else false) then
    ob (impl_Node_members.m N (Node.mk a0.Node.Id a0.Node.Term a0.Node.Vote a0.Node.Log a0.Node.Start a0.Node.Role a0.Node.Votes a0.Node.Next a0.Node.Match a0.Node.Commit (if (w64 (a0.Node.Elapsed+(1:Int)))<(1000:Int) then (w64 (a0.Node.Elapsed+(1:Int))) else (1000:Int)) a0.Node.Wait a0.Node.Up)) fun y8=>
    ob (slices_Contains_int_int.m N y8 a0.Node.Id) fun y9=>
    bif (bif true then y9 else false) then
     ob (impl_worker_stand.m N (worker.mk (Node.mk a0.Node.Id a0.Node.Term a0.Node.Vote a0.Node.Log a0.Node.Start a0.Node.Role a0.Node.Votes a0.Node.Next a0.Node.Match a0.Node.Commit (if (w64 (a0.Node.Elapsed+(1:Int)))<(1000:Int) then (w64 (a0.Node.Elapsed+(1:Int))) else (1000:Int)) a0.Node.Wait a0.Node.Up) a0.sent) a1) fun y10=>
     some (worker.mk (Node.mk y10.Node.Id y10.Node.Term y10.Node.Vote y10.Node.Log y10.Node.Start y10.Node.Role y10.Node.Votes y10.Node.Next y10.Node.Match y10.Node.Commit y10.Node.Elapsed y10.Node.Wait y10.Node.Up) y10.sent)
    else
    some (worker.mk (Node.mk a0.Node.Id a0.Node.Term a0.Node.Vote a0.Node.Log a0.Node.Start a0.Node.Role a0.Node.Votes a0.Node.Next a0.Node.Match a0.Node.Commit (if (w64 (a0.Node.Elapsed+(1:Int)))<(1000:Int) then (w64 (a0.Node.Elapsed+(1:Int))) else (1000:Int)) a0.Node.Wait a0.Node.Up) a0.sent)
   else
   some (worker.mk (Node.mk a0.Node.Id a0.Node.Term a0.Node.Vote a0.Node.Log a0.Node.Start a0.Node.Role a0.Node.Votes a0.Node.Next a0.Node.Match a0.Node.Commit (if (w64 (a0.Node.Elapsed+(1:Int)))<(1000:Int) then (w64 (a0.Node.Elapsed+(1:Int))) else (1000:Int)) a0.Node.Wait a0.Node.Up) a0.sent)
  else
  some (worker.mk (Node.mk a0.Node.Id a0.Node.Term a0.Node.Vote a0.Node.Log a0.Node.Start a0.Node.Role a0.Node.Votes a0.Node.Next a0.Node.Match a0.Node.Commit (if (w64 (a0.Node.Elapsed+(1:Int)))<(1000:Int) then (w64 (a0.Node.Elapsed+(1:Int))) else (1000:Int)) a0.Node.Wait a0.Node.Up) a0.sent))
 else
 some (worker.mk (Node.mk a0.Node.Id a0.Node.Term a0.Node.Vote a0.Node.Log a0.Node.Start a0.Node.Role a0.Node.Votes a0.Node.Next a0.Node.Match a0.Node.Commit (if (w64 (a0.Node.Elapsed+(1:Int)))<(1000:Int) then (w64 (a0.Node.Elapsed+(1:Int))) else (1000:Int)) a0.Node.Wait a0.Node.Up) a0.sent)
@[reducible] noncomputable def sp (N:Nat):Spec E:=⟨[.box true 50 50,.val (.int .i64)],[],true,true,R,fun x=>m N x.1 x.2.1,fun r=>(),fun r=>(r,(),()),fun a b=>b.1,fun _ _=>rfl,fun _ _=>rfl⟩
end impl_worker_tick
namespace impl_worker_asNode
abbrev R:=Node×(List Message)
noncomputable def m (N:Nat) (a0:worker):Option R:=
 ob (impl_copyNode.m N (Node.mk a0.Node.Id a0.Node.Term a0.Node.Vote a0.Node.Log a0.Node.Start a0.Node.Role a0.Node.Votes a0.Node.Next a0.Node.Match a0.Node.Commit a0.Node.Elapsed a0.Node.Wait a0.Node.Up)) fun y1=>
 some (y1,a0.sent)
@[reducible] noncomputable def sp (N:Nat):Spec E:=⟨[.movb true 50 50],[(.st 29),(.slice 57 (.st 57))],true,true,R,fun x=>m N x.1,fun r=>(r.1,r.2,()),fun r=>((),()),fun a b=>(a.1,a.2.1),fun _ _=>rfl,fun _ _=>rfl⟩
end impl_worker_asNode
namespace impl_NodeTick
abbrev R:=Node×(List Message)×Int
noncomputable def m (N:Nat) (a0:Node) (a1:Int):Option R:=
 ob (impl_NodeOK.m N (Node.mk a0.Id a0.Term a0.Vote a0.Log a0.Start a0.Role a0.Votes a0.Next a0.Match a0.Commit a0.Elapsed a0.Wait a0.Up)) fun y1=>
 bif (!y1) then
  some ((Node.mk (0:Int) (0:Int) (0:Int) ([]:List Entry) ([]:List Int) (0:Int) ([]:List Int) ([]:List Int) ([]:List Int) (0:Int) (0:Int) (0:Int) false),([]:List Message),(1:Int))
 else
 ob (impl_within.m N a1 (0:Int) (1000000:Int)) fun y2=>
 bif (!y2) then
  some ((Node.mk (0:Int) (0:Int) (0:Int) ([]:List Entry) ([]:List Int) (0:Int) ([]:List Int) ([]:List Int) ([]:List Int) (0:Int) (0:Int) (0:Int) false),([]:List Message),(4:Int))
 else
 bif (!a0.Up) then
  ob (impl_copyNode.m N a0) fun y3=>
  some (y3,([]:List Message),(5:Int))
 else
 ob (impl_copyNode.m N a0) fun y4=>
 ob (impl_worker_tick.m N (worker.mk (Node.mk y4.Id y4.Term y4.Vote y4.Log y4.Start y4.Role y4.Votes y4.Next y4.Match y4.Commit y4.Elapsed y4.Wait y4.Up) ([]:List Message)) a1) fun y5=>
 ob (impl_worker_asNode.m N (worker.mk (Node.mk y5.Node.Id y5.Node.Term y5.Node.Vote y5.Node.Log y5.Node.Start y5.Node.Role y5.Node.Votes y5.Node.Next y5.Node.Match y5.Node.Commit y5.Node.Elapsed y5.Node.Wait y5.Node.Up) y5.sent)) fun y6=>
 some (y6.1,y6.2,(0:Int))
@[reducible] noncomputable def sp (N:Nat):Spec E:=⟨[.val (.st 29),.val (.int .i64)],[(.st 29),(.slice 57 (.st 57)),(.int .i64)],true,true,R,fun x=>m N x.1 x.2.1,fun r=>(r.1,r.2.1,r.2.2,()),fun r=>((),(),()),fun a b=>(a.1,a.2.1,a.2.2.1),fun _ _=>rfl,fun _ _=>rfl⟩
end impl_NodeTick
namespace laws_eqEntry
abbrev R:=Bool
noncomputable def m (N:Nat) (a0:Entry) (a1:Entry):Option R:=
 bif (a0.Term != a1.Term) then
  some false
 else
 bif (a0.Kind != a1.Kind) then
  some false
 else
 bif (!seq a0.Data a1.Data) then
  some false
 else
 some true
@[reducible] noncomputable def sp (N:Nat):Spec E:=⟨[.val (.st 69),.val (.st 69)],[.bool],true,false,R,fun x=>m N x.1 x.2.1,fun r=>(r,()),fun r=>((),(),()),fun a b=>a.1,fun _ _=>rfl,fun _ _=>rfl⟩
end laws_eqEntry
namespace laws_eqEntryS
abbrev R:=Bool
noncomputable def step4 (N:Nat) (a0:List Entry) (a1:List Entry) (rec:Int→Option R):Int→Option R
 | v2=>
  bif (decide (v2<(a0.length:Int))) then
   bif (decide (0≤v2)) then
   bif (decide (v2<(a0.length:Int))) then
   bif (decide (0≤v2)) then
   bif (decide (v2<(a1.length:Int))) then
   ob (laws_eqEntry.m N (a0.getD (Int.toNat v2) Entry.dz) (a1.getD (Int.toNat v2) Entry.dz)) fun y1=>
   bif (!y1) then
    some false
   else
   rec (w64 (v2+(1:Int)))
   else none
   else none
   else none
   else none
  else
  some true
noncomputable def lp4 (N:Nat) (a0:List Entry) (a1:List Entry):Int→Option R:=
 miter (fun rec=>step4 N a0 a1 rec) N
noncomputable def m0 (N:Nat) (a0:List Entry) (a1:List Entry) (lp4:Int→Option R):Option R:=
 bif ((a0.length:Int) != (a1.length:Int)) then
  some false
 else
 lp4 (0:Int)
@[reducible] noncomputable def m (N:Nat) (a0:List Entry) (a1:List Entry):Option R:=m0 N a0 a1 (lp4 N a0 a1)
@[reducible] noncomputable def sp (N:Nat):Spec E:=⟨[.val (.slice 69 (.st 69)),.val (.slice 69 (.st 69))],[.bool],true,false,R,fun x=>m N x.1 x.2.1,fun r=>(r,()),fun r=>((),(),()),fun a b=>a.1,fun _ _=>rfl,fun _ _=>rfl⟩
end laws_eqEntryS
namespace laws_eqIntS
abbrev R:=Bool
noncomputable def step4 (N:Nat) (a0:List Int) (a1:List Int) (rec:Int→Option R):Int→Option R
 | v2=>
  bif (decide (v2<(a0.length:Int))) then
   bif (decide (0≤v2)) then
   bif (decide (v2<(a0.length:Int))) then
   bif (decide (0≤v2)) then
   bif (decide (v2<(a1.length:Int))) then
   bif ((a0.getD (Int.toNat v2) (0:Int)) != (a1.getD (Int.toNat v2) (0:Int))) then
    some false
   else
   rec (w64 (v2+(1:Int)))
   else none
   else none
   else none
   else none
  else
  some true
noncomputable def lp4 (N:Nat) (a0:List Int) (a1:List Int):Int→Option R:=
 miter (fun rec=>step4 N a0 a1 rec) N
noncomputable def m0 (N:Nat) (a0:List Int) (a1:List Int) (lp4:Int→Option R):Option R:=
 bif ((a0.length:Int) != (a1.length:Int)) then
  some false
 else
 lp4 (0:Int)
@[reducible] noncomputable def m (N:Nat) (a0:List Int) (a1:List Int):Option R:=m0 N a0 a1 (lp4 N a0 a1)
@[reducible] noncomputable def sp (N:Nat):Spec E:=⟨[.val (.slice 3 (.int .i64)),.val (.slice 3 (.int .i64))],[.bool],true,false,R,fun x=>m N x.1 x.2.1,fun r=>(r,()),fun r=>((),(),()),fun a b=>a.1,fun _ _=>rfl,fun _ _=>rfl⟩
end laws_eqIntS
namespace laws_eqNode
abbrev R:=Bool
noncomputable def m (N:Nat) (a0:Node) (a1:Node):Option R:=
 bif (a0.Id != a1.Id) then
  some false
 else
 bif (a0.Term != a1.Term) then
  some false
 else
 bif (a0.Vote != a1.Vote) then
  some false
 else
 ob (laws_eqEntryS.m N a0.Log a1.Log) fun y1=>
 bif (!y1) then
  some false
 else
 ob (laws_eqIntS.m N a0.Start a1.Start) fun y2=>
 bif (!y2) then
  some false
 else
 bif (a0.Role != a1.Role) then
  some false
 else
 ob (laws_eqIntS.m N a0.Votes a1.Votes) fun y3=>
 bif (!y3) then
  some false
 else
 ob (laws_eqIntS.m N a0.Next a1.Next) fun y4=>
 bif (!y4) then
  some false
 else
 ob (laws_eqIntS.m N a0.Match a1.Match) fun y5=>
 bif (!y5) then
  some false
 else
 bif (a0.Commit != a1.Commit) then
  some false
 else
 bif (a0.Elapsed != a1.Elapsed) then
  some false
 else
 bif (a0.Wait != a1.Wait) then
  some false
 else
 bif (!(a0.Up==a1.Up)) then
  some false
 else
 some true
@[reducible] noncomputable def sp (N:Nat):Spec E:=⟨[.val (.st 29),.val (.st 29)],[.bool],true,false,R,fun x=>m N x.1 x.2.1,fun r=>(r,()),fun r=>((),(),()),fun a b=>a.1,fun _ _=>rfl,fun _ _=>rfl⟩
end laws_eqNode
namespace laws_eqMessage
abbrev R:=Bool
noncomputable def m (N:Nat) (a0:Message) (a1:Message):Option R:=
 bif (a0.Kind != a1.Kind) then
  some false
 else
 bif (a0.From != a1.From) then
  some false
 else
 bif (a0.To != a1.To) then
  some false
 else
 bif (a0.Term != a1.Term) then
  some false
 else
 bif (a0.Index != a1.Index) then
  some false
 else
 bif (a0.LogTerm != a1.LogTerm) then
  some false
 else
 bif (a0.Commit != a1.Commit) then
  some false
 else
 ob (laws_eqEntryS.m N a0.Entries a1.Entries) fun y1=>
 bif (!y1) then
  some false
 else
 bif (!(a0.Ok==a1.Ok)) then
  some false
 else
 some true
@[reducible] noncomputable def sp (N:Nat):Spec E:=⟨[.val (.st 57),.val (.st 57)],[.bool],true,false,R,fun x=>m N x.1 x.2.1,fun r=>(r,()),fun r=>((),(),()),fun a b=>a.1,fun _ _=>rfl,fun _ _=>rfl⟩
end laws_eqMessage
namespace laws_eqMessageS
abbrev R:=Bool
noncomputable def step4 (N:Nat) (a0:List Message) (a1:List Message) (rec:Int→Option R):Int→Option R
 | v2=>
  bif (decide (v2<(a0.length:Int))) then
   bif (decide (0≤v2)) then
   bif (decide (v2<(a0.length:Int))) then
   bif (decide (0≤v2)) then
   bif (decide (v2<(a1.length:Int))) then
   ob (laws_eqMessage.m N (a0.getD (Int.toNat v2) Message.dz) (a1.getD (Int.toNat v2) Message.dz)) fun y1=>
   bif (!y1) then
    some false
   else
   rec (w64 (v2+(1:Int)))
   else none
   else none
   else none
   else none
  else
  some true
noncomputable def lp4 (N:Nat) (a0:List Message) (a1:List Message):Int→Option R:=
 miter (fun rec=>step4 N a0 a1 rec) N
noncomputable def m0 (N:Nat) (a0:List Message) (a1:List Message) (lp4:Int→Option R):Option R:=
 bif ((a0.length:Int) != (a1.length:Int)) then
  some false
 else
 lp4 (0:Int)
@[reducible] noncomputable def m (N:Nat) (a0:List Message) (a1:List Message):Option R:=m0 N a0 a1 (lp4 N a0 a1)
@[reducible] noncomputable def sp (N:Nat):Spec E:=⟨[.val (.slice 57 (.st 57)),.val (.slice 57 (.st 57))],[.bool],true,false,R,fun x=>m N x.1 x.2.1,fun r=>(r,()),fun r=>((),(),()),fun a b=>a.1,fun _ _=>rfl,fun _ _=>rfl⟩
end laws_eqMessageS
namespace laws_markText
abbrev R:=ByteArray
noncomputable def step4 (N:Nat) (a0:Int) (rec:(Int×ByteArray)→Option R):(Int×ByteArray)→Option R
 | (v0,v1)=>
  bif (decide (v0 > (0:Int))) then
   bif (!decide ((10:Int)=0)) then
   bif (decide ((strOf ([(wu8 (w64 ((48:Int)+(Int.tmod v0 (10:Int)))))])).size+v1.size≤9223372036854775807)) then
   bif (!decide ((10:Int)=0)) then
   rec ((w64 (Int.tdiv v0 (10:Int))),((strOf ([(wu8 (w64 ((48:Int)+(Int.tmod v0 (10:Int)))))]))++v1))
   else none
   else none
   else none
  else
  bif (decide ((⟨#[109]⟩:ByteArray).size+v1.size≤9223372036854775807)) then
  some ((⟨#[109]⟩:ByteArray)++v1)
  else none
noncomputable def lp4 (N:Nat) (a0:Int):(Int×ByteArray)→Option R:=
 miter (fun rec=>step4 N a0 rec) N
noncomputable def m0 (N:Nat) (a0:Int) (lp4:Int×ByteArray→Option R):Option R:=
 bif (decide (a0≤(0:Int))) then
  some (⟨#[109,48]⟩:ByteArray)
 else
 lp4 (a0,ByteArray.empty)
@[reducible] noncomputable def m (N:Nat) (a0:Int):Option R:=m0 N a0 (lp4 N a0)
@[reducible] noncomputable def sp (N:Nat):Spec E:=⟨[.val (.int .i64)],[.str],true,false,R,fun x=>m N x.1,fun r=>(r,()),fun r=>((),()),fun a b=>a.1,fun _ _=>rfl,fun _ _=>rfl⟩
end laws_markText
namespace laws_markEntryS
abbrev R:=Int×(List Entry)
noncomputable def step2 (N:Nat) (a0:List Entry) (a1:Int) (rec:(Int×Int×(List Entry))→Option R):(Int×Int×(List Entry))→Option R
 | (v0,v1,v2)=>
  bif (decide (v1<(v2.length:Int))) then
   bif (decide (0≤v1)) then
   bif (decide (v1<(v2.length:Int))) then
   bif (decide (0≤v1)) then
   bif (decide (v1<((v2.set (Int.toNat v1) (Entry.mk v0 ((v2.getD (Int.toNat v1) Entry.dz).Kind) ((v2.getD (Int.toNat v1) Entry.dz).Data))).length:Int))) then
   (let w1:Entry:=((v2.set (Int.toNat v1) (Entry.mk v0 ((v2.getD (Int.toNat v1) Entry.dz).Kind) ((v2.getD (Int.toNat v1) Entry.dz).Data))).getD (Int.toNat v1) Entry.dz)
   (let w2:List Entry:=((v2.set (Int.toNat v1) (Entry.mk v0 ((v2.getD (Int.toNat v1) Entry.dz).Kind) ((v2.getD (Int.toNat v1) Entry.dz).Data))).set (Int.toNat v1) (Entry.mk w1.Term (w64 (v0+(1:Int))) w1.Data))
   ob (laws_markText.m N (w64 ((w64 (v0+(1:Int)))+(1:Int)))) fun y3=>
   bif (decide (0≤v1)) then
   bif (decide (v1<(w2.length:Int))) then
   rec ((w64 ((w64 ((w64 (v0+(1:Int)))+(1:Int)))+(1:Int))),(w64 (v1+(1:Int))),(w2.set (Int.toNat v1) (Entry.mk ((w2.getD (Int.toNat v1) Entry.dz).Term) ((w2.getD (Int.toNat v1) Entry.dz).Kind) y3)))
   else none
   else none))
   else none
   else none
   else none
   else none
  else
  some (v0,v2)
noncomputable def lp2 (N:Nat) (a0:List Entry) (a1:Int):(Int×Int×(List Entry))→Option R:=
 miter (fun rec=>step2 N a0 a1 rec) N
noncomputable def m0 (N:Nat) (a0:List Entry) (a1:Int) (lp2:Int×Int×(List Entry)→Option R):Option R:=
 lp2 (a1,(0:Int),a0)
@[reducible] noncomputable def m (N:Nat) (a0:List Entry) (a1:Int):Option R:=m0 N a0 a1 (lp2 N a0 a1)
@[reducible] noncomputable def sp (N:Nat):Spec E:=⟨[.mut false (.slice 69 (.st 69)),.val (.int .i64)],[(.int .i64)],true,false,R,fun x=>m N x.1 x.2.1,fun r=>(r.1,()),fun r=>(r.2,(),()),fun a b=>(a.1,b.1),fun _ _=>rfl,fun _ _=>rfl⟩
end laws_markEntryS
namespace laws_markIntS
abbrev R:=Int×(List Int)
noncomputable def step2 (N:Nat) (a0:List Int) (a1:Int) (rec:(Int×Int×(List Int))→Option R):(Int×Int×(List Int))→Option R
 | (v0,v1,v2)=>
  bif (decide (v1<(v2.length:Int))) then
   bif (decide (0≤v1)) then
   bif (decide (v1<(v2.length:Int))) then
   rec ((w64 (v0+(1:Int))),(w64 (v1+(1:Int))),(v2.set (Int.toNat v1) v0))
   else none
   else none
  else
  some (v0,v2)
noncomputable def lp2 (N:Nat) (a0:List Int) (a1:Int):(Int×Int×(List Int))→Option R:=
 miter (fun rec=>step2 N a0 a1 rec) N
noncomputable def m0 (N:Nat) (a0:List Int) (a1:Int) (lp2:Int×Int×(List Int)→Option R):Option R:=
 lp2 (a1,(0:Int),a0)
@[reducible] noncomputable def m (N:Nat) (a0:List Int) (a1:Int):Option R:=m0 N a0 a1 (lp2 N a0 a1)
@[reducible] noncomputable def sp (N:Nat):Spec E:=⟨[.mut false (.slice 3 (.int .i64)),.val (.int .i64)],[(.int .i64)],true,false,R,fun x=>m N x.1 x.2.1,fun r=>(r.1,()),fun r=>(r.2,(),()),fun a b=>(a.1,b.1),fun _ _=>rfl,fun _ _=>rfl⟩
end laws_markIntS
namespace laws_markNode
abbrev R:=Int×Node
noncomputable def m (N:Nat) (a0:Node) (a1:Int):Option R:=
 ob (laws_markEntryS.m N a0.Log a1) fun y1=>
 ob (laws_markIntS.m N a0.Start y1.1) fun y2=>
 ob (laws_markIntS.m N a0.Votes y2.1) fun y3=>
 ob (laws_markIntS.m N a0.Next y3.1) fun y4=>
 ob (laws_markIntS.m N a0.Match y4.1) fun y5=>
 some (y5.1,(Node.mk a0.Id a0.Term a0.Vote y1.2 y2.2 a0.Role y3.2 y4.2 y5.2 a0.Commit a0.Elapsed a0.Wait a0.Up))
@[reducible] noncomputable def sp (N:Nat):Spec E:=⟨[.mut false (.st 29),.val (.int .i64)],[(.int .i64)],true,false,R,fun x=>m N x.1 x.2.1,fun r=>(r.1,()),fun r=>(r.2,(),()),fun a b=>(a.1,b.1),fun _ _=>rfl,fun _ _=>rfl⟩
end laws_markNode
namespace laws_markMessageS
abbrev R:=Int×(List Message)
noncomputable def step2 (N:Nat) (a0:List Message) (a1:Int) (rec:(Int×Int×(List Message))→Option R):(Int×Int×(List Message))→Option R
 | (v0,v1,v2)=>
  bif (decide (v1<(v2.length:Int))) then
   bif (decide (0≤v1)) then
   bif (decide (v1<(v2.length:Int))) then
   (let w1:List Message:=(v2.set (Int.toNat v1) (Message.mk v0 ((v2.getD (Int.toNat v1) Message.dz).From) ((v2.getD (Int.toNat v1) Message.dz).To) ((v2.getD (Int.toNat v1) Message.dz).Term) ((v2.getD (Int.toNat v1) Message.dz).Index) ((v2.getD (Int.toNat v1) Message.dz).LogTerm) ((v2.getD (Int.toNat v1) Message.dz).Commit) ((v2.getD (Int.toNat v1) Message.dz).Entries) ((v2.getD (Int.toNat v1) Message.dz).Ok)))
   bif (decide (0≤v1)) then
   bif (decide (v1<(w1.length:Int))) then
   (let w2:List Message:=(w1.set (Int.toNat v1) (Message.mk ((w1.getD (Int.toNat v1) Message.dz).Kind) (w64 (v0+(1:Int))) ((w1.getD (Int.toNat v1) Message.dz).To) ((w1.getD (Int.toNat v1) Message.dz).Term) ((w1.getD (Int.toNat v1) Message.dz).Index) ((w1.getD (Int.toNat v1) Message.dz).LogTerm) ((w1.getD (Int.toNat v1) Message.dz).Commit) ((w1.getD (Int.toNat v1) Message.dz).Entries) ((w1.getD (Int.toNat v1) Message.dz).Ok)))
   bif (decide (0≤v1)) then
   bif (decide (v1<(w2.length:Int))) then
   (let w3:List Message:=(w2.set (Int.toNat v1) (Message.mk ((w2.getD (Int.toNat v1) Message.dz).Kind) ((w2.getD (Int.toNat v1) Message.dz).From) (w64 ((w64 (v0+(1:Int)))+(1:Int))) ((w2.getD (Int.toNat v1) Message.dz).Term) ((w2.getD (Int.toNat v1) Message.dz).Index) ((w2.getD (Int.toNat v1) Message.dz).LogTerm) ((w2.getD (Int.toNat v1) Message.dz).Commit) ((w2.getD (Int.toNat v1) Message.dz).Entries) ((w2.getD (Int.toNat v1) Message.dz).Ok)))
   bif (decide (0≤v1)) then
   bif (decide (v1<(w3.length:Int))) then
   (let w4:List Message:=(w3.set (Int.toNat v1) (Message.mk ((w3.getD (Int.toNat v1) Message.dz).Kind) ((w3.getD (Int.toNat v1) Message.dz).From) ((w3.getD (Int.toNat v1) Message.dz).To) (w64 ((w64 ((w64 (v0+(1:Int)))+(1:Int)))+(1:Int))) ((w3.getD (Int.toNat v1) Message.dz).Index) ((w3.getD (Int.toNat v1) Message.dz).LogTerm) ((w3.getD (Int.toNat v1) Message.dz).Commit) ((w3.getD (Int.toNat v1) Message.dz).Entries) ((w3.getD (Int.toNat v1) Message.dz).Ok)))
   bif (decide (0≤v1)) then
   bif (decide (v1<(w4.length:Int))) then
   (let w5:List Message:=(w4.set (Int.toNat v1) (Message.mk ((w4.getD (Int.toNat v1) Message.dz).Kind) ((w4.getD (Int.toNat v1) Message.dz).From) ((w4.getD (Int.toNat v1) Message.dz).To) ((w4.getD (Int.toNat v1) Message.dz).Term) (w64 ((w64 ((w64 ((w64 (v0+(1:Int)))+(1:Int)))+(1:Int)))+(1:Int))) ((w4.getD (Int.toNat v1) Message.dz).LogTerm) ((w4.getD (Int.toNat v1) Message.dz).Commit) ((w4.getD (Int.toNat v1) Message.dz).Entries) ((w4.getD (Int.toNat v1) Message.dz).Ok)))
   bif (decide (0≤v1)) then
   bif (decide (v1<(w5.length:Int))) then
   (let w6:List Message:=(w5.set (Int.toNat v1) (Message.mk ((w5.getD (Int.toNat v1) Message.dz).Kind) ((w5.getD (Int.toNat v1) Message.dz).From) ((w5.getD (Int.toNat v1) Message.dz).To) ((w5.getD (Int.toNat v1) Message.dz).Term) ((w5.getD (Int.toNat v1) Message.dz).Index) (w64 ((w64 ((w64 ((w64 ((w64 (v0+(1:Int)))+(1:Int)))+(1:Int)))+(1:Int)))+(1:Int))) ((w5.getD (Int.toNat v1) Message.dz).Commit) ((w5.getD (Int.toNat v1) Message.dz).Entries) ((w5.getD (Int.toNat v1) Message.dz).Ok)))
   bif (decide (0≤v1)) then
   bif (decide (v1<(w6.length:Int))) then
   (let w7:List Message:=(w6.set (Int.toNat v1) (Message.mk ((w6.getD (Int.toNat v1) Message.dz).Kind) ((w6.getD (Int.toNat v1) Message.dz).From) ((w6.getD (Int.toNat v1) Message.dz).To) ((w6.getD (Int.toNat v1) Message.dz).Term) ((w6.getD (Int.toNat v1) Message.dz).Index) ((w6.getD (Int.toNat v1) Message.dz).LogTerm) (w64 ((w64 ((w64 ((w64 ((w64 ((w64 (v0+(1:Int)))+(1:Int)))+(1:Int)))+(1:Int)))+(1:Int)))+(1:Int))) ((w6.getD (Int.toNat v1) Message.dz).Entries) ((w6.getD (Int.toNat v1) Message.dz).Ok)))
   bif (decide (0≤v1)) then
   bif (decide (v1<(w7.length:Int))) then
   bif (decide ((Int.toNat v1)<w7.length)) then
   ob (laws_markEntryS.m N ((w7.getD (Int.toNat v1) Message.dz).Entries) (w64 ((w64 ((w64 ((w64 ((w64 ((w64 ((w64 (v0+(1:Int)))+(1:Int)))+(1:Int)))+(1:Int)))+(1:Int)))+(1:Int)))+(1:Int)))) fun y8=>
   (let w9:List Message:=(w7.set (Int.toNat v1) (Message.mk ((w7.getD (Int.toNat v1) Message.dz).Kind) ((w7.getD (Int.toNat v1) Message.dz).From) ((w7.getD (Int.toNat v1) Message.dz).To) ((w7.getD (Int.toNat v1) Message.dz).Term) ((w7.getD (Int.toNat v1) Message.dz).Index) ((w7.getD (Int.toNat v1) Message.dz).LogTerm) ((w7.getD (Int.toNat v1) Message.dz).Commit) y8.2 ((w7.getD (Int.toNat v1) Message.dz).Ok)))
   bif (!decide ((3:Int)=0)) then
   bif (decide (0≤v1)) then
   bif (decide (v1<(w9.length:Int))) then
   (let w10:List Message:=(w9.set (Int.toNat v1) (Message.mk ((w9.getD (Int.toNat v1) Message.dz).Kind) ((w9.getD (Int.toNat v1) Message.dz).From) ((w9.getD (Int.toNat v1) Message.dz).To) ((w9.getD (Int.toNat v1) Message.dz).Term) ((w9.getD (Int.toNat v1) Message.dz).Index) ((w9.getD (Int.toNat v1) Message.dz).LogTerm) ((w9.getD (Int.toNat v1) Message.dz).Commit) ((w9.getD (Int.toNat v1) Message.dz).Entries) ((Int.tmod y8.1 (3:Int))==(0:Int))))
   rec ((w64 (y8.1+(1:Int))),(w64 (v1+(1:Int))),w10))
   else none
   else none
   else none)
   else none
   else none
   else none)
   else none
   else none)
   else none
   else none)
   else none
   else none)
   else none
   else none)
   else none
   else none)
   else none
   else none)
   else none
   else none
  else
  some (v0,v2)
noncomputable def lp2 (N:Nat) (a0:List Message) (a1:Int):(Int×Int×(List Message))→Option R:=
 miter (fun rec=>step2 N a0 a1 rec) N
noncomputable def m0 (N:Nat) (a0:List Message) (a1:Int) (lp2:Int×Int×(List Message)→Option R):Option R:=
 lp2 (a1,(0:Int),a0)
@[reducible] noncomputable def m (N:Nat) (a0:List Message) (a1:Int):Option R:=m0 N a0 a1 (lp2 N a0 a1)
@[reducible] noncomputable def sp (N:Nat):Spec E:=⟨[.mut true (.slice 57 (.st 57)),.val (.int .i64)],[(.int .i64)],true,true,R,fun x=>m N x.1 x.2.1,fun r=>(r.1,()),fun r=>(r.2,(),()),fun a b=>(a.1,b.1),fun _ _=>rfl,fun _ _=>rfl⟩
end laws_markMessageS
namespace laws_heldEntryS
abbrev R:=Int
noncomputable def step2 (N:Nat) (a0:List Entry) (a1:Int) (rec:(Int×Int)→Option R):(Int×Int)→Option R
 | (v1,v2)=>
  bif (decide (v2<(a0.length:Int))) then
   bif (decide (0≤v2)) then
   bif (decide (v2<(a0.length:Int))) then
   bif ((a0.getD (Int.toNat v2) Entry.dz).Term != v1) then
    some (-1:Int)
   else
   bif (decide (0≤v2)) then
   bif (decide (v2<(a0.length:Int))) then
   bif ((a0.getD (Int.toNat v2) Entry.dz).Kind != (w64 (v1+(1:Int)))) then
    some (-1:Int)
   else
   bif (decide (0≤v2)) then
   bif (decide (v2<(a0.length:Int))) then
   ob (laws_markText.m N (w64 ((w64 (v1+(1:Int)))+(1:Int)))) fun y1=>
   bif (!seq ((a0.getD (Int.toNat v2) Entry.dz).Data) y1) then
    some (-1:Int)
   else
   rec ((w64 ((w64 ((w64 (v1+(1:Int)))+(1:Int)))+(1:Int))),(w64 (v2+(1:Int))))
   else none
   else none
   else none
   else none
   else none
   else none
  else
  some v1
noncomputable def lp2 (N:Nat) (a0:List Entry) (a1:Int):(Int×Int)→Option R:=
 miter (fun rec=>step2 N a0 a1 rec) N
noncomputable def m0 (N:Nat) (a0:List Entry) (a1:Int) (lp2:Int×Int→Option R):Option R:=
 lp2 (a1,(0:Int))
@[reducible] noncomputable def m (N:Nat) (a0:List Entry) (a1:Int):Option R:=m0 N a0 a1 (lp2 N a0 a1)
@[reducible] noncomputable def sp (N:Nat):Spec E:=⟨[.val (.slice 69 (.st 69)),.val (.int .i64)],[(.int .i64)],true,false,R,fun x=>m N x.1 x.2.1,fun r=>(r,()),fun r=>((),(),()),fun a b=>a.1,fun _ _=>rfl,fun _ _=>rfl⟩
end laws_heldEntryS
namespace laws_heldIntS
abbrev R:=Int
noncomputable def step2 (N:Nat) (a0:List Int) (a1:Int) (rec:(Int×Int)→Option R):(Int×Int)→Option R
 | (v1,v2)=>
  bif (decide (v2<(a0.length:Int))) then
   bif (decide (0≤v2)) then
   bif (decide (v2<(a0.length:Int))) then
   bif ((a0.getD (Int.toNat v2) (0:Int)) != v1) then
    some (-1:Int)
   else
   rec ((w64 (v1+(1:Int))),(w64 (v2+(1:Int))))
   else none
   else none
  else
  some v1
noncomputable def lp2 (N:Nat) (a0:List Int) (a1:Int):(Int×Int)→Option R:=
 miter (fun rec=>step2 N a0 a1 rec) N
noncomputable def m0 (N:Nat) (a0:List Int) (a1:Int) (lp2:Int×Int→Option R):Option R:=
 lp2 (a1,(0:Int))
@[reducible] noncomputable def m (N:Nat) (a0:List Int) (a1:Int):Option R:=m0 N a0 a1 (lp2 N a0 a1)
@[reducible] noncomputable def sp (N:Nat):Spec E:=⟨[.val (.slice 3 (.int .i64)),.val (.int .i64)],[(.int .i64)],true,false,R,fun x=>m N x.1 x.2.1,fun r=>(r,()),fun r=>((),(),()),fun a b=>a.1,fun _ _=>rfl,fun _ _=>rfl⟩
end laws_heldIntS
end Mir.Y
