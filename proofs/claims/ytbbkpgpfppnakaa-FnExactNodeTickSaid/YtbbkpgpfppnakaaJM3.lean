/- Models of functions. -/
import Derived.Test.YtbbkpgpfppnakaaJM2
namespace Mir.Y
set_option linter.unusedVariables false
set_option maxRecDepth 10000
open Go Go.Proofs Mir
namespace laws_heldNode
abbrev R:=Int
noncomputable def m (N:Nat) (a0:Node) (a1:Int):Option R:=
 ob (laws_heldEntryS.m N a0.Log a1) fun y1=>
 bif (decide (y1<(0:Int))) then
  some (-1:Int)
 else
 ob (laws_heldIntS.m N a0.Start y1) fun y2=>
 bif (decide (y2<(0:Int))) then
  some (-1:Int)
 else
 ob (laws_heldIntS.m N a0.Votes y2) fun y3=>
 bif (decide (y3<(0:Int))) then
  some (-1:Int)
 else
 ob (laws_heldIntS.m N a0.Next y3) fun y4=>
 bif (decide (y4<(0:Int))) then
  some (-1:Int)
 else
 ob (laws_heldIntS.m N a0.Match y4) fun y5=>
 bif (decide (y5<(0:Int))) then
  some (-1:Int)
 else
 some y5
@[reducible] noncomputable def sp (N:Nat):Spec E:=⟨[.val (.st 29),.val (.int .i64)],[(.int .i64)],true,false,R,fun x=>m N x.1 x.2.1,fun r=>(r,()),fun r=>((),(),()),fun a b=>a.1,fun _ _=>rfl,fun _ _=>rfl⟩
end laws_heldNode
namespace laws_heldMessageS
abbrev R:=Int
noncomputable def step2 (N:Nat) (a0:List Message) (a1:Int) (rec:(Int×Int)→Option R):(Int×Int)→Option R
 | (v1,v2)=>
  bif (decide (v2<(a0.length:Int))) then
   bif (decide (0≤v2)) then
   bif (decide (v2<(a0.length:Int))) then
   bif ((a0.getD (Int.toNat v2) Message.dz).Kind != v1) then
    some (-1:Int)
   else
   bif (decide (0≤v2)) then
   bif (decide (v2<(a0.length:Int))) then
   bif ((a0.getD (Int.toNat v2) Message.dz).From != (w64 (v1+(1:Int)))) then
    some (-1:Int)
   else
   bif (decide (0≤v2)) then
   bif (decide (v2<(a0.length:Int))) then
   bif ((a0.getD (Int.toNat v2) Message.dz).To != (w64 ((w64 (v1+(1:Int)))+(1:Int)))) then
    some (-1:Int)
   else
   bif (decide (0≤v2)) then
   bif (decide (v2<(a0.length:Int))) then
   bif ((a0.getD (Int.toNat v2) Message.dz).Term != (w64 ((w64 ((w64 (v1+(1:Int)))+(1:Int)))+(1:Int)))) then
    some (-1:Int)
   else
   bif (decide (0≤v2)) then
   bif (decide (v2<(a0.length:Int))) then
   bif ((a0.getD (Int.toNat v2) Message.dz).Index != (w64 ((w64 ((w64 ((w64 (v1+(1:Int)))+(1:Int)))+(1:Int)))+(1:Int)))) then
    some (-1:Int)
   else
   bif (decide (0≤v2)) then
   bif (decide (v2<(a0.length:Int))) then
   (let w1:Bool:=((a0.getD (Int.toNat v2) Message.dz).LogTerm != (w64 ((w64 ((w64 ((w64 ((w64 (v1+(1:Int)))+(1:Int)))+(1:Int)))+(1:Int)))+(1:Int))))
   bif w1 then
    some (-1:Int)
   else
   bif (decide (0≤v2)) then
   bif (decide (v2<(a0.length:Int))) then
   (let w2:Bool:=((a0.getD (Int.toNat v2) Message.dz).Commit != (w64 ((w64 ((w64 ((w64 ((w64 ((w64 (v1+(1:Int)))+(1:Int)))+(1:Int)))+(1:Int)))+(1:Int)))+(1:Int))))
   bif w2 then
    some (-1:Int)
   else
   bif (decide (0≤v2)) then
   bif (decide (v2<(a0.length:Int))) then
   ob (laws_heldEntryS.m N ((a0.getD (Int.toNat v2) Message.dz).Entries) (w64 ((w64 ((w64 ((w64 ((w64 ((w64 ((w64 (v1+(1:Int)))+(1:Int)))+(1:Int)))+(1:Int)))+(1:Int)))+(1:Int)))+(1:Int)))) fun y3=>
   bif (decide (y3<(0:Int))) then
    some (-1:Int)
   else
   bif (decide (0≤v2)) then
   bif (decide (v2<(a0.length:Int))) then
   bif (!decide ((3:Int)=0)) then
   bif (!((a0.getD (Int.toNat v2) Message.dz).Ok==((Int.tmod y3 (3:Int))==(0:Int)))) then
    some (-1:Int)
   else
   rec ((w64 (y3+(1:Int))),(w64 (v2+(1:Int))))
   else none
   else none
   else none
   else none
   else none)
   else none
   else none)
   else none
   else none
   else none
   else none
   else none
   else none
   else none
   else none
   else none
   else none
   else none
   else none
  else
  some v1
noncomputable def lp2 (N:Nat) (a0:List Message) (a1:Int):(Int×Int)→Option R:=
 miter (fun rec=>step2 N a0 a1 rec) N
noncomputable def m0 (N:Nat) (a0:List Message) (a1:Int) (lp2:Int×Int→Option R):Option R:=
 lp2 (a1,(0:Int))
@[reducible] noncomputable def m (N:Nat) (a0:List Message) (a1:Int):Option R:=m0 N a0 a1 (lp2 N a0 a1)
@[reducible] noncomputable def sp (N:Nat):Spec E:=⟨[.val (.slice 57 (.st 57)),.val (.int .i64)],[(.int .i64)],true,false,R,fun x=>m N x.1 x.2.1,fun r=>(r,()),fun r=>((),(),()),fun a b=>a.1,fun _ _=>rfl,fun _ _=>rfl⟩
end laws_heldMessageS
namespace laws_FnExactNodeTick
abbrev R:=Bool
noncomputable def m (N:Nat) (a0:Node) (a1:Int):Option R:=
 ob (laws_szNode.m N (Node.mk a0.Id a0.Term a0.Vote a0.Log a0.Start a0.Role a0.Votes a0.Next a0.Match a0.Commit a0.Elapsed a0.Wait a0.Up) (1048576:Int)) fun y1=>
 bif (decide (y1<(0:Int))) then
  some true
 else
 ob (laws_toNode.m N (Node.mk a0.Id a0.Term a0.Vote a0.Log a0.Start a0.Role a0.Votes a0.Next a0.Match a0.Commit a0.Elapsed a0.Wait a0.Up)) fun y2=>
 ob (spec_NodeTick.m N (Node.mk y2.Id y2.Term y2.Vote y2.Log y2.Start y2.Role y2.Votes y2.Next y2.Match y2.Commit y2.Elapsed y2.Wait y2.Up) a1) fun y3=>
 ob (laws_toNode.m N a0) fun y4=>
 ob (impl_NodeTick.m N (Node.mk y4.Id y4.Term y4.Vote y4.Log y4.Start y4.Role y4.Votes y4.Next y4.Match y4.Commit y4.Elapsed y4.Wait y4.Up) a1) fun y5=>
 ob (laws_eqNode.m N y5.1 y3.1) fun y6=>
 bif (!y6) then
  some false
 else
 ob (laws_eqMessageS.m N y5.2.1 y3.2.1) fun y7=>
 bif (bif false then true else (!y7)) then
  some false
 else
 bif (bif false then true else (y5.2.2 != y3.2.2)) then
  some false
 else
 ob (laws_toNode.m N (Node.mk a0.Id a0.Term a0.Vote a0.Log a0.Start a0.Role a0.Votes a0.Next a0.Match a0.Commit a0.Elapsed a0.Wait a0.Up)) fun y8=>
 ob (laws_eqNode.m N (Node.mk y4.Id y4.Term y4.Vote y4.Log y4.Start y4.Role y4.Votes y4.Next y4.Match y4.Commit y4.Elapsed y4.Wait y4.Up) y8) fun y9=>
 bif (!y9) then
  some false
 else
 ob (laws_markNode.m N (Node.mk y4.Id y4.Term y4.Vote y4.Log y4.Start y4.Role y4.Votes y4.Next y4.Match y4.Commit y4.Elapsed y4.Wait y4.Up) (1:Int)) fun y10=>
 bif (decide (y10.1<(0:Int))) then
  some false
 else
 ob (laws_eqNode.m N y5.1 y3.1) fun y11=>
 bif (bif false then true else (!y11)) then
  some false
 else
 ob (laws_eqMessageS.m N y5.2.1 y3.2.1) fun y12=>
 bif (bif false then true else (!y12)) then
  some false
 else
 bif (bif false then true else (y5.2.2 != y3.2.2)) then
  some false
 else
 ob (laws_markNode.m N y5.1 (1:Int)) fun y13=>
 ob (laws_markMessageS.m N y5.2.1 y13.1) fun y14=>
 ob (laws_heldNode.m N (Node.mk y5.1.Id y5.1.Term y5.1.Vote y13.2.Log y13.2.Start y5.1.Role y13.2.Votes y13.2.Next y13.2.Match y5.1.Commit y5.1.Elapsed y5.1.Wait y5.1.Up) (1:Int)) fun y15=>
 bif (decide (y15<(0:Int))) then
  some false
 else
 ob (laws_heldMessageS.m N y14.2 y15) fun y16=>
 bif (decide (y16<(0:Int))) then
  some false
 else
 bif (y16 != y14.1) then
  some false
 else
 ob (laws_toNode.m N a0) fun y17=>
 ob (impl_NodeTick.m N y17 a1) fun y18=>
 ob (laws_eqNode.m N y18.1 y3.1) fun y19=>
 bif (!y19) then
  some false
 else
 ob (laws_eqMessageS.m N y18.2.1 y3.2.1) fun y20=>
 bif (bif false then true else (!y20)) then
  some false
 else
 bif (bif false then true else (y18.2.2 != y3.2.2)) then
  some false
 else
 ob (laws_heldNode.m N (Node.mk y5.1.Id y5.1.Term y5.1.Vote y13.2.Log y13.2.Start y5.1.Role y13.2.Votes y13.2.Next y13.2.Match y5.1.Commit y5.1.Elapsed y5.1.Wait y5.1.Up) (1:Int)) fun y21=>
 bif (decide (y21<(0:Int))) then
  some false
 else
 ob (laws_heldMessageS.m N y14.2 y21) fun y22=>
 bif (decide (y22<(0:Int))) then
  some false
 else
 bif (y22 != y14.1) then
  some false
 else
 some true
@[reducible] noncomputable def sp (N:Nat):Spec E:=⟨[.val (.st 25),.val (.int .i64)],[.bool],true,false,R,fun x=>m N x.1 x.2.1,fun r=>(r,()),fun r=>((),(),()),fun a b=>a.1,fun _ _=>rfl,fun _ _=>rfl⟩
end laws_FnExactNodeTick
end Mir.Y
