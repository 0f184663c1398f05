/- Models of functions. -/
import Derived.Test.YtcgniikapdcfmaaRCM1
namespace Mir.Y
set_option linter.unusedVariables false
set_option maxRecDepth 10000
open Go Go.Proofs Mir
namespace spec_l10Answer
abbrev R:=Node×(List Message)
noncomputable def m (N:Nat) (a0:Node) (a1:Message):Option R:=
 bif (a0.Role != (2:Int)) then
  some (a0,([]:List Message))
 else
 bif (bif false then true else (a1.Term != a0.Term)) then
  some (a0,([]:List Message))
 else
 bif (!a1.Ok) then
  bif (decide (0≤a1.From)) then
  bif (decide (a1.From<(a0.Match.length:Int))) then
  bif (decide (0≤a1.From)) then
  bif (decide (a1.From<(a0.Next.length:Int))) then
  (let w1:Int:=(if (w64 (a1.Index+(1:Int)))<(w64 ((a0.Next.getD (Int.toNat a1.From) (0:Int)) - (1:Int))) then (w64 (a1.Index+(1:Int))) else (w64 ((a0.Next.getD (Int.toNat a1.From) (0:Int)) - (1:Int))))
  (let w2:Int:=(if (w64 ((a0.Match.getD (Int.toNat a1.From) (0:Int))+(1:Int)))<w1 then w1 else (w64 ((a0.Match.getD (Int.toNat a1.From) (0:Int))+(1:Int))))
  bif (decide (0≤a1.From)) then
  bif (decide (a1.From<(a0.Next.length:Int))) then
  ob (spec_l10Append.m N (Node.mk a0.Id a0.Term a0.Vote a0.Log a0.Start a0.Role a0.Votes (a0.Next.set (Int.toNat a1.From) w2) a0.Match a0.Commit a0.Elapsed a0.Wait a0.Up) a1.From) fun y3=>
  some ((Node.mk a0.Id a0.Term a0.Vote a0.Log a0.Start a0.Role a0.Votes (a0.Next.set (Int.toNat a1.From) w2) a0.Match a0.Commit a0.Elapsed a0.Wait a0.Up),[y3])
  else none
  else none))
  else none
  else none
  else none
  else none
 else
 bif (decide (0≤a1.From)) then
 bif (decide (a1.From<(a0.Match.length:Int))) then
 (let w4:Int:=(if (a0.Match.getD (Int.toNat a1.From) (0:Int))<(if (a0.Log.length:Int)<a1.Index then (a0.Log.length:Int) else a1.Index) then (if (a0.Log.length:Int)<a1.Index then (a0.Log.length:Int) else a1.Index) else (a0.Match.getD (Int.toNat a1.From) (0:Int)))
 bif (decide (0≤a1.From)) then
 bif (decide (a1.From<(a0.Match.length:Int))) then
 bif (decide (0≤a1.From)) then
 bif (decide (a1.From<(a0.Next.length:Int))) then
 bif (decide (0≤a1.From)) then
 bif (decide (a1.From<((a0.Match.set (Int.toNat a1.From) w4).length:Int))) then
 (let w5:Int:=(if (a0.Next.getD (Int.toNat a1.From) (0:Int))<(w64 (((a0.Match.set (Int.toNat a1.From) w4).getD (Int.toNat a1.From) (0:Int))+(1:Int))) then (w64 (((a0.Match.set (Int.toNat a1.From) w4).getD (Int.toNat a1.From) (0:Int))+(1:Int))) else (a0.Next.getD (Int.toNat a1.From) (0:Int)))
 bif (decide (0≤a1.From)) then
 bif (decide (a1.From<(a0.Next.length:Int))) then
 ob (spec_l10Advance.m N (Node.mk a0.Id a0.Term a0.Vote a0.Log a0.Start a0.Role a0.Votes (a0.Next.set (Int.toNat a1.From) w5) (a0.Match.set (Int.toNat a1.From) w4) a0.Commit a0.Elapsed a0.Wait a0.Up)) fun y6=>
 some (y6,([]:List Message))
 else none
 else none)
 else none
 else none
 else none
 else none
 else none
 else none)
 else none
 else none
@[reducible] noncomputable def sp (N:Nat):Spec E:=⟨[.mov false (.st 26),.val (.st 97)],[(.st 26),(.slice 97 (.st 97))],false,false,R,fun x=>m N x.1 x.2.1,fun r=>(r.1,r.2,()),fun r=>((),(),()),fun a b=>(a.1,a.2.1),fun _ _=>rfl,fun _ _=>rfl⟩
end spec_l10Answer
namespace spec_l10Take
abbrev R:=Node×(List Message)
noncomputable def m (N:Nat) (a0:Node) (a1:Message):Option R:=
 ob (spec_l10Own.m N a0) fun y1=>
 bif (decide (a1.Term > y1.Term)) then
  ob (spec_l10Down.m N (Node.mk y1.Id a1.Term (-1:Int) y1.Log y1.Start y1.Role y1.Votes y1.Next y1.Match y1.Commit y1.Elapsed y1.Wait y1.Up)) fun y2=>
  bif (a1.Kind==(1:Int)) then
   ob (spec_l10Vote.m N y2 a1) fun y3=>
   some (y3.1,y3.2)
  else
  bif (a1.Kind==(2:Int)) then
   ob (spec_l10Voted.m N (Node.mk y2.Id y2.Term y2.Vote y2.Log y2.Start y2.Role y2.Votes y2.Next y2.Match y2.Commit y2.Elapsed y2.Wait y2.Up) a1) fun y4=>
   some (y4.1,y4.2)
  else
  bif (a1.Kind==(3:Int)) then
   ob (spec_l10Entries.m N y2 a1) fun y5=>
   some (y5.1,y5.2)
  else
  ob (spec_l10Answer.m N y2 a1) fun y6=>
  some (y6.1,y6.2)
 else
 bif (a1.Kind==(1:Int)) then
  ob (spec_l10Vote.m N y1 a1) fun y7=>
  some (y7.1,y7.2)
 else
 bif (a1.Kind==(2:Int)) then
  ob (spec_l10Voted.m N y1 a1) fun y8=>
  some (y8.1,y8.2)
 else
 bif (a1.Kind==(3:Int)) then
  ob (spec_l10Entries.m N y1 a1) fun y9=>
  some (y9.1,y9.2)
 else
 ob (spec_l10Answer.m N y1 a1) fun y10=>
 some (y10.1,y10.2)
@[reducible] noncomputable def sp (N:Nat):Spec E:=⟨[.val (.st 26),.val (.st 97)],[(.st 26),(.slice 97 (.st 97))],false,false,R,fun x=>m N x.1 x.2.1,fun r=>(r.1,r.2,()),fun r=>((),(),()),fun a b=>(a.1,a.2.1),fun _ _=>rfl,fun _ _=>rfl⟩
end spec_l10Take
namespace spec_l11Set
abbrev R:=Group
inductive A14 where
 | s0 (v1:Int) (v2:List Node) (v3:List Message) (v4:List Lead) (v5:List Done)
 | s1 (v1:Int) (v3:List Node) (v4:List Message) (v5:List Done)
noncomputable def step6 (N:Nat) (a0:Group) (a1:Int) (a2:Node) (a3:List Message) (lp14:A14→Option R) (rec:(Int×(List Node)×(List Message)×Int×Int×Int×(List Entry)×(List Int)×Int×(List Int)×(List Int)×(List Int)×Int×Int×Int×Bool)→Option R):(Int×(List Node)×(List Message)×Int×Int×Int×(List Entry)×(List Int)×Int×(List Int)×(List Int)×(List Int)×Int×Int×Int×Bool)→Option R
 | (v2,v5,v6,v20,v21,v22,v23,v24,v25,v26,v27,v28,v29,v30,v31,v32)=>
  bif (decide (v2<(a3.length:Int))) then
   bif (bif true then (decide ((v6.length:Int)<(60:Int))) else false) then
    bif (decide (0≤v2)) then
    bif (decide (v2<(a3.length:Int))) then
    bif (room (v6.length+([(a3.getD (Int.toNat v2) Message.dz)]).length) 88) then
    rec ((w64 (v2+(1:Int))),v5,(v6++[(a3.getD (Int.toNat v2) Message.dz)]),v20,v21,v22,v23,v24,v25,v26,v27,v28,v29,v30,v31,v32)
    else none
    else none
    else none
   else
   bif (a2.Role==(2:Int)) then
    bif (v25 != (2:Int)) then
     bif (bif true then true else false) then
      bif (room (([]:List Lead).length+a0.Leads.length) 40) then
      bif (room (([]:List Entry).length+a2.Log.length) 32) then
      bif (room ((([]:List Lead)++a0.Leads).length+([(Lead.mk a2.Term a1 (([]:List Entry)++a2.Log))]).length) 40) then
      bif (decide (a2.Commit > v29)) then
       bif (room (([]:List Done).length+a0.Dones.length) 56) then
       lp14 (.s0 (w64 (v29+(1:Int))) v5 v6 ((([]:List Lead)++a0.Leads)++[(Lead.mk a2.Term a1 (([]:List Entry)++a2.Log))]) (([]:List Done)++a0.Dones))
       else none
      else
      some (Group.mk v5 v6 ((([]:List Lead)++a0.Leads)++[(Lead.mk a2.Term a1 (([]:List Entry)++a2.Log))]) a0.Dones)
      else none
      else none
      else none
     else
     bif (decide (a2.Commit > v29)) then
      bif (room (([]:List Done).length+a0.Dones.length) 56) then
      lp14 (.s1 (w64 (v29+(1:Int))) v5 v6 (([]:List Done)++a0.Dones))
      else none
     else
     some (Group.mk v5 v6 a0.Leads a0.Dones)
    else
    bif (bif true then (bif false then true else (v21 != a2.Term)) else false) then
     bif (room (([]:List Lead).length+a0.Leads.length) 40) then
     bif (room (([]:List Entry).length+a2.Log.length) 32) then
     bif (room ((([]:List Lead)++a0.Leads).length+([(Lead.mk a2.Term a1 (([]:List Entry)++a2.Log))]).length) 40) then
     bif (decide (a2.Commit > v29)) then
      bif (room (([]:List Done).length+a0.Dones.length) 56) then
      lp14 (.s0 (w64 (v29+(1:Int))) v5 v6 ((([]:List Lead)++a0.Leads)++[(Lead.mk a2.Term a1 (([]:List Entry)++a2.Log))]) (([]:List Done)++a0.Dones))
      else none
     else
     some (Group.mk v5 v6 ((([]:List Lead)++a0.Leads)++[(Lead.mk a2.Term a1 (([]:List Entry)++a2.Log))]) a0.Dones)
     else none
     else none
     else none
    else
    bif (decide (a2.Commit > v29)) then
     bif (room (([]:List Done).length+a0.Dones.length) 56) then
     lp14 (.s1 (w64 (v29+(1:Int))) v5 v6 (([]:List Done)++a0.Dones))
     else none
    else
    some (Group.mk v5 v6 a0.Leads a0.Dones)
   else
   bif (decide (a2.Commit > v29)) then
    bif (room (([]:List Done).length+a0.Dones.length) 56) then
    lp14 (.s1 (w64 (v29+(1:Int))) v5 v6 (([]:List Done)++a0.Dones))
    else none
   else
   some (Group.mk v5 v6 a0.Leads a0.Dones)
  else
  bif (a2.Role==(2:Int)) then
   bif (v25 != (2:Int)) then
    bif (bif true then true else false) then
     bif (room (([]:List Lead).length+a0.Leads.length) 40) then
     bif (room (([]:List Entry).length+a2.Log.length) 32) then
     bif (room ((([]:List Lead)++a0.Leads).length+([(Lead.mk a2.Term a1 (([]:List Entry)++a2.Log))]).length) 40) then
     bif (decide (a2.Commit > v29)) then
      bif (room (([]:List Done).length+a0.Dones.length) 56) then
      lp14 (.s0 (w64 (v29+(1:Int))) v5 v6 ((([]:List Lead)++a0.Leads)++[(Lead.mk a2.Term a1 (([]:List Entry)++a2.Log))]) (([]:List Done)++a0.Dones))
      else none
     else
     some (Group.mk v5 v6 ((([]:List Lead)++a0.Leads)++[(Lead.mk a2.Term a1 (([]:List Entry)++a2.Log))]) a0.Dones)
     else none
     else none
     else none
    else
    bif (decide (a2.Commit > v29)) then
     bif (room (([]:List Done).length+a0.Dones.length) 56) then
     lp14 (.s1 (w64 (v29+(1:Int))) v5 v6 (([]:List Done)++a0.Dones))
     else none
    else
    some (Group.mk v5 v6 a0.Leads a0.Dones)
   else
   bif (bif true then (bif false then true else (v21 != a2.Term)) else false) then
    bif (room (([]:List Lead).length+a0.Leads.length) 40) then
    bif (room (([]:List Entry).length+a2.Log.length) 32) then
    bif (room ((([]:List Lead)++a0.Leads).length+([(Lead.mk a2.Term a1 (([]:List Entry)++a2.Log))]).length) 40) then
    bif (decide (a2.Commit > v29)) then
     bif (room (([]:List Done).length+a0.Dones.length) 56) then
     lp14 (.s0 (w64 (v29+(1:Int))) v5 v6 ((([]:List Lead)++a0.Leads)++[(Lead.mk a2.Term a1 (([]:List Entry)++a2.Log))]) (([]:List Done)++a0.Dones))
     else none
    else
    some (Group.mk v5 v6 ((([]:List Lead)++a0.Leads)++[(Lead.mk a2.Term a1 (([]:List Entry)++a2.Log))]) a0.Dones)
    else none
    else none
    else none
   else
   bif (decide (a2.Commit > v29)) then
    bif (room (([]:List Done).length+a0.Dones.length) 56) then
    lp14 (.s1 (w64 (v29+(1:Int))) v5 v6 (([]:List Done)++a0.Dones))
    else none
   else
   some (Group.mk v5 v6 a0.Leads a0.Dones)
  else
  bif (decide (a2.Commit > v29)) then
   bif (room (([]:List Done).length+a0.Dones.length) 56) then
   lp14 (.s1 (w64 (v29+(1:Int))) v5 v6 (([]:List Done)++a0.Dones))
   else none
  else
  some (Group.mk v5 v6 a0.Leads a0.Dones)
noncomputable def step14 (N:Nat) (a0:Group) (a1:Int) (a2:Node) (a3:List Message) (rec:A14→Option R):A14→Option R
 | .s0 v1 v2 v3 v4 v5=>
  bif (decide (v1≤a2.Commit)) then
   bif (decide (0≤(w64 (v1 - (1:Int))))) then
   bif (decide ((w64 (v1 - (1:Int)))<(a2.Log.length:Int))) then
   bif (room (v5.length+([(Done.mk a1 a2.Term v1 (a2.Log.getD (Int.toNat (w64 (v1 - (1:Int)))) Entry.dz))]).length) 56) then
   rec (.s0 (w64 (v1+(1:Int))) v2 v3 v4 (v5++[(Done.mk a1 a2.Term v1 (a2.Log.getD (Int.toNat (w64 (v1 - (1:Int)))) Entry.dz))]))
   else none
   else none
   else none
  else
  some (Group.mk v2 v3 v4 v5)
 | .s1 v1 v3 v4 v5=>
  bif (decide (v1≤a2.Commit)) then
   bif (decide (0≤(w64 (v1 - (1:Int))))) then
   bif (decide ((w64 (v1 - (1:Int)))<(a2.Log.length:Int))) then
   bif (room (v5.length+([(Done.mk a1 a2.Term v1 (a2.Log.getD (Int.toNat (w64 (v1 - (1:Int)))) Entry.dz))]).length) 56) then
   rec (.s1 (w64 (v1+(1:Int))) v3 v4 (v5++[(Done.mk a1 a2.Term v1 (a2.Log.getD (Int.toNat (w64 (v1 - (1:Int)))) Entry.dz))]))
   else none
   else none
   else none
  else
  some (Group.mk v3 v4 a0.Leads v5)
noncomputable def lp14 (N:Nat) (a0:Group) (a1:Int) (a2:Node) (a3:List Message):A14→Option R:=
 miter (fun rec=>step14 N a0 a1 a2 a3 rec) N
noncomputable def lp6 (N:Nat) (a0:Group) (a1:Int) (a2:Node) (a3:List Message):(Int×(List Node)×(List Message)×Int×Int×Int×(List Entry)×(List Int)×Int×(List Int)×(List Int)×(List Int)×Int×Int×Int×Bool)→Option R:=
 miter (fun rec=>step6 N a0 a1 a2 a3 (lp14 N a0 a1 a2 a3) rec) N
noncomputable def m0 (N:Nat) (a0:Group) (a1:Int) (a2:Node) (a3:List Message) (lp6:Int×(List Node)×(List Message)×Int×Int×Int×(List Entry)×(List Int)×Int×(List Int)×(List Int)×(List Int)×Int×Int×Int×Bool→Option R):Option R:=
 bif (decide (0≤a1)) then
 bif (decide (a1<(a0.Nodes.length:Int))) then
 bif (room (([]:List Node).length+a0.Nodes.length) 184) then
 bif (decide (0≤a1)) then
 bif (decide (a1<((([]:List Node)++a0.Nodes).length:Int))) then
 bif (room (([]:List Message).length+a0.Wire.length) 88) then
 lp6 ((0:Int),((([]:List Node)++a0.Nodes).set (Int.toNat a1) a2),(([]:List Message)++a0.Wire),(a0.Nodes.getD (Int.toNat a1) Node.dz).Id,(a0.Nodes.getD (Int.toNat a1) Node.dz).Term,(a0.Nodes.getD (Int.toNat a1) Node.dz).Vote,(a0.Nodes.getD (Int.toNat a1) Node.dz).Log,(a0.Nodes.getD (Int.toNat a1) Node.dz).Start,(a0.Nodes.getD (Int.toNat a1) Node.dz).Role,(a0.Nodes.getD (Int.toNat a1) Node.dz).Votes,(a0.Nodes.getD (Int.toNat a1) Node.dz).Next,(a0.Nodes.getD (Int.toNat a1) Node.dz).Match,(a0.Nodes.getD (Int.toNat a1) Node.dz).Commit,(a0.Nodes.getD (Int.toNat a1) Node.dz).Elapsed,(a0.Nodes.getD (Int.toNat a1) Node.dz).Wait,(a0.Nodes.getD (Int.toNat a1) Node.dz).Up)
 else none
 else none
 else none
 else none
 else none
 else none
@[reducible] noncomputable def m (N:Nat) (a0:Group) (a1:Int) (a2:Node) (a3:List Message):Option R:=m0 N a0 a1 a2 a3 (lp6 N a0 a1 a2 a3)
@[reducible] noncomputable def sp (N:Nat):Spec E:=⟨[.val (.st 52),.val (.int .i64),.val (.st 26),.val (.slice 97 (.st 97))],[(.st 52)],false,false,R,fun x=>m N x.1 x.2.1 x.2.2.1 x.2.2.2.1,fun r=>(r,()),fun r=>((),(),(),(),()),fun a b=>a.1,fun _ _=>rfl,fun _ _=>rfl⟩
end spec_l11Set
namespace spec_l11Wire
abbrev R:=Group×Int
noncomputable def m (N:Nat) (a0:Group) (a1:GroupAct):Option R:=
 ob (spec_l01In.m N a1.N (0:Int) (w64 ((a0.Wire.length:Int) - (1:Int)))) fun y1=>
 bif (!y1) then
  some (a0,(4:Int))
 else
 bif (decide (0≤a1.N)) then
 bif (decide (a1.N<(a0.Wire.length:Int))) then
 bif (a1.Kind==(4:Int)) then
  bif ((a0.Wire.length:Int)==(60:Int)) then
   some (a0,(7:Int))
  else
  bif (room (([]:List Message).length+a0.Wire.length) 88) then
  bif (room ((([]:List Message)++a0.Wire).length+([(a0.Wire.getD (Int.toNat a1.N) Message.dz)]).length) 88) then
  some ((Group.mk a0.Nodes ((([]:List Message)++a0.Wire)++[(a0.Wire.getD (Int.toNat a1.N) Message.dz)]) a0.Leads a0.Dones),(0:Int))
  else none
  else none
 else
 bif (decide (0≤a1.N)) then
 bif (decide (a1.N≤((a0.Wire.length:Nat):Int))) then
 bif (room (([]:List Message).length+(a0.Wire.take (Int.toNat a1.N)).length) 88) then
 bif (decide (0≤(w64 (a1.N+(1:Int))))) then
 bif (decide ((w64 (a1.N+(1:Int)))≤((a0.Wire.length:Nat):Int))) then
 bif (room ((([]:List Message)++(a0.Wire.take (Int.toNat a1.N))).length+(a0.Wire.drop (Int.toNat (w64 (a1.N+(1:Int))))).length) 88) then
 bif (a1.Kind==(3:Int)) then
  some ((Group.mk a0.Nodes ((([]:List Message)++(a0.Wire.take (Int.toNat a1.N)))++(a0.Wire.drop (Int.toNat (w64 (a1.N+(1:Int)))))) a0.Leads a0.Dones),(0:Int))
 else
 bif (bif false then true else (decide ((a0.Wire.getD (Int.toNat a1.N) Message.dz).To≥(a0.Nodes.length:Int)))) then
  some ((Group.mk a0.Nodes ((([]:List Message)++(a0.Wire.take (Int.toNat a1.N)))++(a0.Wire.drop (Int.toNat (w64 (a1.N+(1:Int)))))) a0.Leads a0.Dones),(0:Int))
 else
 bif (decide (0≤(a0.Wire.getD (Int.toNat a1.N) Message.dz).To)) then
 bif (decide ((a0.Wire.getD (Int.toNat a1.N) Message.dz).To<(a0.Nodes.length:Int))) then
 bif (bif false then true else (!((a0.Nodes.getD (Int.toNat ((a0.Wire.getD (Int.toNat a1.N) Message.dz).To)) Node.dz).Up))) then
  some ((Group.mk a0.Nodes ((([]:List Message)++(a0.Wire.take (Int.toNat a1.N)))++(a0.Wire.drop (Int.toNat (w64 (a1.N+(1:Int)))))) a0.Leads a0.Dones),(0:Int))
 else
 bif (decide (0≤(a0.Wire.getD (Int.toNat a1.N) Message.dz).To)) then
 bif (decide ((a0.Wire.getD (Int.toNat a1.N) Message.dz).To<(a0.Nodes.length:Int))) then
 ob (spec_l10Take.m N (a0.Nodes.getD (Int.toNat ((a0.Wire.getD (Int.toNat a1.N) Message.dz).To)) Node.dz) (a0.Wire.getD (Int.toNat a1.N) Message.dz)) fun y2=>
 ob (spec_l11Set.m N (Group.mk a0.Nodes ((([]:List Message)++(a0.Wire.take (Int.toNat a1.N)))++(a0.Wire.drop (Int.toNat (w64 (a1.N+(1:Int)))))) a0.Leads a0.Dones) ((a0.Wire.getD (Int.toNat a1.N) Message.dz).To) y2.1 y2.2) fun y3=>
 some (y3,(0:Int))
 else none
 else none
 else none
 else none
 else none
 else none
 else none
 else none
 else none
 else none
 else none
 else none
@[reducible] noncomputable def sp (N:Nat):Spec E:=⟨[.val (.st 52),.val (.st 84)],[(.st 52),(.int .i64)],false,false,R,fun x=>m N x.1 x.2.1,fun r=>(r.1,r.2,()),fun r=>((),(),()),fun a b=>(a.1,a.2.1),fun _ _=>rfl,fun _ _=>rfl⟩
end spec_l11Wire
namespace spec_l10Crash
abbrev R:=Node
noncomputable def m (N:Nat) (a0:Node):Option R:=
 ob (spec_l10New.m N a0.Id a0.Start) fun y1=>
 bif (room (([]:List Entry).length+a0.Log.length) 32) then
 some (Node.mk y1.Id a0.Term a0.Vote (([]:List Entry)++a0.Log) y1.Start y1.Role y1.Votes y1.Next y1.Match y1.Commit y1.Elapsed a0.Wait false)
 else none
@[reducible] noncomputable def sp (N:Nat):Spec E:=⟨[.val (.st 26)],[(.st 26)],true,false,R,fun x=>m N x.1,fun r=>(r,()),fun r=>((),()),fun a b=>a.1,fun _ _=>rfl,fun _ _=>rfl⟩
end spec_l10Crash
namespace spec_l10Elect
abbrev R:=Node×(List Message)
noncomputable def step12 (N:Nat) (a0:Node) (a1:Int) (rec:((List Int)×Int×Int×Int×Int×Int×(List Entry)×(List Int)×(List Int)×(List Int)×Int×Int×Int×Int×Int×Int×Int×(List Message))→Option R):((List Int)×Int×Int×Int×Int×Int×(List Entry)×(List Int)×(List Int)×(List Int)×Int×Int×Int×Int×Int×Int×Int×(List Message))→Option R
 | (v0,v1,v3,v6,v8,v9,v11,v12,v13,v14,v15,v16,v17,v18,v19,v20,v21,v22)=>
  bif (decide (v1<(v0.length:Int))) then
   bif (decide (0≤v1)) then
   bif (decide (v1<(v0.length:Int))) then
   bif ((v0.getD (Int.toNat v1) (0:Int)) != a0.Id) then
    bif (decide (0≤v1)) then
    bif (decide (v1<(v0.length:Int))) then
    ob (spec_l10Term.m N (Node.mk a0.Id v3 a0.Id v11 a0.Start v6 v12 v13 v14 a0.Commit v8 v9 a0.Up) (v11.length:Int)) fun y4=>
    bif (room (v22.length+([(Message.mk (1:Int) a0.Id (v0.getD (Int.toNat v1) (0:Int)) v3 (v11.length:Int) y4 (0:Int) ([]:List Entry) false)]).length) 88) then
    rec (v0,(w64 (v1+(1:Int))),v3,v6,v8,v9,v11,v12,v13,v14,v15,v16,v17,v18,v19,v20,v21,(v22++[(Message.mk (1:Int) a0.Id (v0.getD (Int.toNat v1) (0:Int)) v3 (v11.length:Int) y4 (0:Int) ([]:List Entry) false)]))
    else none
    else none
    else none
   else
   rec (v0,(w64 (v1+(1:Int))),v3,v6,v8,v9,v11,v12,v13,v14,v15,v16,v17,v18,v19,v20,v21,v22)
   else none
   else none
  else
  some ((Node.mk a0.Id v3 a0.Id v11 a0.Start v6 v12 v13 v14 a0.Commit v8 v9 a0.Up),v22)
noncomputable def lp12 (N:Nat) (a0:Node) (a1:Int):((List Int)×Int×Int×Int×Int×Int×(List Entry)×(List Int)×(List Int)×(List Int)×Int×Int×Int×Int×Int×Int×Int×(List Message))→Option R:=
 miter (fun rec=>step12 N a0 a1 rec) N
noncomputable def m0 (N:Nat) (a0:Node) (a1:Int) (lp12:(List Int)×Int×Int×Int×Int×Int×(List Entry)×(List Int)×(List Int)×(List Int)×Int×Int×Int×Int×Int×Int×Int×(List Message)→Option R):Option R:=
 bif (!decide ((8:Int)=0)) then
 ob (spec_l10Members.m N (Node.mk a0.Id (w64 (a0.Term+(1:Int))) a0.Id a0.Log a0.Start (1:Int) ([a0.Id]) a0.Next a0.Match a0.Commit (0:Int) (w64 ((5:Int)+(Int.tmod a1 (8:Int)))) a0.Up)) fun y1=>
 ob (spec_l10Most.m N y1.2.Votes y1.1) fun y2=>
 bif y2 then
  ob (spec_l10Lead.m N (Node.mk a0.Id (w64 (a0.Term+(1:Int))) a0.Id y1.2.Log a0.Start (1:Int) y1.2.Votes y1.2.Next y1.2.Match a0.Commit (0:Int) (w64 ((5:Int)+(Int.tmod a1 (8:Int)))) a0.Up)) fun y3=>
  some (y3.1,y3.2)
 else
 lp12 (y1.1,(0:Int),(w64 (a0.Term+(1:Int))),(1:Int),(0:Int),(w64 ((5:Int)+(Int.tmod a1 (8:Int)))),y1.2.Log,y1.2.Votes,y1.2.Next,y1.2.Match,(0:Int),(0:Int),(0:Int),(0:Int),(0:Int),(0:Int),(0:Int),([]:List Message))
 else none
@[reducible] noncomputable def m (N:Nat) (a0:Node) (a1:Int):Option R:=m0 N a0 a1 (lp12 N a0 a1)
@[reducible] noncomputable def sp (N:Nat):Spec E:=⟨[.mov false (.st 25),.val (.int .i64)],[(.st 26),(.slice 97 (.st 97))],false,false,R,fun x=>m N x.1 x.2.1,fun r=>(r.1,r.2,()),fun r=>((),(),()),fun a b=>(a.1,a.2.1),fun _ _=>rfl,fun _ _=>rfl⟩
end spec_l10Elect
namespace spec_l10Tick
abbrev R:=Node×(List Message)
noncomputable def m (N:Nat) (a0:Node) (a1:Int):Option R:=
 ob (spec_l10Own.m N a0) fun y1=>
 bif (y1.Role==(2:Int)) then
  bif (decide ((if (w64 (y1.Elapsed+(1:Int)))<(1000:Int) then (w64 (y1.Elapsed+(1:Int))) else (1000:Int))<(2:Int))) then
   some ((Node.mk y1.Id y1.Term y1.Vote y1.Log y1.Start y1.Role y1.Votes y1.Next y1.Match y1.Commit (if (w64 (y1.Elapsed+(1:Int)))<(1000:Int) then (w64 (y1.Elapsed+(1:Int))) else (1000:Int)) y1.Wait y1.Up),([]:List Message))
  else
  ob (spec_l10Tell.m N (Node.mk y1.Id y1.Term y1.Vote y1.Log y1.Start y1.Role y1.Votes y1.Next y1.Match y1.Commit (0:Int) y1.Wait y1.Up)) fun y2=>
  some ((Node.mk y1.Id y1.Term y1.Vote y1.Log y1.Start y1.Role y1.Votes y1.Next y1.Match y1.Commit (0:Int) y1.Wait y1.Up),y2)
 else
 bif (decide ((if (w64 (y1.Elapsed+(1:Int)))<(1000:Int) then (w64 (y1.Elapsed+(1:Int))) else (1000:Int))<y1.Wait)) then
  some ((Node.mk y1.Id y1.Term y1.Vote y1.Log y1.Start y1.Role y1.Votes y1.Next y1.Match y1.Commit (if (w64 (y1.Elapsed+(1:Int)))<(1000:Int) then (w64 (y1.Elapsed+(1:Int))) else (1000:Int)) y1.Wait y1.Up),([]:List Message))
 else
 ob (spec_l10Members.m N (Node.mk y1.Id y1.Term y1.Vote y1.Log y1.Start y1.Role y1.Votes y1.Next y1.Match y1.Commit (if (w64 (y1.Elapsed+(1:Int)))<(1000:Int) then (w64 (y1.Elapsed+(1:Int))) else (1000:Int)) y1.Wait y1.Up)) fun y3=>
 ob (spec_l10Has.m N y3.1 y1.Id) fun y4=>
 bif (bif false then true else (!y4)) then
  some ((Node.mk y1.Id y1.Term y1.Vote y3.2.Log y1.Start y1.Role y3.2.Votes y3.2.Next y3.2.Match y1.Commit (if (w64 (y1.Elapsed+(1:Int)))<(1000:Int) then (w64 (y1.Elapsed+(1:Int))) else (1000:Int)) y1.Wait y1.Up),([]:List Message))
 else
 bif (bif false then true else (y1.Term==(1000000:Int))) then
  some ((Node.mk y1.Id y1.Term y1.Vote y3.2.Log y1.Start y1.Role y3.2.Votes y3.2.Next y3.2.Match y1.Commit (if (w64 (y1.Elapsed+(1:Int)))<(1000:Int) then (w64 (y1.Elapsed+(1:Int))) else (1000:Int)) y1.Wait y1.Up),([]:List Message))
 else
 ob (spec_l10Elect.m N (Node.mk y1.Id y1.Term y1.Vote y3.2.Log y1.Start y1.Role y3.2.Votes y3.2.Next y3.2.Match y1.Commit (if (w64 (y1.Elapsed+(1:Int)))<(1000:Int) then (w64 (y1.Elapsed+(1:Int))) else (1000:Int)) y1.Wait y1.Up) a1) fun y5=>
 some (y5.1,y5.2)
@[reducible] noncomputable def sp (N:Nat):Spec E:=⟨[.val (.st 26),.val (.int .i64)],[(.st 26),(.slice 97 (.st 97))],false,false,R,fun x=>m N x.1 x.2.1,fun r=>(r.1,r.2,()),fun r=>((),(),()),fun a b=>(a.1,a.2.1),fun _ _=>rfl,fun _ _=>rfl⟩
end spec_l10Tick
namespace spec_l11Allowed
abbrev R:=Bool
noncomputable def step4 (N:Nat) (a0:Node) (a1:List Int) (lp10:Int→Option R) (rec:((List Int)×Int×Int)→Option R):((List Int)×Int×Int)→Option R
 | (v1,v2,v3)=>
  bif (decide (v3<(7:Int))) then
   ob (spec_l10Has.m N v1 v3) fun y2=>
   ob (spec_l10Has.m N a1 v3) fun y3=>
   ob (spec_l01Bit.m N (!(y2==y3))) fun y4=>
   rec (v1,(w64 (v2+y4)),(w64 (v3+(1:Int))))
  else
  bif (v2 != (1:Int)) then
   some false
  else
  bif (bif false then true else (a0.Role != (2:Int))) then
   some false
  else
  bif (bif false then true else (a0.Commit==(0:Int))) then
   some false
  else
  bif (decide (0≤(w64 (a0.Commit - (1:Int))))) then
  bif (decide ((w64 (a0.Commit - (1:Int)))<(a0.Log.length:Int))) then
  bif (bif false then true else ((a0.Log.getD (Int.toNat (w64 (a0.Commit - (1:Int)))) Entry.dz).Term != a0.Term)) then
   some false
  else
  lp10 a0.Commit
  else none
  else none
noncomputable def step10 (N:Nat) (a0:Node) (a1:List Int) (rec:Int→Option R):Int→Option R
 | v0=>
  bif (decide (v0<(a0.Log.length:Int))) then
   bif (decide (0≤v0)) then
   bif (decide (v0<(a0.Log.length:Int))) then
   bif ((a0.Log.getD (Int.toNat v0) Entry.dz).Kind==(2:Int)) then
    some false
   else
   rec (w64 (v0+(1:Int)))
   else none
   else none
  else
  some true
noncomputable def lp10 (N:Nat) (a0:Node) (a1:List Int):Int→Option R:=
 miter (fun rec=>step10 N a0 a1 rec) N
noncomputable def lp4 (N:Nat) (a0:Node) (a1:List Int):((List Int)×Int×Int)→Option R:=
 miter (fun rec=>step4 N a0 a1 (lp10 N a0 a1) rec) N
noncomputable def m0 (N:Nat) (a0:Node) (a1:List Int) (lp4:(List Int)×Int×Int→Option R):Option R:=
 ob (spec_l10Members_.m N a0) fun y1=>
 lp4 (y1,(0:Int),(0:Int))
@[reducible] noncomputable def m (N:Nat) (a0:Node) (a1:List Int):Option R:=m0 N a0 a1 (lp4 N a0 a1)
@[reducible] noncomputable def sp (N:Nat):Spec E:=⟨[.val (.st 26),.val (.slice 3 (.int .i64))],[.bool],true,false,R,fun x=>m N x.1 x.2.1,fun r=>(r,()),fun r=>((),(),()),fun a b=>a.1,fun _ _=>rfl,fun _ _=>rfl⟩
end spec_l11Allowed
namespace spec_l10Propose
abbrev R:=Node×(List Message)×Int
noncomputable def m (N:Nat) (a0:Node) (a1:Entry):Option R:=
 bif (!a0.Up) then
  some (a0,([]:List Message),(5:Int))
 else
 bif (a0.Role != (2:Int)) then
  some (a0,([]:List Message),(14:Int))
 else
 bif ((a0.Log.length:Int)==(60:Int)) then
  some (a0,([]:List Message),(7:Int))
 else
 ob (spec_l10Own.m N a0) fun y1=>
 bif (room (y1.Log.length+([(Entry.mk y1.Term a1.Kind a1.Data)]).length) 32) then
 ob (spec_l10Advance.m N (Node.mk y1.Id y1.Term y1.Vote (y1.Log++[(Entry.mk y1.Term a1.Kind a1.Data)]) y1.Start y1.Role y1.Votes y1.Next y1.Match y1.Commit y1.Elapsed y1.Wait y1.Up)) fun y2=>
 ob (spec_l10Tell.m N y2) fun y3=>
 some (y2,y3,(0:Int))
 else none
@[reducible] noncomputable def sp (N:Nat):Spec E:=⟨[.val (.st 26),.val (.st 35)],[(.st 26),(.slice 97 (.st 97)),(.int .i64)],false,false,R,fun x=>m N x.1 x.2.1,fun r=>(r.1,r.2.1,r.2.2,()),fun r=>((),(),()),fun a b=>(a.1,a.2.1,a.2.2.1),fun _ _=>rfl,fun _ _=>rfl⟩
end spec_l10Propose
namespace spec_l11Step
abbrev R:=Group×Int
noncomputable def m (N:Nat) (a0:Group) (a1:GroupAct):Option R:=
 ob (spec_l01In.m N a1.Kind (1:Int) (8:Int)) fun y1=>
 bif (!y1) then
  some (a0,(3:Int))
 else
 bif (decide (a1.Kind≥(2:Int))) then
  bif (bif true then (decide (a1.Kind≤(4:Int))) else false) then
   ob (spec_l11Wire.m N a0 (GroupAct.mk a1.Kind a1.N a1.Draw a1.Data)) fun y2=>
   some (y2.1,y2.2)
  else
  ob (spec_l01In.m N a1.N (0:Int) (w64 ((a0.Nodes.length:Int) - (1:Int)))) fun y3=>
  bif (!y3) then
   some (a0,(4:Int))
  else
  bif (decide (0≤a1.N)) then
  bif (decide (a1.N<(a0.Nodes.length:Int))) then
  bif (a1.Kind==(8:Int)) then
   bif (a0.Nodes.getD (Int.toNat a1.N) Node.dz).Up then
    some (a0,(9:Int))
   else
   ob (spec_l11Set.m N a0 a1.N (Node.mk ((a0.Nodes.getD (Int.toNat a1.N) Node.dz).Id) ((a0.Nodes.getD (Int.toNat a1.N) Node.dz).Term) ((a0.Nodes.getD (Int.toNat a1.N) Node.dz).Vote) ((a0.Nodes.getD (Int.toNat a1.N) Node.dz).Log) ((a0.Nodes.getD (Int.toNat a1.N) Node.dz).Start) ((a0.Nodes.getD (Int.toNat a1.N) Node.dz).Role) ((a0.Nodes.getD (Int.toNat a1.N) Node.dz).Votes) ((a0.Nodes.getD (Int.toNat a1.N) Node.dz).Next) ((a0.Nodes.getD (Int.toNat a1.N) Node.dz).Match) ((a0.Nodes.getD (Int.toNat a1.N) Node.dz).Commit) ((a0.Nodes.getD (Int.toNat a1.N) Node.dz).Elapsed) ((a0.Nodes.getD (Int.toNat a1.N) Node.dz).Wait) true) ([]:List Message)) fun y4=>
   some (y4,(0:Int))
  else
  bif (a1.Kind==(7:Int)) then
   bif (!((a0.Nodes.getD (Int.toNat a1.N) Node.dz).Up)) then
    some (a0,(5:Int))
   else
   ob (spec_l10Crash.m N (a0.Nodes.getD (Int.toNat a1.N) Node.dz)) fun y5=>
   ob (spec_l11Set.m N (Group.mk a0.Nodes a0.Wire a0.Leads a0.Dones) a1.N y5 ([]:List Message)) fun y6=>
   some (y6,(0:Int))
  else
  bif (!((a0.Nodes.getD (Int.toNat a1.N) Node.dz).Up)) then
   some ((Group.mk a0.Nodes a0.Wire a0.Leads a0.Dones),(5:Int))
  else
  bif (a1.Kind==(1:Int)) then
   ob (spec_l01In.m N a1.Draw (0:Int) (1000000:Int)) fun y7=>
   bif (!y7) then
    some ((Group.mk a0.Nodes a0.Wire a0.Leads a0.Dones),(4:Int))
   else
   ob (spec_l10Tick.m N (a0.Nodes.getD (Int.toNat a1.N) Node.dz) a1.Draw) fun y8=>
   ob (spec_l11Set.m N (Group.mk a0.Nodes a0.Wire a0.Leads a0.Dones) a1.N y8.1 y8.2) fun y9=>
   some (y9,(0:Int))
  else
  bif (a1.Kind==(6:Int)) then
   ob (spec_l02Members.m N a1.Data) fun y10=>
   bif (!y10.2) then
    some ((Group.mk a0.Nodes a0.Wire a0.Leads a0.Dones),(1:Int))
   else
   bif (decide (0≤(w64 ((y10.1.length:Int) - (1:Int))))) then
   bif (decide ((w64 ((y10.1.length:Int) - (1:Int)))<(y10.1.length:Int))) then
   bif (bif false then true else (decide ((y10.1.getD (Int.toNat (w64 ((y10.1.length:Int) - (1:Int)))) (0:Int))≥(a0.Nodes.length:Int)))) then
    some ((Group.mk a0.Nodes a0.Wire a0.Leads a0.Dones),(1:Int))
   else
   bif ((a0.Nodes.getD (Int.toNat a1.N) Node.dz).Role==(2:Int)) then
    ob (spec_l11Allowed.m N (a0.Nodes.getD (Int.toNat a1.N) Node.dz) y10.1) fun y11=>
    bif (bif true then (!y11) else false) then
     some ((Group.mk a0.Nodes a0.Wire a0.Leads a0.Dones),(17:Int))
    else
    ob (spec_l10Propose.m N (a0.Nodes.getD (Int.toNat a1.N) Node.dz) (Entry.mk (0:Int) (2:Int) a1.Data)) fun y12=>
    bif (y12.2.2 != (0:Int)) then
     some ((Group.mk a0.Nodes a0.Wire a0.Leads a0.Dones),y12.2.2)
    else
    ob (spec_l11Set.m N (Group.mk a0.Nodes a0.Wire a0.Leads a0.Dones) a1.N y12.1 y12.2.1) fun y13=>
    some (y13,(0:Int))
   else
   ob (spec_l10Propose.m N (a0.Nodes.getD (Int.toNat a1.N) Node.dz) (Entry.mk (0:Int) (2:Int) a1.Data)) fun y14=>
   bif (y14.2.2 != (0:Int)) then
    some ((Group.mk a0.Nodes a0.Wire a0.Leads a0.Dones),y14.2.2)
   else
   ob (spec_l11Set.m N (Group.mk a0.Nodes a0.Wire a0.Leads a0.Dones) a1.N y14.1 y14.2.1) fun y15=>
   some (y15,(0:Int))
   else none
   else none
  else
  ob (spec_l01In.m N (a1.Data.size:Int) (1:Int) (100:Int)) fun y16=>
  bif (!y16) then
   some ((Group.mk a0.Nodes a0.Wire a0.Leads a0.Dones),(1:Int))
  else
  ob (spec_l10Propose.m N (a0.Nodes.getD (Int.toNat a1.N) Node.dz) (Entry.mk (0:Int) (1:Int) a1.Data)) fun y17=>
  bif (y17.2.2 != (0:Int)) then
   some ((Group.mk a0.Nodes a0.Wire a0.Leads a0.Dones),y17.2.2)
  else
  ob (spec_l11Set.m N (Group.mk a0.Nodes a0.Wire a0.Leads a0.Dones) a1.N y17.1 y17.2.1) fun y18=>
  some (y18,(0:Int))
  else none
  else none
 else
 ob (spec_l01In.m N a1.N (0:Int) (w64 ((a0.Nodes.length:Int) - (1:Int)))) fun y19=>
 bif (!y19) then
  some ((Group.mk a0.Nodes a0.Wire a0.Leads a0.Dones),(4:Int))
 else
 bif (decide (0≤a1.N)) then
 bif (decide (a1.N<(a0.Nodes.length:Int))) then
 bif (a1.Kind==(8:Int)) then
  bif (a0.Nodes.getD (Int.toNat a1.N) Node.dz).Up then
   some ((Group.mk a0.Nodes a0.Wire a0.Leads a0.Dones),(9:Int))
  else
  ob (spec_l11Set.m N (Group.mk a0.Nodes a0.Wire a0.Leads a0.Dones) a1.N (Node.mk ((a0.Nodes.getD (Int.toNat a1.N) Node.dz).Id) ((a0.Nodes.getD (Int.toNat a1.N) Node.dz).Term) ((a0.Nodes.getD (Int.toNat a1.N) Node.dz).Vote) ((a0.Nodes.getD (Int.toNat a1.N) Node.dz).Log) ((a0.Nodes.getD (Int.toNat a1.N) Node.dz).Start) ((a0.Nodes.getD (Int.toNat a1.N) Node.dz).Role) ((a0.Nodes.getD (Int.toNat a1.N) Node.dz).Votes) ((a0.Nodes.getD (Int.toNat a1.N) Node.dz).Next) ((a0.Nodes.getD (Int.toNat a1.N) Node.dz).Match) ((a0.Nodes.getD (Int.toNat a1.N) Node.dz).Commit) ((a0.Nodes.getD (Int.toNat a1.N) Node.dz).Elapsed) ((a0.Nodes.getD (Int.toNat a1.N) Node.dz).Wait) true) ([]:List Message)) fun y20=>
  some (y20,(0:Int))
 else
 bif (a1.Kind==(7:Int)) then
  bif (!((a0.Nodes.getD (Int.toNat a1.N) Node.dz).Up)) then
   some ((Group.mk a0.Nodes a0.Wire a0.Leads a0.Dones),(5:Int))
  else
  ob (spec_l10Crash.m N (a0.Nodes.getD (Int.toNat a1.N) Node.dz)) fun y21=>
  ob (spec_l11Set.m N (Group.mk a0.Nodes a0.Wire a0.Leads a0.Dones) a1.N y21 ([]:List Message)) fun y22=>
  some (y22,(0:Int))
 else
 bif (!((a0.Nodes.getD (Int.toNat a1.N) Node.dz).Up)) then
  some ((Group.mk a0.Nodes a0.Wire a0.Leads a0.Dones),(5:Int))
 else
 bif (a1.Kind==(1:Int)) then
  ob (spec_l01In.m N a1.Draw (0:Int) (1000000:Int)) fun y23=>
  bif (!y23) then
   some ((Group.mk a0.Nodes a0.Wire a0.Leads a0.Dones),(4:Int))
  else
  ob (spec_l10Tick.m N (a0.Nodes.getD (Int.toNat a1.N) Node.dz) a1.Draw) fun y24=>
  ob (spec_l11Set.m N (Group.mk a0.Nodes a0.Wire a0.Leads a0.Dones) a1.N y24.1 y24.2) fun y25=>
  some (y25,(0:Int))
 else
 bif (a1.Kind==(6:Int)) then
  ob (spec_l02Members.m N a1.Data) fun y26=>
  bif (!y26.2) then
   some ((Group.mk a0.Nodes a0.Wire a0.Leads a0.Dones),(1:Int))
  else
  bif (decide (0≤(w64 ((y26.1.length:Int) - (1:Int))))) then
  bif (decide ((w64 ((y26.1.length:Int) - (1:Int)))<(y26.1.length:Int))) then
  bif (bif false then true else (decide ((y26.1.getD (Int.toNat (w64 ((y26.1.length:Int) - (1:Int)))) (0:Int))≥(a0.Nodes.length:Int)))) then
   some ((Group.mk a0.Nodes a0.Wire a0.Leads a0.Dones),(1:Int))
  else
  bif ((a0.Nodes.getD (Int.toNat a1.N) Node.dz).Role==(2:Int)) then
   ob (spec_l11Allowed.m N (a0.Nodes.getD (Int.toNat a1.N) Node.dz) y26.1) fun y27=>
   bif (bif true then (!y27) else false) then
    some ((Group.mk a0.Nodes a0.Wire a0.Leads a0.Dones),(17:Int))
   else
   ob (spec_l10Propose.m N (a0.Nodes.getD (Int.toNat a1.N) Node.dz) (Entry.mk (0:Int) (2:Int) a1.Data)) fun y28=>
   bif (y28.2.2 != (0:Int)) then
    some ((Group.mk a0.Nodes a0.Wire a0.Leads a0.Dones),y28.2.2)
   else
   ob (spec_l11Set.m N (Group.mk a0.Nodes a0.Wire a0.Leads a0.Dones) a1.N y28.1 y28.2.1) fun y29=>
   some (y29,(0:Int))
  else
  ob (spec_l10Propose.m N (a0.Nodes.getD (Int.toNat a1.N) Node.dz) (Entry.mk (0:Int) (2:Int) a1.Data)) fun y30=>
  bif (y30.2.2 != (0:Int)) then
   some ((Group.mk a0.Nodes a0.Wire a0.Leads a0.Dones),y30.2.2)
  else
  ob (spec_l11Set.m N (Group.mk a0.Nodes a0.Wire a0.Leads a0.Dones) a1.N y30.1 y30.2.1) fun y31=>
  some (y31,(0:Int))
  else none
  else none
 else
 ob (spec_l01In.m N (a1.Data.size:Int) (1:Int) (100:Int)) fun y32=>
 bif (!y32) then
  some ((Group.mk a0.Nodes a0.Wire a0.Leads a0.Dones),(1:Int))
 else
 ob (spec_l10Propose.m N (a0.Nodes.getD (Int.toNat a1.N) Node.dz) (Entry.mk (0:Int) (1:Int) a1.Data)) fun y33=>
 bif (y33.2.2 != (0:Int)) then
  some ((Group.mk a0.Nodes a0.Wire a0.Leads a0.Dones),y33.2.2)
 else
 ob (spec_l11Set.m N (Group.mk a0.Nodes a0.Wire a0.Leads a0.Dones) a1.N y33.1 y33.2.1) fun y34=>
 some (y34,(0:Int))
 else none
 else none
@[reducible] noncomputable def sp (N:Nat):Spec E:=⟨[.val (.st 52),.val (.st 84)],[(.st 52),(.int .i64)],false,false,R,fun x=>m N x.1 x.2.1,fun r=>(r.1,r.2,()),fun r=>((),(),()),fun a b=>(a.1,a.2.1),fun _ _=>rfl,fun _ _=>rfl⟩
end spec_l11Step
namespace spec_l11Own
abbrev R:=Group
noncomputable def step3 (N:Nat) (a0:Group) (lp7:Int×(List Node)×(List Message)×(List Lead)×(List Done)→Option R) (rec:(Int×(List Node)×(List Message)×(List Lead)×(List Done))→Option R):(Int×(List Node)×(List Message)×(List Lead)×(List Done))→Option R
 | (v0,v5,v6,v7,v8)=>
  bif (decide (v0<(a0.Nodes.length:Int))) then
   bif (decide (0≤v0)) then
   bif (decide (v0<(a0.Nodes.length:Int))) then
   ob (spec_l10Own.m N (a0.Nodes.getD (Int.toNat v0) Node.dz)) fun y1=>
   bif (room (v5.length+([y1]).length) 184) then
   rec ((w64 (v0+(1:Int))),(v5++[y1]),v6,v7,v8)
   else none
   else none
   else none
  else
  lp7 ((0:Int),v5,v6,v7,v8)
noncomputable def step7 (N:Nat) (a0:Group) (lp13:Int×(List Node)×(List Message)×(List Lead)×(List Done)→Option R) (rec:(Int×(List Node)×(List Message)×(List Lead)×(List Done))→Option R):(Int×(List Node)×(List Message)×(List Lead)×(List Done))→Option R
 | (v0,v5,v6,v7,v8)=>
  bif (decide (v0<(a0.Wire.length:Int))) then
   bif (decide (0≤v0)) then
   bif (decide (v0<(a0.Wire.length:Int))) then
   bif (room (([]:List Entry).length+((a0.Wire.getD (Int.toNat v0) Message.dz).Entries).length) 32) then
   (let w2:List Message:=[(Message.mk ((a0.Wire.getD (Int.toNat v0) Message.dz).Kind) ((a0.Wire.getD (Int.toNat v0) Message.dz).From) ((a0.Wire.getD (Int.toNat v0) Message.dz).To) ((a0.Wire.getD (Int.toNat v0) Message.dz).Term) ((a0.Wire.getD (Int.toNat v0) Message.dz).Index) ((a0.Wire.getD (Int.toNat v0) Message.dz).LogTerm) ((a0.Wire.getD (Int.toNat v0) Message.dz).Commit) (([]:List Entry)++(a0.Wire.getD (Int.toNat v0) Message.dz).Entries) ((a0.Wire.getD (Int.toNat v0) Message.dz).Ok))]
   bif (room (v6.length+w2.length) 88) then
   rec ((w64 (v0+(1:Int))),v5,(v6++w2),v7,v8)
   else none)
   else none
   else none
   else none
  else
  lp13 ((0:Int),v5,v6,v7,v8)
noncomputable def step13 (N:Nat) (a0:Group) (rec:(Int×(List Node)×(List Message)×(List Lead)×(List Done))→Option R):(Int×(List Node)×(List Message)×(List Lead)×(List Done))→Option R
 | (v0,v5,v6,v7,v8)=>
  bif (decide (v0<(a0.Leads.length:Int))) then
   bif (decide (0≤v0)) then
   bif (decide (v0<(a0.Leads.length:Int))) then
   bif (room (([]:List Entry).length+((a0.Leads.getD (Int.toNat v0) Lead.dz).Log).length) 32) then
   (let w3:List Lead:=[(Lead.mk ((a0.Leads.getD (Int.toNat v0) Lead.dz).Term) ((a0.Leads.getD (Int.toNat v0) Lead.dz).Id) (([]:List Entry)++(a0.Leads.getD (Int.toNat v0) Lead.dz).Log))]
   bif (room (v7.length+w3.length) 40) then
   rec ((w64 (v0+(1:Int))),v5,v6,(v7++w3),v8)
   else none)
   else none
   else none
   else none
  else
  some (Group.mk v5 v6 v7 v8)
noncomputable def lp13 (N:Nat) (a0:Group):(Int×(List Node)×(List Message)×(List Lead)×(List Done))→Option R:=
 miter (fun rec=>step13 N a0 rec) N
noncomputable def lp7 (N:Nat) (a0:Group):(Int×(List Node)×(List Message)×(List Lead)×(List Done))→Option R:=
 miter (fun rec=>step7 N a0 (lp13 N a0) rec) N
noncomputable def lp3 (N:Nat) (a0:Group):(Int×(List Node)×(List Message)×(List Lead)×(List Done))→Option R:=
 miter (fun rec=>step3 N a0 (lp7 N a0) rec) N
noncomputable def m0 (N:Nat) (a0:Group) (lp3:Int×(List Node)×(List Message)×(List Lead)×(List Done)→Option R):Option R:=
 bif (room (([]:List Done).length+a0.Dones.length) 56) then
 lp3 ((0:Int),([]:List Node),([]:List Message),([]:List Lead),(([]:List Done)++a0.Dones))
 else none
@[reducible] noncomputable def m (N:Nat) (a0:Group):Option R:=m0 N a0 (lp3 N a0)
@[reducible] noncomputable def sp (N:Nat):Spec E:=⟨[.val (.st 52)],[(.st 52)],true,false,R,fun x=>m N x.1,fun r=>(r,()),fun r=>((),()),fun a b=>a.1,fun _ _=>rfl,fun _ _=>rfl⟩
end spec_l11Own
namespace spec_GroupRun
abbrev R:=Group×(List Int)×Int
inductive A10 where
 | s0 (v1:Int) (v2:List Node) (v3:List Message) (v4:List Lead) (v5:List Done) (v6:List Int)
 | s1 (v1:Int) (v2:List Node) (v3:List Message) (v4:List Lead) (v5:List Done) (v6:List Int)
noncomputable def step10 (N:Nat) (a0:Int) (a1:List GroupAct) (rec:A10→Option R):A10→Option R
 | .s0 v1 v2 v3 v4 v5 v6=>
  bif (decide (v1<(a1.length:Int))) then
   bif (decide (0≤v1)) then
   bif (decide (v1<(a1.length:Int))) then
   bif (decide ((((a1.getD (Int.toNat v1) GroupAct.dz).Data).size:Int) > (65536:Int))) then
    some ((Group.mk ([]:List Node) ([]:List Message) ([]:List Lead) ([]:List Done)),([]:List Int),(2:Int))
   else
   bif (decide (0≤v1)) then
   bif (decide (v1<(a1.length:Int))) then
   ob (spec_l11Step.m N (Group.mk v2 v3 v4 v5) (a1.getD (Int.toNat v1) GroupAct.dz)) fun y2=>
   bif (room (v6.length+([y2.2]).length) 8) then
   rec (.s1 (w64 (v1+(1:Int))) y2.1.Nodes y2.1.Wire y2.1.Leads y2.1.Dones (v6++[y2.2]))
   else none
   else none
   else none
   else none
   else none
  else
  ob (spec_l11Own.m N (Group.mk v2 v3 v4 v5)) fun y3=>
  some (y3,v6,(0:Int))
 | .s1 v1 v2 v3 v4 v5 v6=>
  bif (decide (v1<(a1.length:Int))) then
   bif (decide (0≤v1)) then
   bif (decide (v1<(a1.length:Int))) then
   bif (decide ((((a1.getD (Int.toNat v1) GroupAct.dz).Data).size:Int) > (65536:Int))) then
    some ((Group.mk ([]:List Node) ([]:List Message) ([]:List Lead) ([]:List Done)),([]:List Int),(2:Int))
   else
   bif (decide (0≤v1)) then
   bif (decide (v1<(a1.length:Int))) then
   ob (spec_l11Step.m N (Group.mk v2 v3 v4 v5) (a1.getD (Int.toNat v1) GroupAct.dz)) fun y4=>
   bif (room (v6.length+([y4.2]).length) 8) then
   rec (.s1 (w64 (v1+(1:Int))) y4.1.Nodes y4.1.Wire y4.1.Leads y4.1.Dones (v6++[y4.2]))
   else none
   else none
   else none
   else none
   else none
  else
  ob (spec_l11Own.m N (Group.mk v2 v3 v4 v5)) fun y5=>
  some (y5,v6,(0:Int))
noncomputable def lp10 (N:Nat) (a0:Int) (a1:List GroupAct):A10→Option R:=
 miter (fun rec=>step10 N a0 a1 rec) N
noncomputable def m0 (N:Nat) (a0:Int) (a1:List GroupAct) (lp10:A10→Option R):Option R:=
 bif (decide ((a1.length:Int) > (4096:Int))) then
  some ((Group.mk ([]:List Node) ([]:List Message) ([]:List Lead) ([]:List Done)),([]:List Int),(2:Int))
 else
 ob (spec_NewGroup.m N a0) fun y1=>
 bif (y1.2 != (0:Int)) then
  some ((Group.mk ([]:List Node) ([]:List Message) ([]:List Lead) ([]:List Done)),([]:List Int),y1.2)
 else
 bif (decide ((a1.length:Int) > (260:Int))) then
  some ((Group.mk ([]:List Node) ([]:List Message) ([]:List Lead) ([]:List Done)),([]:List Int),(6:Int))
 else
 lp10 (.s0 (0:Int) y1.1.Nodes y1.1.Wire y1.1.Leads y1.1.Dones ([]:List Int))
@[reducible] noncomputable def m (N:Nat) (a0:Int) (a1:List GroupAct):Option R:=m0 N a0 a1 (lp10 N a0 a1)
@[reducible] noncomputable def sp (N:Nat):Spec E:=⟨[.val (.int .i64),.val (.slice 84 (.st 84))],[(.st 52),(.slice 3 (.int .i64)),(.int .i64)],true,false,R,fun x=>m N x.1 x.2.1,fun r=>(r.1,r.2.1,r.2.2,()),fun r=>((),(),()),fun a b=>(a.1,a.2.1,a.2.2.1),fun _ _=>rfl,fun _ _=>rfl⟩
end spec_GroupRun
namespace spec_l00Src_group_
abbrev R:=Group×l00Src
noncomputable def m (N:Nat) (a0:l00Src):Option R:=
 ob (spec_l00Src_next_.m N a0 (5:Int)) fun y1=>
 ob (spec_l00Src_groupActs.m N y1.2 (w64 ((1:Int)+y1.1))) fun y2=>
 ob (spec_GroupRun.m N (w64 ((1:Int)+y1.1)) y2.1) fun y3=>
 some (y3.1,y2.2)
@[reducible] noncomputable def sp (N:Nat):Spec E:=⟨[.box false 46 46],[(.st 52)],true,false,R,fun x=>m N x.1,fun r=>(r.1,()),fun r=>(r.2,()),fun a b=>(a.1,b.1),fun _ _=>rfl,fun _ _=>rfl⟩
end spec_l00Src_group_
namespace spec_l00Src_node
abbrev R:=Node×l00Src
noncomputable def m (N:Nat) (a0:l00Src):Option R:=
 ob (spec_l00Src_group_.m N a0) fun y1=>
 ob (spec_l00Src_next_.m N y1.2 (y1.1.Nodes.length:Int)) fun y2=>
 bif (decide (0≤y2.1)) then
 bif (decide (y2.1<(y1.1.Nodes.length:Int))) then
 some ((y1.1.Nodes.getD (Int.toNat y2.1) Node.dz),y2.2)
 else none
 else none
@[reducible] noncomputable def sp (N:Nat):Spec E:=⟨[.box false 46 46],[(.st 26)],false,false,R,fun x=>m N x.1,fun r=>(r.1,()),fun r=>(r.2,()),fun a b=>(a.1,b.1),fun _ _=>rfl,fun _ _=>rfl⟩
end spec_l00Src_node
namespace spec_NodeOf
abbrev R:=Node
noncomputable def m (N:Nat) (a0:List Int):Option R:=
 ob (spec_l00Source.m N a0) fun y1=>
 ob (spec_l00Src_node.m N y1) fun y2=>
 some y2.1
@[reducible] noncomputable def sp (N:Nat):Spec E:=⟨[.val (.slice 5 (.int .u8))],[(.st 26)],false,false,R,fun x=>m N x.1,fun r=>(r,()),fun r=>((),()),fun a b=>a.1,fun _ _=>rfl,fun _ _=>rfl⟩
end spec_NodeOf
namespace laws_at
abbrev R:=Int
noncomputable def m (N:Nat) (a0:List Int) (a1:Int) (a2:Int):Option R:=
 bif (decide (a2≤(1:Int))) then
  some (0:Int)
 else
 bif ((a0.length:Int)==(0:Int)) then
  bif (!decide (a2=0)) then
  some (Int.tmod (w64 (a1 * (7:Int))) a2)
  else none
 else
 bif (!decide ((a0.length:Int)=0)) then
 bif (decide (0≤(Int.tmod a1 (a0.length:Int)))) then
 bif (decide ((Int.tmod a1 (a0.length:Int))<(a0.length:Int))) then
 bif (!decide ((a0.length:Int)=0)) then
 bif (decide (0≤(Int.tmod (w64 (a1+(1:Int))) (a0.length:Int)))) then
 bif (decide ((Int.tmod (w64 (a1+(1:Int))) (a0.length:Int))<(a0.length:Int))) then
 (let w1:Int:=(w64 ((w64 ((w64 (a0.getD (Int.toNat (Int.tmod a1 (a0.length:Int))) (0:Int))) * (31:Int)))+(w64 (a0.getD (Int.toNat (Int.tmod (w64 (a1+(1:Int))) (a0.length:Int))) (0:Int)))))
 bif (!decide ((a0.length:Int)=0)) then
 bif (!decide (a2=0)) then
 some (Int.tmod (w64 (w1+(w64 (Int.tdiv a1 (a0.length:Int))))) a2)
 else none
 else none)
 else none
 else none
 else none
 else none
 else none
 else none
@[reducible] noncomputable def sp (N:Nat):Spec E:=⟨[.val (.slice 5 (.int .u8)),.val (.int .i64),.val (.int .i64)],[(.int .i64)],true,false,R,fun x=>m N x.1 x.2.1 x.2.2.1,fun r=>(r,()),fun r=>((),(),(),()),fun a b=>a.1,fun _ _=>rfl,fun _ _=>rfl⟩
end laws_at
namespace impl_isList_int
abbrev R:=Bool
noncomputable def m (N:Nat) (a0:List Int):Option R:=
 some (decide ((a0.length:Int)≤(4096:Int)))
@[reducible] noncomputable def sp (N:Nat):Spec E:=⟨[.val (.slice 3 (.int .i64))],[.bool],true,false,R,fun x=>m N x.1,fun r=>(r,()),fun r=>((),()),fun a b=>a.1,fun _ _=>rfl,fun _ _=>rfl⟩
end impl_isList_int
namespace impl_within
abbrev R:=Bool
noncomputable def m (N:Nat) (a0:Int) (a1:Int) (a2:Int):Option R:=
 bif (decide (a0≥a1)) then
  some (bif true then (decide (a0≤a2)) else false)
 else
 some false
@[reducible] noncomputable def sp (N:Nat):Spec E:=⟨[.val (.int .i64),.val (.int .i64),.val (.int .i64)],[.bool],true,false,R,fun x=>m N x.1 x.2.1 x.2.2.1,fun r=>(r,()),fun r=>((),(),(),()),fun a b=>a.1,fun _ _=>rfl,fun _ _=>rfl⟩
end impl_within
namespace impl_isNumber
abbrev R:=Bool
noncomputable def m (N:Nat) (a0:Int):Option R:=
 ob (impl_within.m N a0 (0:Int) (6:Int)) fun y1=>
 some y1
@[reducible] noncomputable def sp (N:Nat):Spec E:=⟨[.val (.int .i64)],[.bool],true,false,R,fun x=>m N x.1,fun r=>(r,()),fun r=>((),()),fun a b=>a.1,fun _ _=>rfl,fun _ _=>rfl⟩
end impl_isNumber
namespace impl_areNumbers_1
abbrev R:=Bool
noncomputable def m (N:Nat) (a0:Int):Option R:=
 ob (impl_within.m N a0 (0:Int) (6:Int)) fun y1=>
 some (!y1)
@[reducible] noncomputable def sp (N:Nat):Spec E:=⟨[.val (.int .i64)],[.bool],true,false,R,fun x=>m N x.1,fun r=>(r,()),fun r=>((),()),fun a b=>a.1,fun _ _=>rfl,fun _ _=>rfl⟩
end impl_areNumbers_1
namespace slices_IndexFunc_int_int__impl_areNumbers_1
abbrev R:=Int
noncomputable def step2 (N:Nat) (a0:List Int) (rec:(Int×Int)→Option R):(Int×Int)→Option R
 | (v1,v2)=>
  bif (decide (v2<v1)) then
   bif (decide (0≤v2)) then
   bif (decide (v2<(a0.length:Int))) then
   ob (impl_areNumbers_1.m N (a0.getD (Int.toNat v2) (0:Int))) fun y1=>
   bif y1 then
    some v2
   else
   rec (v1,(w64 (v2+(1:Int))))
   else none
   else none
  else
  some (-1:Int)
noncomputable def lp2 (N:Nat) (a0:List Int):(Int×Int)→Option R:=
 miter (fun rec=>step2 N a0 rec) N
noncomputable def m0 (N:Nat) (a0:List Int) (lp2:Int×Int→Option R):Option R:=
 lp2 ((a0.length:Int),(0:Int))
@[reducible] noncomputable def m (N:Nat) (a0:List Int):Option R:=m0 N a0 (lp2 N a0)
@[reducible] noncomputable def sp (N:Nat):Spec E:=⟨[.val (.slice 3 (.int .i64)),.clo 47 []],[(.int .i64)],true,false,R,fun x=>m N x.1,fun r=>(r,()),fun r=>((),(),()),fun a b=>a.1,fun _ _=>rfl,fun _ _=>rfl⟩
end slices_IndexFunc_int_int__impl_areNumbers_1
namespace slices_ContainsFunc_int_int__impl_areNumbers_1
abbrev R:=Bool
noncomputable def m (N:Nat) (a0:List Int):Option R:=
 ob (slices_IndexFunc_int_int__impl_areNumbers_1.m N a0) fun y1=>
 some (decide (y1≥(0:Int)))
@[reducible] noncomputable def sp (N:Nat):Spec E:=⟨[.val (.slice 3 (.int .i64)),.clo 47 []],[.bool],true,false,R,fun x=>m N x.1,fun r=>(r,()),fun r=>((),(),()),fun a b=>a.1,fun _ _=>rfl,fun _ _=>rfl⟩
end slices_ContainsFunc_int_int__impl_areNumbers_1
namespace impl_areNumbers
abbrev R:=Bool
noncomputable def m (N:Nat) (a0:List Int):Option R:=
 ob (slices_ContainsFunc_int_int__impl_areNumbers_1.m N a0) fun y1=>
 some (!y1)
@[reducible] noncomputable def sp (N:Nat):Spec E:=⟨[.val (.slice 3 (.int .i64))],[.bool],true,false,R,fun x=>m N x.1,fun r=>(r,()),fun r=>((),()),fun a b=>a.1,fun _ _=>rfl,fun _ _=>rfl⟩
end impl_areNumbers
namespace impl_areRising
abbrev R:=Bool
noncomputable def step2 (N:Nat) (a0:List Int) (rec:Int→Option R):Int→Option R
 | v1=>
  bif (decide (v1<(a0.length:Int))) then
   bif (decide (0≤(w64 (v1 - (1:Int))))) then
   bif (decide ((w64 (v1 - (1:Int)))<(a0.length:Int))) then
   bif (decide (0≤v1)) then
   bif (decide (v1<(a0.length:Int))) then
   bif (decide ((a0.getD (Int.toNat (w64 (v1 - (1:Int)))) (0:Int))≥(a0.getD (Int.toNat v1) (0:Int)))) then
    some false
   else
   rec (w64 (v1+(1:Int)))
   else none
   else none
   else none
   else none
  else
  some true
noncomputable def lp2 (N:Nat) (a0:List Int):Int→Option R:=
 miter (fun rec=>step2 N a0 rec) N
noncomputable def m0 (N:Nat) (a0:List Int) (lp2:Int→Option R):Option R:=
 lp2 (1:Int)
@[reducible] noncomputable def m (N:Nat) (a0:List Int):Option R:=m0 N a0 (lp2 N a0)
@[reducible] noncomputable def sp (N:Nat):Spec E:=⟨[.val (.slice 3 (.int .i64))],[.bool],true,false,R,fun x=>m N x.1,fun r=>(r,()),fun r=>((),()),fun a b=>a.1,fun _ _=>rfl,fun _ _=>rfl⟩
end impl_areRising
namespace impl_membersOK
abbrev R:=Bool
noncomputable def m (N:Nat) (a0:List Int):Option R:=
 bif (decide ((a0.length:Int) > (0:Int))) then
  ob (impl_areNumbers.m N a0) fun y1=>
  bif (bif true then y1 else false) then
   ob (impl_areRising.m N a0) fun y2=>
   some (bif true then y2 else false)
  else
  some false
 else
 some false
@[reducible] noncomputable def sp (N:Nat):Spec E:=⟨[.val (.slice 3 (.int .i64))],[.bool],true,false,R,fun x=>m N x.1,fun r=>(r,()),fun r=>((),()),fun a b=>a.1,fun _ _=>rfl,fun _ _=>rfl⟩
end impl_membersOK
namespace impl_readMembers
abbrev R:=(List Int)×Bool
noncomputable def step3 (N:Nat) (a0:ByteArray) (rec:(Int×Int×(List Int))→Option R):(Int×Int×(List Int))→Option R
 | (v1,v2,v3)=>
  bif (decide (v2<v1)) then
   bif (decide (0≤v2)) then
   bif (decide (v2<(a0.size:Int))) then
   bif (room (v3.length+([(w64 (sb a0 v2))]).length) 8) then
   rec (v1,(w64 (v2+(1:Int))),(v3++[(w64 (sb a0 v2))]))
   else none
   else none
   else none
  else
  ob (impl_membersOK.m N v3) fun y1=>
  some (v3,y1)
noncomputable def lp3 (N:Nat) (a0:ByteArray):(Int×Int×(List Int))→Option R:=
 miter (fun rec=>step3 N a0 rec) N
noncomputable def m0 (N:Nat) (a0:ByteArray) (lp3:Int×Int×(List Int)→Option R):Option R:=
 lp3 ((a0.size:Int),(0:Int),([]:List Int))
@[reducible] noncomputable def m (N:Nat) (a0:ByteArray):Option R:=m0 N a0 (lp3 N a0)
@[reducible] noncomputable def sp (N:Nat):Spec E:=⟨[.val .str],[(.slice 3 (.int .i64)),.bool],true,false,R,fun x=>m N x.1,fun r=>(r.1,r.2,()),fun r=>((),()),fun a b=>(a.1,a.2.1),fun _ _=>rfl,fun _ _=>rfl⟩
end impl_readMembers
namespace impl_entryOK
abbrev R:=Bool
noncomputable def m (N:Nat) (a0:Entry):Option R:=
 ob (impl_within.m N a0.Term (1:Int) (1000000:Int)) fun y1=>
 bif (!y1) then
  some false
 else
 bif (a0.Kind==(0:Int)) then
  some (seq a0.Data ByteArray.empty)
 else
 bif (a0.Kind==(1:Int)) then
  ob (impl_within.m N (a0.Data.size:Int) (1:Int) (100:Int)) fun y2=>
  some y2
 else
 bif (a0.Kind==(2:Int)) then
  ob (impl_readMembers.m N a0.Data) fun y3=>
  some y3.2
 else
 some false
@[reducible] noncomputable def sp (N:Nat):Spec E:=⟨[.val (.st 35)],[.bool],true,false,R,fun x=>m N x.1,fun r=>(r,()),fun r=>((),()),fun a b=>a.1,fun _ _=>rfl,fun _ _=>rfl⟩
end impl_entryOK
namespace impl_logOK
abbrev R:=Bool
noncomputable def step2 (N:Nat) (a0:List Entry) (a1:Int) (rec:(Int×Int)→Option R):(Int×Int)→Option R
 | (v3,v4)=>
  bif (decide (v4<v3)) then
   bif (decide (0≤v4)) then
   bif (decide (v4<(a0.length:Int))) then
   ob (impl_entryOK.m N (a0.getD (Int.toNat v4) Entry.dz)) fun y1=>
   bif (!y1) then
    some false
   else
   bif (bif false then true else (decide ((a0.getD (Int.toNat v4) Entry.dz).Term > a1))) then
    some false
   else
   bif (decide (v4 > (0:Int))) then
    bif (decide (0≤(w64 (v4 - (1:Int))))) then
    bif (decide ((w64 (v4 - (1:Int)))<(a0.length:Int))) then
    (let w2:Bool:=(bif false then true else (bif true then (decide ((a0.getD (Int.toNat (w64 (v4 - (1:Int)))) Entry.dz).Term > (a0.getD (Int.toNat v4) Entry.dz).Term)) else false))
    bif w2 then
     some false
    else
    rec (v3,(w64 (v4+(1:Int)))))
    else none
    else none
   else
   bif (bif false then true else false) then
    some false
   else
   rec (v3,(w64 (v4+(1:Int))))
   else none
   else none
  else
  some (decide ((a0.length:Int)≤(60:Int)))
noncomputable def lp2 (N:Nat) (a0:List Entry) (a1:Int):(Int×Int)→Option R:=
 miter (fun rec=>step2 N a0 a1 rec) N
noncomputable def m0 (N:Nat) (a0:List Entry) (a1:Int) (lp2:Int×Int→Option R):Option R:=
 lp2 ((a0.length:Int),(0:Int))
@[reducible] noncomputable def m (N:Nat) (a0:List Entry) (a1:Int):Option R:=m0 N a0 a1 (lp2 N a0 a1)
@[reducible] noncomputable def sp (N:Nat):Spec E:=⟨[.val (.slice 35 (.st 35)),.val (.int .i64)],[.bool],true,false,R,fun x=>m N x.1 x.2.1,fun r=>(r,()),fun r=>((),(),()),fun a b=>a.1,fun _ _=>rfl,fun _ _=>rfl⟩
end impl_logOK
namespace impl_StateOK
abbrev R:=Bool
noncomputable def m (N:Nat) (a0:State):Option R:=
 ob (impl_within.m N a0.Term (0:Int) (1000000:Int)) fun y1=>
 bif y1 then
  ob (impl_within.m N a0.Vote (-1:Int) (6:Int)) fun y2=>
  bif (bif true then y2 else false) then
   ob (impl_logOK.m N a0.Log a0.Term) fun y3=>
   some (bif true then y3 else false)
  else
  some false
 else
 some false
@[reducible] noncomputable def sp (N:Nat):Spec E:=⟨[.val (.st 58)],[.bool],true,false,R,fun x=>m N x.1,fun r=>(r,()),fun r=>((),()),fun a b=>a.1,fun _ _=>rfl,fun _ _=>rfl⟩
end impl_StateOK
namespace impl_reachOK
abbrev R:=Bool
noncomputable def step4 (N:Nat) (a0:List Int) (a1:List Int) (a2:Int) (rec:(Int×Int)→Option R):(Int×Int)→Option R
 | (v3,v4)=>
  bif (decide (v4<v3)) then
   bif (decide (0≤v4)) then
   bif (decide (v4<(a0.length:Int))) then
   ob (impl_within.m N (a0.getD (Int.toNat v4) (0:Int)) (1:Int) (w64 (a2+(1:Int)))) fun y1=>
   bif (!y1) then
    some false
   else
   bif (decide (0≤v4)) then
   bif (decide (v4<(a1.length:Int))) then
   bif (decide (0≤v4)) then
   bif (decide (v4<(a0.length:Int))) then
   ob (impl_within.m N (a1.getD (Int.toNat v4) (0:Int)) (0:Int) (w64 ((a0.getD (Int.toNat v4) (0:Int)) - (1:Int)))) fun y2=>
   bif (bif false then true else (!y2)) then
    some false
   else
   rec (v3,(w64 (v4+(1:Int))))
   else none
   else none
   else none
   else none
   else none
   else none
  else
  some true
noncomputable def lp4 (N:Nat) (a0:List Int) (a1:List Int) (a2:Int):(Int×Int)→Option R:=
 miter (fun rec=>step4 N a0 a1 a2 rec) N
noncomputable def m0 (N:Nat) (a0:List Int) (a1:List Int) (a2:Int) (lp4:Int×Int→Option R):Option R:=
 bif ((a0.length:Int) != (7:Int)) then
  some false
 else
 bif (bif false then true else ((a1.length:Int) != (7:Int))) then
  some false
 else
 lp4 ((a0.length:Int),(0:Int))
@[reducible] noncomputable def m (N:Nat) (a0:List Int) (a1:List Int) (a2:Int):Option R:=m0 N a0 a1 a2 (lp4 N a0 a1 a2)
@[reducible] noncomputable def sp (N:Nat):Spec E:=⟨[.val (.slice 3 (.int .i64)),.val (.slice 3 (.int .i64)),.val (.int .i64)],[.bool],true,false,R,fun x=>m N x.1 x.2.1 x.2.2.1,fun r=>(r,()),fun r=>((),(),(),()),fun a b=>a.1,fun _ _=>rfl,fun _ _=>rfl⟩
end impl_reachOK
end Mir.Y
