/- Models of functions. -/
import Derived.Test.YtbbkpgpfppnakaaJE
namespace Mir.Y
set_option linter.unusedVariables false
set_option maxRecDepth 10000
open Go Go.Proofs Mir
namespace laws_szEntry
abbrev R:=Int
noncomputable def m (N:Nat) (a0:Entry) (a1:Int):Option R:=
 bif (decide ((w64 (a1 - (a0.Data.size:Int)))<(0:Int))) then
  some (-1:Int)
 else
 some (w64 (a1 - (a0.Data.size:Int)))
@[reducible] noncomputable def sp (N:Nat):Spec E:=⟨[.val (.st 61),.val (.int .i64)],[(.int .i64)],true,false,R,fun x=>m N x.1 x.2.1,fun r=>(r,()),fun r=>((),(),()),fun a b=>a.1,fun _ _=>rfl,fun _ _=>rfl⟩
end laws_szEntry
namespace laws_szEntryS
abbrev R:=Int
noncomputable def step5 (N:Nat) (a0:List Entry) (a1:Int) (rec:(Int×Int)→Option R):(Int×Int)→Option R
 | (v1,v2)=>
  bif (decide (v2<(a0.length:Int))) then
   bif (decide (0≤v2)) then
   bif (decide (v2<(a0.length:Int))) then
   ob (laws_szEntry.m N (a0.getD (Int.toNat v2) Entry.dz) v1) fun y1=>
   bif (decide (y1<(0:Int))) then
    some (-1:Int)
   else
   rec (y1,(w64 (v2+(1:Int))))
   else none
   else none
  else
  some v1
noncomputable def lp5 (N:Nat) (a0:List Entry) (a1:Int):(Int×Int)→Option R:=
 miter (fun rec=>step5 N a0 a1 rec) N
noncomputable def m0 (N:Nat) (a0:List Entry) (a1:Int) (lp5:Int×Int→Option R):Option R:=
 bif (decide ((w64 (a1 - (a0.length:Int)))<(0:Int))) then
  some (-1:Int)
 else
 lp5 ((w64 (a1 - (a0.length:Int))),(0:Int))
@[reducible] noncomputable def m (N:Nat) (a0:List Entry) (a1:Int):Option R:=m0 N a0 a1 (lp5 N a0 a1)
@[reducible] noncomputable def sp (N:Nat):Spec E:=⟨[.val (.slice 61 (.st 61)),.val (.int .i64)],[(.int .i64)],true,false,R,fun x=>m N x.1 x.2.1,fun r=>(r,()),fun r=>((),(),()),fun a b=>a.1,fun _ _=>rfl,fun _ _=>rfl⟩
end laws_szEntryS
namespace laws_szIntS
abbrev R:=Int
noncomputable def m (N:Nat) (a0:List Int) (a1:Int):Option R:=
 bif (decide ((w64 (a1 - (a0.length:Int)))<(0:Int))) then
  some (-1:Int)
 else
 some (w64 (a1 - (a0.length:Int)))
@[reducible] noncomputable def sp (N:Nat):Spec E:=⟨[.val (.slice 3 (.int .i64)),.val (.int .i64)],[(.int .i64)],true,false,R,fun x=>m N x.1 x.2.1,fun r=>(r,()),fun r=>((),(),()),fun a b=>a.1,fun _ _=>rfl,fun _ _=>rfl⟩
end laws_szIntS
namespace laws_szNode
abbrev R:=Int
noncomputable def m (N:Nat) (a0:Node) (a1:Int):Option R:=
 ob (laws_szEntryS.m N a0.Log a1) fun y1=>
 bif (decide (y1<(0:Int))) then
  some (-1:Int)
 else
 ob (laws_szIntS.m N a0.Start y1) fun y2=>
 bif (decide (y2<(0:Int))) then
  some (-1:Int)
 else
 ob (laws_szIntS.m N a0.Votes y2) fun y3=>
 bif (decide (y3<(0:Int))) then
  some (-1:Int)
 else
 ob (laws_szIntS.m N a0.Next y3) fun y4=>
 bif (decide (y4<(0:Int))) then
  some (-1:Int)
 else
 ob (laws_szIntS.m N a0.Match y4) fun y5=>
 bif (decide (y5<(0:Int))) then
  some (-1:Int)
 else
 some y5
@[reducible] noncomputable def sp (N:Nat):Spec E:=⟨[.val (.st 25),.val (.int .i64)],[(.int .i64)],true,false,R,fun x=>m N x.1 x.2.1,fun r=>(r,()),fun r=>((),(),()),fun a b=>a.1,fun _ _=>rfl,fun _ _=>rfl⟩
end laws_szNode
namespace laws_toEntry
abbrev R:=Entry
noncomputable def m (N:Nat) (a0:Entry):Option R:=
 some a0
@[reducible] noncomputable def sp (N:Nat):Spec E:=⟨[.val (.st 61)],[(.st 69)],true,false,R,fun x=>m N x.1,fun r=>(r,()),fun r=>((),()),fun a b=>a.1,fun _ _=>rfl,fun _ _=>rfl⟩
end laws_toEntry
namespace laws_toEntryS
abbrev R:=(List Entry)
noncomputable def step3 (N:Nat) (a0:List Entry) (rec:(Int×(List Entry))→Option R):(Int×(List Entry))→Option R
 | (v1,v2)=>
  bif (decide (v1<(a0.length:Int))) then
   bif (decide (0≤v1)) then
   bif (decide (v1<(a0.length:Int))) then
   ob (laws_toEntry.m N (a0.getD (Int.toNat v1) Entry.dz)) fun y1=>
   bif (decide (0≤v1)) then
   bif (decide (v1<(v2.length:Int))) then
   rec ((w64 (v1+(1:Int))),(v2.set (Int.toNat v1) y1))
   else none
   else none
   else none
   else none
  else
  some v2
noncomputable def lp3 (N:Nat) (a0:List Entry):(Int×(List Entry))→Option R:=
 miter (fun rec=>step3 N a0 rec) N
noncomputable def m0 (N:Nat) (a0:List Entry) (lp3:Int×(List Entry)→Option R):Option R:=
 bif (decide (0≤(a0.length:Int))) then
 bif (room (Int.toNat (a0.length:Int)) 32) then
 lp3 ((0:Int),(List.replicate (Int.toNat (a0.length:Int)) (Entry.mk (0:Int) (0:Int) ByteArray.empty)))
 else none
 else none
@[reducible] noncomputable def m (N:Nat) (a0:List Entry):Option R:=m0 N a0 (lp3 N a0)
@[reducible] noncomputable def sp (N:Nat):Spec E:=⟨[.val (.slice 61 (.st 61))],[(.slice 69 (.st 69))],true,false,R,fun x=>m N x.1,fun r=>(r,()),fun r=>((),()),fun a b=>a.1,fun _ _=>rfl,fun _ _=>rfl⟩
end laws_toEntryS
namespace laws_toIntS
abbrev R:=(List Int)
noncomputable def step3 (N:Nat) (a0:List Int) (rec:(Int×(List Int))→Option R):(Int×(List Int))→Option R
 | (v1,v2)=>
  bif (decide (v1<(a0.length:Int))) then
   bif (decide (0≤v1)) then
   bif (decide (v1<(a0.length:Int))) then
   bif (decide (0≤v1)) then
   bif (decide (v1<(v2.length:Int))) then
   rec ((w64 (v1+(1:Int))),(v2.set (Int.toNat v1) (a0.getD (Int.toNat v1) (0:Int))))
   else none
   else none
   else none
   else none
  else
  some v2
noncomputable def lp3 (N:Nat) (a0:List Int):(Int×(List Int))→Option R:=
 miter (fun rec=>step3 N a0 rec) N
noncomputable def m0 (N:Nat) (a0:List Int) (lp3:Int×(List Int)→Option R):Option R:=
 bif (decide (0≤(a0.length:Int))) then
 bif (room (Int.toNat (a0.length:Int)) 8) then
 lp3 ((0:Int),(List.replicate (Int.toNat (a0.length:Int)) (0:Int)))
 else none
 else none
@[reducible] noncomputable def m (N:Nat) (a0:List Int):Option R:=m0 N a0 (lp3 N a0)
@[reducible] noncomputable def sp (N:Nat):Spec E:=⟨[.val (.slice 3 (.int .i64))],[(.slice 3 (.int .i64))],true,false,R,fun x=>m N x.1,fun r=>(r,()),fun r=>((),()),fun a b=>a.1,fun _ _=>rfl,fun _ _=>rfl⟩
end laws_toIntS
namespace laws_toNode
abbrev R:=Node
noncomputable def m (N:Nat) (a0:Node):Option R:=
 ob (laws_toEntryS.m N a0.Log) fun y1=>
 ob (laws_toIntS.m N a0.Start) fun y2=>
 ob (laws_toIntS.m N a0.Votes) fun y3=>
 ob (laws_toIntS.m N a0.Next) fun y4=>
 ob (laws_toIntS.m N a0.Match) fun y5=>
 some (Node.mk a0.Id a0.Term a0.Vote y1 y2 a0.Role y3 y4 y5 a0.Commit a0.Elapsed a0.Wait a0.Up)
@[reducible] noncomputable def sp (N:Nat):Spec E:=⟨[.val (.st 25)],[(.st 29)],true,false,R,fun x=>m N x.1,fun r=>(r,()),fun r=>((),()),fun a b=>a.1,fun _ _=>rfl,fun _ _=>rfl⟩
end laws_toNode
namespace spec_l01In
abbrev R:=Bool
noncomputable def m (N:Nat) (a0:Int) (a1:Int) (a2:Int):Option R:=
 bif (decide (a0≥a1)) then
  some (bif true then (decide (a0≤a2)) else false)
 else
 some false
@[reducible] noncomputable def sp (N:Nat):Spec E:=⟨[.val (.int .i64),.val (.int .i64),.val (.int .i64)],[.bool],true,false,R,fun x=>m N x.1 x.2.1 x.2.2.1,fun r=>(r,()),fun r=>((),(),(),()),fun a b=>a.1,fun _ _=>rfl,fun _ _=>rfl⟩
end spec_l01In
namespace spec_l02Members
abbrev R:=(List Int)×Bool
noncomputable def step3 (N:Nat) (a0:ByteArray) (rec:(Int×(List Int))→Option R):(Int×(List Int))→Option R
 | (v1,v2)=>
  bif (decide (v1<(a0.size:Int))) then
   bif (decide (0≤v1)) then
   bif (decide (v1<(a0.size:Int))) then
   ob (spec_l01In.m N (w64 (sb a0 v1)) (0:Int) (6:Int)) fun y1=>
   bif (!y1) then
    some (([]:List Int),false)
   else
   bif (decide (v1 > (0:Int))) then
    bif (decide (0≤(w64 (v1 - (1:Int))))) then
    bif (decide ((w64 (v1 - (1:Int)))<(a0.size:Int))) then
    bif (decide (0≤v1)) then
    bif (decide (v1<(a0.size:Int))) then
    bif (bif false then true else (bif true then (decide ((sb a0 (w64 (v1 - (1:Int))))≥(sb a0 v1))) else false)) then
     some (([]:List Int),false)
    else
    bif (decide (0≤v1)) then
    bif (decide (v1<(a0.size:Int))) then
    bif (room (v2.length+([(w64 (sb a0 v1))]).length) 8) then
    rec ((w64 (v1+(1:Int))),(v2++[(w64 (sb a0 v1))]))
    else none
    else none
    else none
    else none
    else none
    else none
    else none
   else
   bif (bif false then true else false) then
    some (([]:List Int),false)
   else
   bif (decide (0≤v1)) then
   bif (decide (v1<(a0.size:Int))) then
   bif (room (v2.length+([(w64 (sb a0 v1))]).length) 8) then
   rec ((w64 (v1+(1:Int))),(v2++[(w64 (sb a0 v1))]))
   else none
   else none
   else none
   else none
   else none
  else
  some (v2,(decide ((v2.length:Int) > (0:Int))))
noncomputable def lp3 (N:Nat) (a0:ByteArray):(Int×(List Int))→Option R:=
 miter (fun rec=>step3 N a0 rec) N
noncomputable def m0 (N:Nat) (a0:ByteArray) (lp3:Int×(List Int)→Option R):Option R:=
 lp3 ((0:Int),([]:List Int))
@[reducible] noncomputable def m (N:Nat) (a0:ByteArray):Option R:=m0 N a0 (lp3 N a0)
@[reducible] noncomputable def sp (N:Nat):Spec E:=⟨[.val .str],[(.slice 3 (.int .i64)),.bool],true,false,R,fun x=>m N x.1,fun r=>(r.1,r.2,()),fun r=>((),()),fun a b=>(a.1,a.2.1),fun _ _=>rfl,fun _ _=>rfl⟩
end spec_l02Members
namespace spec_l02Entry
abbrev R:=Bool
noncomputable def m (N:Nat) (a0:Entry):Option R:=
 ob (spec_l01In.m N a0.Term (1:Int) (1000000:Int)) fun y1=>
 bif (!y1) then
  some false
 else
 bif (a0.Kind==(0:Int)) then
  some (seq a0.Data ByteArray.empty)
 else
 bif (a0.Kind==(1:Int)) then
  bif (decide ((a0.Data.size:Int)≥(1:Int))) then
   some (bif true then (decide ((a0.Data.size:Int)≤(100:Int))) else false)
  else
  some false
 else
 bif (a0.Kind==(2:Int)) then
  ob (spec_l02Members.m N a0.Data) fun y2=>
  some y2.2
 else
 some false
@[reducible] noncomputable def sp (N:Nat):Spec E:=⟨[.val (.st 69)],[.bool],true,false,R,fun x=>m N x.1,fun r=>(r,()),fun r=>((),()),fun a b=>a.1,fun _ _=>rfl,fun _ _=>rfl⟩
end spec_l02Entry
namespace spec_StateOK
abbrev R:=Bool
noncomputable def step4 (N:Nat) (a0:State) (rec:Int→Option R):Int→Option R
 | v0=>
  bif (decide (v0<(a0.Log.length:Int))) then
   bif (decide (0≤v0)) then
   bif (decide (v0<(a0.Log.length:Int))) then
   ob (spec_l02Entry.m N (a0.Log.getD (Int.toNat v0) Entry.dz)) fun y3=>
   bif (!y3) then
    some false
   else
   bif (decide (0≤v0)) then
   bif (decide (v0<(a0.Log.length:Int))) then
   bif (bif false then true else (decide ((a0.Log.getD (Int.toNat v0) Entry.dz).Term > a0.Term))) then
    some false
   else
   bif (decide (v0 > (0:Int))) then
    bif (decide (0≤(w64 (v0 - (1:Int))))) then
    bif (decide ((w64 (v0 - (1:Int)))<(a0.Log.length:Int))) then
    bif (decide (0≤v0)) then
    bif (decide (v0<(a0.Log.length:Int))) then
    (let w4:Bool:=(bif true then (decide ((a0.Log.getD (Int.toNat (w64 (v0 - (1:Int)))) Entry.dz).Term > (a0.Log.getD (Int.toNat v0) Entry.dz).Term)) else false)
    bif (bif false then true else w4) then
     some false
    else
    rec (w64 (v0+(1:Int))))
    else none
    else none
    else none
    else none
   else
   bif (bif false then true else false) then
    some false
   else
   rec (w64 (v0+(1:Int)))
   else none
   else none
   else none
   else none
  else
  some true
noncomputable def lp4 (N:Nat) (a0:State):Int→Option R:=
 miter (fun rec=>step4 N a0 rec) N
noncomputable def m0 (N:Nat) (a0:State) (lp4:Int→Option R):Option R:=
 ob (spec_l01In.m N a0.Term (0:Int) (1000000:Int)) fun y1=>
 bif (!y1) then
  some false
 else
 ob (spec_l01In.m N a0.Vote (-1:Int) (6:Int)) fun y2=>
 bif (bif false then true else (!y2)) then
  some false
 else
 bif (bif false then true else (decide ((a0.Log.length:Int) > (60:Int)))) then
  some false
 else
 lp4 (0:Int)
@[reducible] noncomputable def m (N:Nat) (a0:State):Option R:=m0 N a0 (lp4 N a0)
@[reducible] noncomputable def sp (N:Nat):Spec E:=⟨[.val (.st 64)],[.bool],true,false,R,fun x=>m N x.1,fun r=>(r,()),fun r=>((),()),fun a b=>a.1,fun _ _=>rfl,fun _ _=>rfl⟩
end spec_StateOK
namespace spec_l10Ids
abbrev R:=Bool
noncomputable def step2 (N:Nat) (a0:List Int) (rec:Int→Option R):Int→Option R
 | v1=>
  bif (decide (v1<(a0.length:Int))) then
   bif (decide (0≤v1)) then
   bif (decide (v1<(a0.length:Int))) then
   ob (spec_l01In.m N (a0.getD (Int.toNat v1) (0:Int)) (0:Int) (6:Int)) fun y1=>
   bif (!y1) then
    some false
   else
   bif (decide (v1 > (0:Int))) then
    bif (decide (0≤(w64 (v1 - (1:Int))))) then
    bif (decide ((w64 (v1 - (1:Int)))<(a0.length:Int))) then
    bif (decide (0≤v1)) then
    bif (decide (v1<(a0.length:Int))) then
    (let w2:Bool:=(bif false then true else (bif true then (decide ((a0.getD (Int.toNat (w64 (v1 - (1:Int)))) (0:Int))≥(a0.getD (Int.toNat v1) (0:Int)))) else false))
    bif w2 then
     some false
    else
    rec (w64 (v1+(1:Int))))
    else none
    else none
    else none
    else none
   else
   bif (bif false then true else false) then
    some false
   else
   rec (w64 (v1+(1:Int)))
   else none
   else none
  else
  some true
noncomputable def lp2 (N:Nat) (a0:List Int):Int→Option R:=
 miter (fun rec=>step2 N a0 rec) N
noncomputable def m0 (N:Nat) (a0:List Int) (lp2:Int→Option R):Option R:=
 lp2 (0:Int)
@[reducible] noncomputable def m (N:Nat) (a0:List Int):Option R:=m0 N a0 (lp2 N a0)
@[reducible] noncomputable def sp (N:Nat):Spec E:=⟨[.val (.slice 3 (.int .i64))],[.bool],true,false,R,fun x=>m N x.1,fun r=>(r,()),fun r=>((),()),fun a b=>a.1,fun _ _=>rfl,fun _ _=>rfl⟩
end spec_l10Ids
namespace spec_NodeOK
abbrev R:=Bool
noncomputable def step6 (N:Nat) (a0:Node) (rec:Int→Option R):Int→Option R
 | v0=>
  bif (decide (v0<(7:Int))) then
   bif (decide (0≤v0)) then
   bif (decide (v0<(a0.Next.length:Int))) then
   ob (spec_l01In.m N (a0.Next.getD (Int.toNat v0) (0:Int)) (1:Int) (w64 ((a0.Log.length:Int)+(1:Int)))) fun y9=>
   bif (!y9) then
    some false
   else
   bif (decide (0≤v0)) then
   bif (decide (v0<(a0.Match.length:Int))) then
   bif (decide (0≤v0)) then
   bif (decide (v0<(a0.Next.length:Int))) then
   ob (spec_l01In.m N (a0.Match.getD (Int.toNat v0) (0:Int)) (0:Int) (w64 ((a0.Next.getD (Int.toNat v0) (0:Int)) - (1:Int)))) fun y10=>
   bif (bif false then true else (!y10)) then
    some false
   else
   rec (w64 (v0+(1:Int)))
   else none
   else none
   else none
   else none
   else none
   else none
  else
  bif a0.Up then
   some true
  else
  some (bif false then true else (a0.Role==(0:Int)))
noncomputable def lp6 (N:Nat) (a0:Node):Int→Option R:=
 miter (fun rec=>step6 N a0 rec) N
noncomputable def m0 (N:Nat) (a0:Node) (lp6:Int→Option R):Option R:=
 ob (spec_l01In.m N a0.Id (0:Int) (6:Int)) fun y1=>
 bif (!y1) then
  some false
 else
 ob (spec_StateOK.m N (State.mk a0.Term a0.Vote a0.Log)) fun y2=>
 bif (bif false then true else (!y2)) then
  some false
 else
 ob (spec_l10Ids.m N a0.Start) fun y3=>
 bif (bif false then true else (!y3)) then
  some false
 else
 bif (bif false then true else ((a0.Start.length:Int)==(0:Int))) then
  some false
 else
 ob (spec_l10Ids.m N a0.Votes) fun y4=>
 bif (bif false then true else (!y4)) then
  some false
 else
 ob (spec_l01In.m N a0.Role (0:Int) (2:Int)) fun y5=>
 bif (bif false then true else (!y5)) then
  some false
 else
 bif ((a0.Next.length:Int) != (7:Int)) then
  some false
 else
 bif (bif false then true else ((a0.Match.length:Int) != (7:Int))) then
  some false
 else
 ob (spec_l01In.m N a0.Commit (0:Int) (a0.Log.length:Int)) fun y6=>
 bif (bif false then true else (!y6)) then
  some false
 else
 ob (spec_l01In.m N a0.Elapsed (0:Int) (1000:Int)) fun y7=>
 bif (bif false then true else (!y7)) then
  some false
 else
 ob (spec_l01In.m N a0.Wait (5:Int) (100:Int)) fun y8=>
 bif (bif false then true else (!y8)) then
  some false
 else
 lp6 (0:Int)
@[reducible] noncomputable def m (N:Nat) (a0:Node):Option R:=m0 N a0 (lp6 N a0)
@[reducible] noncomputable def sp (N:Nat):Spec E:=⟨[.val (.st 29)],[.bool],true,false,R,fun x=>m N x.1,fun r=>(r,()),fun r=>((),()),fun a b=>a.1,fun _ _=>rfl,fun _ _=>rfl⟩
end spec_NodeOK
namespace spec_l10Own
abbrev R:=Node
noncomputable def m (N:Nat) (a0:Node):Option R:=
 bif (room (([]:List Entry).length+a0.Log.length) 32) then
 bif (room (([]:List Int).length+a0.Start.length) 8) then
 bif (room (([]:List Int).length+a0.Votes.length) 8) then
 bif (room (([]:List Int).length+a0.Next.length) 8) then
 bif (room (([]:List Int).length+a0.Match.length) 8) then
 some (Node.mk a0.Id a0.Term a0.Vote (([]:List Entry)++a0.Log) (([]:List Int)++a0.Start) a0.Role (([]:List Int)++a0.Votes) (([]:List Int)++a0.Next) (([]:List Int)++a0.Match) a0.Commit a0.Elapsed a0.Wait a0.Up)
 else none
 else none
 else none
 else none
 else none
@[reducible] noncomputable def sp (N:Nat):Spec E:=⟨[.val (.st 29)],[(.st 29)],true,false,R,fun x=>m N x.1,fun r=>(r,()),fun r=>((),()),fun a b=>a.1,fun _ _=>rfl,fun _ _=>rfl⟩
end spec_l10Own
namespace spec_l10Members
abbrev R:=(List Int)
noncomputable def step2 (N:Nat) (a0:Node) (rec:Int→Option R):Int→Option R
 | v0=>
  bif (decide (v0≥(0:Int))) then
   bif (decide (0≤v0)) then
   bif (decide (v0<(a0.Log.length:Int))) then
   bif ((a0.Log.getD (Int.toNat v0) Entry.dz).Kind==(2:Int)) then
    bif (decide (0≤v0)) then
    bif (decide (v0<(a0.Log.length:Int))) then
    ob (spec_l02Members.m N ((a0.Log.getD (Int.toNat v0) Entry.dz).Data)) fun y1=>
    some y1.1
    else none
    else none
   else
   rec (w64 (v0 - (1:Int)))
   else none
   else none
  else
  some a0.Start
noncomputable def lp2 (N:Nat) (a0:Node):Int→Option R:=
 miter (fun rec=>step2 N a0 rec) N
noncomputable def m0 (N:Nat) (a0:Node) (lp2:Int→Option R):Option R:=
 lp2 (w64 ((a0.Log.length:Int) - (1:Int)))
@[reducible] noncomputable def m (N:Nat) (a0:Node):Option R:=m0 N a0 (lp2 N a0)
@[reducible] noncomputable def sp (N:Nat):Spec E:=⟨[.val (.st 29)],[(.slice 3 (.int .i64))],false,false,R,fun x=>m N x.1,fun r=>(r,()),fun r=>((),()),fun a b=>a.1,fun _ _=>rfl,fun _ _=>rfl⟩
end spec_l10Members
namespace spec_l10Term
abbrev R:=Int
noncomputable def m (N:Nat) (a0:Node) (a1:Int):Option R:=
 bif (a1==(0:Int)) then
  some (0:Int)
 else
 bif (decide (0≤(w64 (a1 - (1:Int))))) then
 bif (decide ((w64 (a1 - (1:Int)))<(a0.Log.length:Int))) then
 some ((a0.Log.getD (Int.toNat (w64 (a1 - (1:Int)))) Entry.dz).Term)
 else none
 else none
@[reducible] noncomputable def sp (N:Nat):Spec E:=⟨[.val (.st 29),.val (.int .i64)],[(.int .i64)],true,false,R,fun x=>m N x.1 x.2.1,fun r=>(r,()),fun r=>((),(),()),fun a b=>a.1,fun _ _=>rfl,fun _ _=>rfl⟩
end spec_l10Term
namespace spec_l10Append
abbrev R:=Message
noncomputable def m (N:Nat) (a0:Node) (a1:Int):Option R:=
 bif (decide (0≤a1)) then
 bif (decide (a1<(a0.Next.length:Int))) then
 ob (spec_l10Term.m N a0 (w64 ((a0.Next.getD (Int.toNat a1) (0:Int)) - (1:Int)))) fun y1=>
 bif (decide (0≤(w64 ((a0.Next.getD (Int.toNat a1) (0:Int)) - (1:Int))))) then
 bif (decide ((w64 ((a0.Next.getD (Int.toNat a1) (0:Int)) - (1:Int)))≤((a0.Log.length:Nat):Int))) then
 bif (room (([]:List Entry).length+(a0.Log.drop (Int.toNat (w64 ((a0.Next.getD (Int.toNat a1) (0:Int)) - (1:Int))))).length) 32) then
 some (Message.mk (3:Int) a0.Id a1 a0.Term (w64 ((a0.Next.getD (Int.toNat a1) (0:Int)) - (1:Int))) y1 a0.Commit (([]:List Entry)++(a0.Log.drop (Int.toNat (w64 ((a0.Next.getD (Int.toNat a1) (0:Int)) - (1:Int)))))) false)
 else none
 else none
 else none
 else none
 else none
@[reducible] noncomputable def sp (N:Nat):Spec E:=⟨[.val (.st 29),.val (.int .i64)],[(.st 57)],true,false,R,fun x=>m N x.1 x.2.1,fun r=>(r,()),fun r=>((),(),()),fun a b=>a.1,fun _ _=>rfl,fun _ _=>rfl⟩
end spec_l10Append
namespace spec_l10Tell
abbrev R:=(List Message)
noncomputable def step4 (N:Nat) (a0:Node) (rec:((List Int)×Int×(List Message))→Option R):((List Int)×Int×(List Message))→Option R
 | (v0,v1,v15)=>
  bif (decide (v1<(v0.length:Int))) then
   bif (decide (0≤v1)) then
   bif (decide (v1<(v0.length:Int))) then
   bif ((v0.getD (Int.toNat v1) (0:Int)) != a0.Id) then
    bif (decide (0≤v1)) then
    bif (decide (v1<(v0.length:Int))) then
    ob (spec_l10Append.m N a0 (v0.getD (Int.toNat v1) (0:Int))) fun y2=>
    bif (room (v15.length+([y2]).length) 88) then
    rec (v0,(w64 (v1+(1:Int))),(v15++[y2]))
    else none
    else none
    else none
   else
   rec (v0,(w64 (v1+(1:Int))),v15)
   else none
   else none
  else
  some v15
noncomputable def lp4 (N:Nat) (a0:Node):((List Int)×Int×(List Message))→Option R:=
 miter (fun rec=>step4 N a0 rec) N
noncomputable def m0 (N:Nat) (a0:Node) (lp4:(List Int)×Int×(List Message)→Option R):Option R:=
 ob (spec_l10Members.m N a0) fun y1=>
 lp4 (y1,(0:Int),([]:List Message))
@[reducible] noncomputable def m (N:Nat) (a0:Node):Option R:=m0 N a0 (lp4 N a0)
@[reducible] noncomputable def sp (N:Nat):Spec E:=⟨[.val (.st 29)],[(.slice 57 (.st 57))],true,true,R,fun x=>m N x.1,fun r=>(r,()),fun r=>((),()),fun a b=>a.1,fun _ _=>rfl,fun _ _=>rfl⟩
end spec_l10Tell
namespace spec_l10Members_
abbrev R:=(List Int)×Node
noncomputable def step2 (N:Nat) (a0:Node) (rec:Int→Option R):Int→Option R
 | v9=>
  bif (decide (v9≥(0:Int))) then
   bif (decide (0≤v9)) then
   bif (decide (v9<(a0.Log.length:Int))) then
   bif ((a0.Log.getD (Int.toNat v9) Entry.dz).Kind==(2:Int)) then
    bif (decide (0≤v9)) then
    bif (decide (v9<(a0.Log.length:Int))) then
    ob (spec_l02Members.m N ((a0.Log.getD (Int.toNat v9) Entry.dz).Data)) fun y1=>
    some (y1.1,a0)
    else none
    else none
   else
   rec (w64 (v9 - (1:Int)))
   else none
   else none
  else
  some (a0.Start,a0)
noncomputable def lp2 (N:Nat) (a0:Node):Int→Option R:=
 miter (fun rec=>step2 N a0 rec) N
noncomputable def m0 (N:Nat) (a0:Node) (lp2:Int→Option R):Option R:=
 lp2 (w64 ((a0.Log.length:Int) - (1:Int)))
@[reducible] noncomputable def m (N:Nat) (a0:Node):Option R:=m0 N a0 (lp2 N a0)
@[reducible] noncomputable def sp (N:Nat):Spec E:=⟨[.mut false (.st 28)],[(.slice 3 (.int .i64))],false,false,R,fun x=>m N x.1,fun r=>(r.1,()),fun r=>(r.2,()),fun a b=>(a.1,b.1),fun _ _=>rfl,fun _ _=>rfl⟩
end spec_l10Members_
namespace spec_l10Has
abbrev R:=Bool
noncomputable def step2 (N:Nat) (a0:List Int) (a1:Int) (rec:Int→Option R):Int→Option R
 | v2=>
  bif (decide (v2<(a0.length:Int))) then
   bif (decide (0≤v2)) then
   bif (decide (v2<(a0.length:Int))) then
   bif ((a0.getD (Int.toNat v2) (0:Int))==a1) then
    some true
   else
   rec (w64 (v2+(1:Int)))
   else none
   else none
  else
  some false
noncomputable def lp2 (N:Nat) (a0:List Int) (a1:Int):Int→Option R:=
 miter (fun rec=>step2 N a0 a1 rec) N
noncomputable def m0 (N:Nat) (a0:List Int) (a1:Int) (lp2:Int→Option R):Option R:=
 lp2 (0:Int)
@[reducible] noncomputable def m (N:Nat) (a0:List Int) (a1:Int):Option R:=m0 N a0 a1 (lp2 N a0 a1)
@[reducible] noncomputable def sp (N:Nat):Spec E:=⟨[.val (.slice 3 (.int .i64)),.val (.int .i64)],[.bool],true,false,R,fun x=>m N x.1 x.2.1,fun r=>(r,()),fun r=>((),(),()),fun a b=>a.1,fun _ _=>rfl,fun _ _=>rfl⟩
end spec_l10Has
namespace spec_l01Bit
abbrev R:=Int
noncomputable def m (N:Nat) (a0:Bool):Option R:=
 bif a0 then
  some (1:Int)
 else
 some (0:Int)
@[reducible] noncomputable def sp (N:Nat):Spec E:=⟨[.val .bool],[(.int .i64)],true,false,R,fun x=>m N x.1,fun r=>(r,()),fun r=>((),()),fun a b=>a.1,fun _ _=>rfl,fun _ _=>rfl⟩
end spec_l01Bit
namespace spec_l10Most
abbrev R:=Bool
noncomputable def step3 (N:Nat) (a0:List Int) (a1:List Int) (rec:(Int×Int)→Option R):(Int×Int)→Option R
 | (v2,v3)=>
  bif (decide (v3<(a1.length:Int))) then
   bif (decide (0≤v3)) then
   bif (decide (v3<(a1.length:Int))) then
   ob (spec_l10Has.m N a0 (a1.getD (Int.toNat v3) (0:Int))) fun y1=>
   ob (spec_l01Bit.m N y1) fun y2=>
   rec ((w64 (v2+y2)),(w64 (v3+(1:Int))))
   else none
   else none
  else
  some (decide ((w64 ((2:Int) * v2)) > (a1.length:Int)))
noncomputable def lp3 (N:Nat) (a0:List Int) (a1:List Int):(Int×Int)→Option R:=
 miter (fun rec=>step3 N a0 a1 rec) N
noncomputable def m0 (N:Nat) (a0:List Int) (a1:List Int) (lp3:Int×Int→Option R):Option R:=
 lp3 ((0:Int),(0:Int))
@[reducible] noncomputable def m (N:Nat) (a0:List Int) (a1:List Int):Option R:=m0 N a0 a1 (lp3 N a0 a1)
@[reducible] noncomputable def sp (N:Nat):Spec E:=⟨[.val (.slice 3 (.int .i64)),.val (.slice 3 (.int .i64))],[.bool],true,false,R,fun x=>m N x.1 x.2.1,fun r=>(r,()),fun r=>((),(),()),fun a b=>a.1,fun _ _=>rfl,fun _ _=>rfl⟩
end spec_l10Most
namespace spec_l10Advance
abbrev R:=Node
noncomputable def step3 (N:Nat) (a0:Node) (lp7:(List Int)×Int×Int×Int×Int×Int×(List Entry)×(List Int)×Int×(List Int)×(List Int)×(List Int)×Int×Int×Int×Bool×Int×Int×Int×Int×Int×Int×Int×(List Int)→Option R) (rec:((List Int)×Int×Int×Int×Int×(List Entry)×(List Int)×Int×(List Int)×(List Int)×(List Int)×Int×Int×Int×Bool×Int×Int×Int×Int×Int×Int×Int)→Option R):((List Int)×Int×Int×Int×Int×(List Entry)×(List Int)×Int×(List Int)×(List Int)×(List Int)×Int×Int×Int×Bool×Int×Int×Int×Int×Int×Int×Int)→Option R
 | (v0,v1,v2,v3,v4,v5,v6,v7,v8,v9,v10,v11,v12,v13,v14,v15,v16,v17,v18,v19,v20,v21)=>
  bif (decide (v1 > v11)) then
   bif (decide (0≤(w64 (v1 - (1:Int))))) then
   bif (decide ((w64 (v1 - (1:Int)))<(v5.length:Int))) then
   bif (bif true then ((v5.getD (Int.toNat (w64 (v1 - (1:Int)))) Entry.dz).Term==v3) else false) then
    lp7 (v0,v1,(0:Int),v2,v3,v4,v5,v6,v7,v8,v9,v10,v11,v12,v13,v14,v15,v16,v17,v18,v19,v20,v21,[v2])
   else
   some (Node.mk v2 v3 v4 v5 v6 v7 v8 v9 v10 v11 v12 v13 v14)
   else none
   else none
  else
  some (Node.mk v2 v3 v4 v5 v6 v7 v8 v9 v10 v11 v12 v13 v14)
noncomputable def step7 (N:Nat) (a0:Node) (lp3:(List Int)×Int×Int×Int×Int×(List Entry)×(List Int)×Int×(List Int)×(List Int)×(List Int)×Int×Int×Int×Bool×Int×Int×Int×Int×Int×Int×Int→Option R) (rec:((List Int)×Int×Int×Int×Int×Int×(List Entry)×(List Int)×Int×(List Int)×(List Int)×(List Int)×Int×Int×Int×Bool×Int×Int×Int×Int×Int×Int×Int×(List Int))→Option R):((List Int)×Int×Int×Int×Int×Int×(List Entry)×(List Int)×Int×(List Int)×(List Int)×(List Int)×Int×Int×Int×Bool×Int×Int×Int×Int×Int×Int×Int×(List Int))→Option R
 | (v0,v1,v2,v3,v4,v5,v6,v7,v8,v9,v10,v11,v12,v13,v14,v15,v16,v17,v18,v19,v20,v21,v22,v23)=>
  bif (decide (v2<(7:Int))) then
   bif (decide (0≤v2)) then
   bif (decide (v2<(v11.length:Int))) then
   bif (decide ((v11.getD (Int.toNat v2) (0:Int))≥v1)) then
    bif (bif true then (v2 != v3) else false) then
     bif (room (v23.length+([v2]).length) 8) then
     rec (v0,v1,(w64 (v2+(1:Int))),v3,v4,v5,v6,v7,v8,v9,v10,v11,v12,v13,v14,v15,v16,v17,v18,v19,v20,v21,v22,(v23++[v2]))
     else none
    else
    rec (v0,v1,(w64 (v2+(1:Int))),v3,v4,v5,v6,v7,v8,v9,v10,v11,v12,v13,v14,v15,v16,v17,v18,v19,v20,v21,v22,v23)
   else
   rec (v0,v1,(w64 (v2+(1:Int))),v3,v4,v5,v6,v7,v8,v9,v10,v11,v12,v13,v14,v15,v16,v17,v18,v19,v20,v21,v22,v23)
   else none
   else none
  else
  ob (spec_l10Most.m N v23 v0) fun y2=>
  bif y2 then
   some (Node.mk v3 v4 v5 v6 v7 v8 v9 v10 v11 v1 v13 v14 v15)
  else
  lp3 (v0,(w64 (v1 - (1:Int))),v3,v4,v5,v6,v7,v8,v9,v10,v11,v12,v13,v14,v15,v16,v17,v18,v19,v20,v21,v22)
noncomputable def lp7 (N:Nat) (a0:Node) (r3:(List Int)×Int×Int×Int×Int×(List Entry)×(List Int)×Int×(List Int)×(List Int)×(List Int)×Int×Int×Int×Bool×Int×Int×Int×Int×Int×Int×Int→Option R):((List Int)×Int×Int×Int×Int×Int×(List Entry)×(List Int)×Int×(List Int)×(List Int)×(List Int)×Int×Int×Int×Bool×Int×Int×Int×Int×Int×Int×Int×(List Int))→Option R:=
 miter (fun rec=>step7 N a0 r3 rec) N
noncomputable def lp3 (N:Nat) (a0:Node):((List Int)×Int×Int×Int×Int×(List Entry)×(List Int)×Int×(List Int)×(List Int)×(List Int)×Int×Int×Int×Bool×Int×Int×Int×Int×Int×Int×Int)→Option R:=
 miter (fun rec=>step3 N a0 (lp7 N a0 rec) rec) N
noncomputable def m0 (N:Nat) (a0:Node) (lp3:(List Int)×Int×Int×Int×Int×(List Entry)×(List Int)×Int×(List Int)×(List Int)×(List Int)×Int×Int×Int×Bool×Int×Int×Int×Int×Int×Int×Int→Option R):Option R:=
 ob (spec_l10Members.m N a0) fun y1=>
 lp3 (y1,(a0.Log.length:Int),a0.Id,a0.Term,a0.Vote,a0.Log,a0.Start,a0.Role,a0.Votes,a0.Next,a0.Match,a0.Commit,a0.Elapsed,a0.Wait,a0.Up,(0:Int),(0:Int),(0:Int),(0:Int),(0:Int),(0:Int),(0:Int))
@[reducible] noncomputable def m (N:Nat) (a0:Node):Option R:=m0 N a0 (lp3 N a0)
@[reducible] noncomputable def sp (N:Nat):Spec E:=⟨[.val (.st 29)],[(.st 29)],false,false,R,fun x=>m N x.1,fun r=>(r,()),fun r=>((),()),fun a b=>a.1,fun _ _=>rfl,fun _ _=>rfl⟩
end spec_l10Advance
namespace spec_l10Lead
abbrev R:=Node×(List Message)
noncomputable def step4 (N:Nat) (a0:Node) (rec:(Int×Int×Int×(List Int)×(List Int)×Int×Int×Int×Int×Int×Int×Int)→Option R):(Int×Int×Int×(List Int)×(List Int)×Int×Int×Int×Int×Int×Int×Int)→Option R
 | (v0,v5,v7,v12,v13,v14,v15,v16,v17,v18,v19,v20)=>
  bif (decide (v0<(7:Int))) then
   bif (decide (0≤v0)) then
   bif (decide (v0<(v12.length:Int))) then
   bif (decide (0≤v0)) then
   bif (decide (v0<(v13.length:Int))) then
   rec ((w64 (v0+(1:Int))),v5,v7,(v12.set (Int.toNat v0) (w64 ((a0.Log.length:Int)+(1:Int)))),(v13.set (Int.toNat v0) (0:Int)),v14,v15,v16,v17,v18,v19,v20)
   else none
   else none
   else none
   else none
  else
  bif (decide ((a0.Log.length:Int)<(60:Int))) then
   bif (room (a0.Log.length+([(Entry.mk a0.Term (0:Int) ByteArray.empty)]).length) 32) then
   ob (spec_l10Advance.m N (Node.mk a0.Id a0.Term a0.Vote (a0.Log++[(Entry.mk a0.Term (0:Int) ByteArray.empty)]) a0.Start v5 a0.Votes v12 v13 a0.Commit v7 a0.Wait a0.Up)) fun y1=>
   ob (spec_l10Tell.m N (Node.mk a0.Id a0.Term a0.Vote (a0.Log++[(Entry.mk a0.Term (0:Int) ByteArray.empty)]) a0.Start v5 a0.Votes v12 v13 a0.Commit v7 a0.Wait a0.Up)) fun y2=>
   some (y1,y2)
   else none
  else
  ob (spec_l10Advance.m N (Node.mk a0.Id a0.Term a0.Vote a0.Log a0.Start v5 a0.Votes v12 v13 a0.Commit v7 a0.Wait a0.Up)) fun y3=>
  ob (spec_l10Tell.m N (Node.mk a0.Id a0.Term a0.Vote a0.Log a0.Start v5 a0.Votes v12 v13 a0.Commit v7 a0.Wait a0.Up)) fun y4=>
  some (y3,y4)
noncomputable def lp4 (N:Nat) (a0:Node):(Int×Int×Int×(List Int)×(List Int)×Int×Int×Int×Int×Int×Int×Int)→Option R:=
 miter (fun rec=>step4 N a0 rec) N
noncomputable def m0 (N:Nat) (a0:Node) (lp4:Int×Int×Int×(List Int)×(List Int)×Int×Int×Int×Int×Int×Int×Int→Option R):Option R:=
 lp4 ((0:Int),(2:Int),(0:Int),a0.Next,a0.Match,(0:Int),(0:Int),(0:Int),(0:Int),(0:Int),(0:Int),(0:Int))
@[reducible] noncomputable def m (N:Nat) (a0:Node):Option R:=m0 N a0 (lp4 N a0)
@[reducible] noncomputable def sp (N:Nat):Spec E:=⟨[.mov false (.st 28)],[(.st 29),(.slice 57 (.st 57))],false,false,R,fun x=>m N x.1,fun r=>(r.1,r.2,()),fun r=>((),()),fun a b=>(a.1,a.2.1),fun _ _=>rfl,fun _ _=>rfl⟩
end spec_l10Lead
namespace spec_l10Elect
abbrev R:=Node×(List Message)
noncomputable def step12 (N:Nat) (a0:Node) (a1:Int) (rec:((List Int)×Int×Int×Int×Int×Int×(List Entry)×(List Int)×(List Int)×(List Int)×Int×Int×Int×Int×Int×Int×Int×(List Message))→Option R):((List Int)×Int×Int×Int×Int×Int×(List Entry)×(List Int)×(List Int)×(List Int)×Int×Int×Int×Int×Int×Int×Int×(List Message))→Option R
 | (v0,v1,v3,v6,v8,v9,v11,v12,v13,v14,v15,v16,v17,v18,v19,v20,v21,v22)=>
  bif (decide (v1<(v0.length:Int))) then
   bif (decide (0≤v1)) then
   bif (decide (v1<(v0.length:Int))) then
   bif ((v0.getD (Int.toNat v1) (0:Int)) != a0.Id) then
    bif (decide (0≤v1)) then
    bif (decide (v1<(v0.length:Int))) then
    ob (spec_l10Term.m N (Node.mk a0.Id v3 a0.Id v11 a0.Start v6 v12 v13 v14 a0.Commit v8 v9 a0.Up) (v11.length:Int)) fun y4=>
    bif (room (v22.length+([(Message.mk (1:Int) a0.Id (v0.getD (Int.toNat v1) (0:Int)) v3 (v11.length:Int) y4 (0:Int) ([]:List Entry) false)]).length) 88) then
    rec (v0,(w64 (v1+(1:Int))),v3,v6,v8,v9,v11,v12,v13,v14,v15,v16,v17,v18,v19,v20,v21,(v22++[(Message.mk (1:Int) a0.Id (v0.getD (Int.toNat v1) (0:Int)) v3 (v11.length:Int) y4 (0:Int) ([]:List Entry) false)]))
    else none
    else none
    else none
   else
   rec (v0,(w64 (v1+(1:Int))),v3,v6,v8,v9,v11,v12,v13,v14,v15,v16,v17,v18,v19,v20,v21,v22)
   else none
   else none
  else
  some ((Node.mk a0.Id v3 a0.Id v11 a0.Start v6 v12 v13 v14 a0.Commit v8 v9 a0.Up),v22)
noncomputable def lp12 (N:Nat) (a0:Node) (a1:Int):((List Int)×Int×Int×Int×Int×Int×(List Entry)×(List Int)×(List Int)×(List Int)×Int×Int×Int×Int×Int×Int×Int×(List Message))→Option R:=
 miter (fun rec=>step12 N a0 a1 rec) N
noncomputable def m0 (N:Nat) (a0:Node) (a1:Int) (lp12:(List Int)×Int×Int×Int×Int×Int×(List Entry)×(List Int)×(List Int)×(List Int)×Int×Int×Int×Int×Int×Int×Int×(List Message)→Option R):Option R:=
 bif (!decide ((8:Int)=0)) then
 ob (spec_l10Members_.m N (Node.mk a0.Id (w64 (a0.Term+(1:Int))) a0.Id a0.Log a0.Start (1:Int) ([a0.Id]) a0.Next a0.Match a0.Commit (0:Int) (w64 ((5:Int)+(Int.tmod a1 (8:Int)))) a0.Up)) fun y1=>
 ob (spec_l10Most.m N y1.2.Votes y1.1) fun y2=>
 bif y2 then
  ob (spec_l10Lead.m N (Node.mk a0.Id (w64 (a0.Term+(1:Int))) a0.Id y1.2.Log a0.Start (1:Int) y1.2.Votes y1.2.Next y1.2.Match a0.Commit (0:Int) (w64 ((5:Int)+(Int.tmod a1 (8:Int)))) a0.Up)) fun y3=>
  some (y3.1,y3.2)
 else
 lp12 (y1.1,(0:Int),(w64 (a0.Term+(1:Int))),(1:Int),(0:Int),(w64 ((5:Int)+(Int.tmod a1 (8:Int)))),y1.2.Log,y1.2.Votes,y1.2.Next,y1.2.Match,(0:Int),(0:Int),(0:Int),(0:Int),(0:Int),(0:Int),(0:Int),([]:List Message))
 else none
@[reducible] noncomputable def m (N:Nat) (a0:Node) (a1:Int):Option R:=m0 N a0 a1 (lp12 N a0 a1)
@[reducible] noncomputable def sp (N:Nat):Spec E:=⟨[.mov false (.st 28),.val (.int .i64)],[(.st 29),(.slice 57 (.st 57))],false,false,R,fun x=>m N x.1 x.2.1,fun r=>(r.1,r.2,()),fun r=>((),(),()),fun a b=>(a.1,a.2.1),fun _ _=>rfl,fun _ _=>rfl⟩
end spec_l10Elect
namespace spec_l10Tick
abbrev R:=Node×(List Message)
noncomputable def m (N:Nat) (a0:Node) (a1:Int):Option R:=
 ob (spec_l10Own.m N a0) fun y1=>
 bif (y1.Role==(2:Int)) then
  bif (decide ((if (w64 (y1.Elapsed+(1:Int)))<(1000:Int) then (w64 (y1.Elapsed+(1:Int))) else (1000:Int))<(2:Int))) then
   some ((Node.mk y1.Id y1.Term y1.Vote y1.Log y1.Start y1.Role y1.Votes y1.Next y1.Match y1.Commit (if (w64 (y1.Elapsed+(1:Int)))<(1000:Int) then (w64 (y1.Elapsed+(1:Int))) else (1000:Int)) y1.Wait y1.Up),([]:List Message))
  else
  ob (spec_l10Tell.m N (Node.mk y1.Id y1.Term y1.Vote y1.Log y1.Start y1.Role y1.Votes y1.Next y1.Match y1.Commit (0:Int) y1.Wait y1.Up)) fun y2=>
  some ((Node.mk y1.Id y1.Term y1.Vote y1.Log y1.Start y1.Role y1.Votes y1.Next y1.Match y1.Commit (0:Int) y1.Wait y1.Up),y2)
 else
 bif (decide ((if (w64 (y1.Elapsed+(1:Int)))<(1000:Int) then (w64 (y1.Elapsed+(1:Int))) else (1000:Int))<y1.Wait)) then
  some ((Node.mk y1.Id y1.Term y1.Vote y1.Log y1.Start y1.Role y1.Votes y1.Next y1.Match y1.Commit (if (w64 (y1.Elapsed+(1:Int)))<(1000:Int) then (w64 (y1.Elapsed+(1:Int))) else (1000:Int)) y1.Wait y1.Up),([]:List Message))
 else
 ob (spec_l10Members_.m N (Node.mk y1.Id y1.Term y1.Vote y1.Log y1.Start y1.Role y1.Votes y1.Next y1.Match y1.Commit (if (w64 (y1.Elapsed+(1:Int)))<(1000:Int) then (w64 (y1.Elapsed+(1:Int))) else (1000:Int)) y1.Wait y1.Up)) fun y3=>
 ob (spec_l10Has.m N y3.1 y1.Id) fun y4=>
 bif (bif false then true else (!y4)) then
  some ((Node.mk y1.Id y1.Term y1.Vote y3.2.Log y1.Start y1.Role y3.2.Votes y3.2.Next y3.2.Match y1.Commit (if (w64 (y1.Elapsed+(1:Int)))<(1000:Int) then (w64 (y1.Elapsed+(1:Int))) else (1000:Int)) y1.Wait y1.Up),([]:List Message))
 else
 bif (bif false then true else (y1.Term==(1000000:Int))) then
  some ((Node.mk y1.Id y1.Term y1.Vote y3.2.Log y1.Start y1.Role y3.2.Votes y3.2.Next y3.2.Match y1.Commit (if (w64 (y1.Elapsed+(1:Int)))<(1000:Int) then (w64 (y1.Elapsed+(1:Int))) else (1000:Int)) y1.Wait y1.Up),([]:List Message))
 else
 ob (spec_l10Elect.m N (Node.mk y1.Id y1.Term y1.Vote y3.2.Log y1.Start y1.Role y3.2.Votes y3.2.Next y3.2.Match y1.Commit (if (w64 (y1.Elapsed+(1:Int)))<(1000:Int) then (w64 (y1.Elapsed+(1:Int))) else (1000:Int)) y1.Wait y1.Up) a1) fun y5=>
 some (y5.1,y5.2)
@[reducible] noncomputable def sp (N:Nat):Spec E:=⟨[.val (.st 29),.val (.int .i64)],[(.st 29),(.slice 57 (.st 57))],false,false,R,fun x=>m N x.1 x.2.1,fun r=>(r.1,r.2,()),fun r=>((),(),()),fun a b=>(a.1,a.2.1),fun _ _=>rfl,fun _ _=>rfl⟩
end spec_l10Tick
namespace spec_NodeTick
abbrev R:=Node×(List Message)×Int
noncomputable def m (N:Nat) (a0:Node) (a1:Int):Option R:=
 ob (spec_NodeOK.m N a0) fun y1=>
 bif (!y1) then
  some ((Node.mk (0:Int) (0:Int) (0:Int) ([]:List Entry) ([]:List Int) (0:Int) ([]:List Int) ([]:List Int) ([]:List Int) (0:Int) (0:Int) (0:Int) false),([]:List Message),(1:Int))
 else
 ob (spec_l01In.m N a1 (0:Int) (1000000:Int)) fun y2=>
 bif (!y2) then
  some ((Node.mk (0:Int) (0:Int) (0:Int) ([]:List Entry) ([]:List Int) (0:Int) ([]:List Int) ([]:List Int) ([]:List Int) (0:Int) (0:Int) (0:Int) false),([]:List Message),(4:Int))
 else
 bif (!a0.Up) then
  ob (spec_l10Own.m N a0) fun y3=>
  some (y3,([]:List Message),(5:Int))
 else
 ob (spec_l10Tick.m N a0 a1) fun y4=>
 some (y4.1,y4.2,(0:Int))
@[reducible] noncomputable def sp (N:Nat):Spec E:=⟨[.val (.st 29),.val (.int .i64)],[(.st 29),(.slice 57 (.st 57)),(.int .i64)],false,false,R,fun x=>m N x.1 x.2.1,fun r=>(r.1,r.2.1,r.2.2,()),fun r=>((),(),()),fun a b=>(a.1,a.2.1,a.2.2.1),fun _ _=>rfl,fun _ _=>rfl⟩
end spec_NodeTick
namespace impl_within
abbrev R:=Bool
noncomputable def m (N:Nat) (a0:Int) (a1:Int) (a2:Int):Option R:=
 bif (decide (a0≥a1)) then
  some (bif true then (decide (a0≤a2)) else false)
 else
 some false
@[reducible] noncomputable def sp (N:Nat):Spec E:=⟨[.val (.int .i64),.val (.int .i64),.val (.int .i64)],[.bool],true,false,R,fun x=>m N x.1 x.2.1 x.2.2.1,fun r=>(r,()),fun r=>((),(),(),()),fun a b=>a.1,fun _ _=>rfl,fun _ _=>rfl⟩
end impl_within
namespace impl_isNumber
abbrev R:=Bool
noncomputable def m (N:Nat) (a0:Int):Option R:=
 ob (impl_within.m N a0 (0:Int) (6:Int)) fun y1=>
 some y1
@[reducible] noncomputable def sp (N:Nat):Spec E:=⟨[.val (.int .i64)],[.bool],true,false,R,fun x=>m N x.1,fun r=>(r,()),fun r=>((),()),fun a b=>a.1,fun _ _=>rfl,fun _ _=>rfl⟩
end impl_isNumber
namespace impl_areNumbers_1
abbrev R:=Bool
noncomputable def m (N:Nat) (a0:Int):Option R:=
 ob (impl_within.m N a0 (0:Int) (6:Int)) fun y1=>
 some (!y1)
@[reducible] noncomputable def sp (N:Nat):Spec E:=⟨[.val (.int .i64)],[.bool],true,false,R,fun x=>m N x.1,fun r=>(r,()),fun r=>((),()),fun a b=>a.1,fun _ _=>rfl,fun _ _=>rfl⟩
end impl_areNumbers_1
namespace slices_IndexFunc_int_int__impl_areNumbers_1
abbrev R:=Int
noncomputable def step2 (N:Nat) (a0:List Int) (rec:(Int×Int)→Option R):(Int×Int)→Option R
 | (v1,v2)=>
  bif (decide (v2<v1)) then
   bif (decide (0≤v2)) then
   bif (decide (v2<(a0.length:Int))) then
   ob (impl_areNumbers_1.m N (a0.getD (Int.toNat v2) (0:Int))) fun y1=>
   bif y1 then
    some v2
   else
   rec (v1,(w64 (v2+(1:Int))))
   else none
   else none
  else
  some (-1:Int)
noncomputable def lp2 (N:Nat) (a0:List Int):(Int×Int)→Option R:=
 miter (fun rec=>step2 N a0 rec) N
noncomputable def m0 (N:Nat) (a0:List Int) (lp2:Int×Int→Option R):Option R:=
 lp2 ((a0.length:Int),(0:Int))
@[reducible] noncomputable def m (N:Nat) (a0:List Int):Option R:=m0 N a0 (lp2 N a0)
@[reducible] noncomputable def sp (N:Nat):Spec E:=⟨[.val (.slice 3 (.int .i64)),.clo 64 []],[(.int .i64)],true,false,R,fun x=>m N x.1,fun r=>(r,()),fun r=>((),(),()),fun a b=>a.1,fun _ _=>rfl,fun _ _=>rfl⟩
end slices_IndexFunc_int_int__impl_areNumbers_1
namespace slices_ContainsFunc_int_int__impl_areNumbers_1
abbrev R:=Bool
noncomputable def m (N:Nat) (a0:List Int):Option R:=
 ob (slices_IndexFunc_int_int__impl_areNumbers_1.m N a0) fun y1=>
 some (decide (y1≥(0:Int)))
@[reducible] noncomputable def sp (N:Nat):Spec E:=⟨[.val (.slice 3 (.int .i64)),.clo 64 []],[.bool],true,false,R,fun x=>m N x.1,fun r=>(r,()),fun r=>((),(),()),fun a b=>a.1,fun _ _=>rfl,fun _ _=>rfl⟩
end slices_ContainsFunc_int_int__impl_areNumbers_1
namespace impl_areNumbers
abbrev R:=Bool
noncomputable def m (N:Nat) (a0:List Int):Option R:=
 ob (slices_ContainsFunc_int_int__impl_areNumbers_1.m N a0) fun y1=>
 some (!y1)
@[reducible] noncomputable def sp (N:Nat):Spec E:=⟨[.val (.slice 3 (.int .i64))],[.bool],true,false,R,fun x=>m N x.1,fun r=>(r,()),fun r=>((),()),fun a b=>a.1,fun _ _=>rfl,fun _ _=>rfl⟩
end impl_areNumbers
namespace impl_areRising
abbrev R:=Bool
noncomputable def step2 (N:Nat) (a0:List Int) (rec:Int→Option R):Int→Option R
 | v1=>
  bif (decide (v1<(a0.length:Int))) then
   bif (decide (0≤(w64 (v1 - (1:Int))))) then
   bif (decide ((w64 (v1 - (1:Int)))<(a0.length:Int))) then
   bif (decide (0≤v1)) then
   bif (decide (v1<(a0.length:Int))) then
   bif (decide ((a0.getD (Int.toNat (w64 (v1 - (1:Int)))) (0:Int))≥(a0.getD (Int.toNat v1) (0:Int)))) then
    some false
   else
   rec (w64 (v1+(1:Int)))
   else none
   else none
   else none
   else none
  else
  some true
noncomputable def lp2 (N:Nat) (a0:List Int):Int→Option R:=
 miter (fun rec=>step2 N a0 rec) N
noncomputable def m0 (N:Nat) (a0:List Int) (lp2:Int→Option R):Option R:=
 lp2 (1:Int)
@[reducible] noncomputable def m (N:Nat) (a0:List Int):Option R:=m0 N a0 (lp2 N a0)
@[reducible] noncomputable def sp (N:Nat):Spec E:=⟨[.val (.slice 3 (.int .i64))],[.bool],true,false,R,fun x=>m N x.1,fun r=>(r,()),fun r=>((),()),fun a b=>a.1,fun _ _=>rfl,fun _ _=>rfl⟩
end impl_areRising
namespace impl_membersOK
abbrev R:=Bool
noncomputable def m (N:Nat) (a0:List Int):Option R:=
 bif (decide ((a0.length:Int) > (0:Int))) then
  ob (impl_areNumbers.m N a0) fun y1=>
  bif (bif true then y1 else false) then
   ob (impl_areRising.m N a0) fun y2=>
   some (bif true then y2 else false)
  else
  some false
 else
 some false
@[reducible] noncomputable def sp (N:Nat):Spec E:=⟨[.val (.slice 3 (.int .i64))],[.bool],true,false,R,fun x=>m N x.1,fun r=>(r,()),fun r=>((),()),fun a b=>a.1,fun _ _=>rfl,fun _ _=>rfl⟩
end impl_membersOK
namespace impl_readMembers
abbrev R:=(List Int)×Bool
noncomputable def step3 (N:Nat) (a0:ByteArray) (rec:(Int×Int×(List Int))→Option R):(Int×Int×(List Int))→Option R
 | (v1,v2,v3)=>
  bif (decide (v2<v1)) then
   bif (decide (0≤v2)) then
   bif (decide (v2<(a0.size:Int))) then
   bif (room (v3.length+([(w64 (sb a0 v2))]).length) 8) then
   rec (v1,(w64 (v2+(1:Int))),(v3++[(w64 (sb a0 v2))]))
   else none
   else none
   else none
  else
  ob (impl_membersOK.m N v3) fun y1=>
  some (v3,y1)
noncomputable def lp3 (N:Nat) (a0:ByteArray):(Int×Int×(List Int))→Option R:=
 miter (fun rec=>step3 N a0 rec) N
noncomputable def m0 (N:Nat) (a0:ByteArray) (lp3:Int×Int×(List Int)→Option R):Option R:=
 lp3 ((a0.size:Int),(0:Int),([]:List Int))
@[reducible] noncomputable def m (N:Nat) (a0:ByteArray):Option R:=m0 N a0 (lp3 N a0)
@[reducible] noncomputable def sp (N:Nat):Spec E:=⟨[.val .str],[(.slice 3 (.int .i64)),.bool],true,false,R,fun x=>m N x.1,fun r=>(r.1,r.2,()),fun r=>((),()),fun a b=>(a.1,a.2.1),fun _ _=>rfl,fun _ _=>rfl⟩
end impl_readMembers
namespace impl_entryOK
abbrev R:=Bool
noncomputable def m (N:Nat) (a0:Entry):Option R:=
 ob (impl_within.m N a0.Term (1:Int) (1000000:Int)) fun y1=>
 bif (!y1) then
  some false
 else
 bif (a0.Kind==(0:Int)) then
  some (seq a0.Data ByteArray.empty)
 else
 bif (a0.Kind==(1:Int)) then
  ob (impl_within.m N (a0.Data.size:Int) (1:Int) (100:Int)) fun y2=>
  some y2
 else
 bif (a0.Kind==(2:Int)) then
  ob (impl_readMembers.m N a0.Data) fun y3=>
  some y3.2
 else
 some false
@[reducible] noncomputable def sp (N:Nat):Spec E:=⟨[.val (.st 69)],[.bool],true,false,R,fun x=>m N x.1,fun r=>(r,()),fun r=>((),()),fun a b=>a.1,fun _ _=>rfl,fun _ _=>rfl⟩
end impl_entryOK
namespace impl_logOK
abbrev R:=Bool
noncomputable def step2 (N:Nat) (a0:List Entry) (a1:Int) (rec:(Int×Int)→Option R):(Int×Int)→Option R
 | (v3,v4)=>
  bif (decide (v4<v3)) then
   bif (decide (0≤v4)) then
   bif (decide (v4<(a0.length:Int))) then
   ob (impl_entryOK.m N (a0.getD (Int.toNat v4) Entry.dz)) fun y1=>
   bif (!y1) then
    some false
   else
   bif (bif false then true else (decide ((a0.getD (Int.toNat v4) Entry.dz).Term > a1))) then
    some false
   else
   bif (decide (v4 > (0:Int))) then
    bif (decide (0≤(w64 (v4 - (1:Int))))) then
    bif (decide ((w64 (v4 - (1:Int)))<(a0.length:Int))) then
    (let w2:Bool:=(bif false then true else (bif true then (decide ((a0.getD (Int.toNat (w64 (v4 - (1:Int)))) Entry.dz).Term > (a0.getD (Int.toNat v4) Entry.dz).Term)) else false))
    bif w2 then
     some false
    else
    rec (v3,(w64 (v4+(1:Int)))))
    else none
    else none
   else
   bif (bif false then true else false) then
    some false
   else
   rec (v3,(w64 (v4+(1:Int))))
   else none
   else none
  else
  some (decide ((a0.length:Int)≤(60:Int)))
noncomputable def lp2 (N:Nat) (a0:List Entry) (a1:Int):(Int×Int)→Option R:=
 miter (fun rec=>step2 N a0 a1 rec) N
noncomputable def m0 (N:Nat) (a0:List Entry) (a1:Int) (lp2:Int×Int→Option R):Option R:=
 lp2 ((a0.length:Int),(0:Int))
@[reducible] noncomputable def m (N:Nat) (a0:List Entry) (a1:Int):Option R:=m0 N a0 a1 (lp2 N a0 a1)
@[reducible] noncomputable def sp (N:Nat):Spec E:=⟨[.val (.slice 69 (.st 69)),.val (.int .i64)],[.bool],true,false,R,fun x=>m N x.1 x.2.1,fun r=>(r,()),fun r=>((),(),()),fun a b=>a.1,fun _ _=>rfl,fun _ _=>rfl⟩
end impl_logOK
namespace impl_StateOK
abbrev R:=Bool
noncomputable def m (N:Nat) (a0:State):Option R:=
 ob (impl_within.m N a0.Term (0:Int) (1000000:Int)) fun y1=>
 bif y1 then
  ob (impl_within.m N a0.Vote (-1:Int) (6:Int)) fun y2=>
  bif (bif true then y2 else false) then
   ob (impl_logOK.m N a0.Log a0.Term) fun y3=>
   some (bif true then y3 else false)
  else
  some false
 else
 some false
@[reducible] noncomputable def sp (N:Nat):Spec E:=⟨[.val (.st 64)],[.bool],true,false,R,fun x=>m N x.1,fun r=>(r,()),fun r=>((),()),fun a b=>a.1,fun _ _=>rfl,fun _ _=>rfl⟩
end impl_StateOK
namespace impl_reachOK
abbrev R:=Bool
noncomputable def step4 (N:Nat) (a0:List Int) (a1:List Int) (a2:Int) (rec:(Int×Int)→Option R):(Int×Int)→Option R
 | (v3,v4)=>
  bif (decide (v4<v3)) then
   bif (decide (0≤v4)) then
   bif (decide (v4<(a0.length:Int))) then
   ob (impl_within.m N (a0.getD (Int.toNat v4) (0:Int)) (1:Int) (w64 (a2+(1:Int)))) fun y1=>
   bif (!y1) then
    some false
   else
   bif (decide (0≤v4)) then
   bif (decide (v4<(a1.length:Int))) then
   bif (decide (0≤v4)) then
   bif (decide (v4<(a0.length:Int))) then
   ob (impl_within.m N (a1.getD (Int.toNat v4) (0:Int)) (0:Int) (w64 ((a0.getD (Int.toNat v4) (0:Int)) - (1:Int)))) fun y2=>
   bif (bif false then true else (!y2)) then
    some false
   else
   rec (v3,(w64 (v4+(1:Int))))
   else none
   else none
   else none
   else none
   else none
   else none
  else
  some true
noncomputable def lp4 (N:Nat) (a0:List Int) (a1:List Int) (a2:Int):(Int×Int)→Option R:=
 miter (fun rec=>step4 N a0 a1 a2 rec) N
noncomputable def m0 (N:Nat) (a0:List Int) (a1:List Int) (a2:Int) (lp4:Int×Int→Option R):Option R:=
 bif ((a0.length:Int) != (7:Int)) then
  some false
 else
 bif (bif false then true else ((a1.length:Int) != (7:Int))) then
  some false
 else
 lp4 ((a0.length:Int),(0:Int))
@[reducible] noncomputable def m (N:Nat) (a0:List Int) (a1:List Int) (a2:Int):Option R:=m0 N a0 a1 a2 (lp4 N a0 a1 a2)
@[reducible] noncomputable def sp (N:Nat):Spec E:=⟨[.val (.slice 3 (.int .i64)),.val (.slice 3 (.int .i64)),.val (.int .i64)],[.bool],true,false,R,fun x=>m N x.1 x.2.1 x.2.2.1,fun r=>(r,()),fun r=>((),(),(),()),fun a b=>a.1,fun _ _=>rfl,fun _ _=>rfl⟩
end impl_reachOK
namespace impl_NodeOK
abbrev R:=Bool
noncomputable def m (N:Nat) (a0:Node):Option R:=
 ob (impl_isNumber.m N a0.Id) fun y1=>
 bif (!y1) then
  some false
 else
 ob (impl_StateOK.m N (State.mk a0.Term a0.Vote a0.Log)) fun y2=>
 bif (bif false then true else (!y2)) then
  some false
 else
 ob (impl_membersOK.m N a0.Start) fun y3=>
 bif (bif false then true else (!y3)) then
  some false
 else
 ob (impl_areNumbers.m N a0.Votes) fun y4=>
 bif (bif false then true else (!y4)) then
  some false
 else
 ob (impl_areRising.m N a0.Votes) fun y5=>
 bif (bif false then true else (!y5)) then
  some false
 else
 ob (impl_within.m N a0.Role (0:Int) (2:Int)) fun y6=>
 bif (!y6) then
  some false
 else
 bif (!a0.Up) then
  bif (bif false then true else (bif true then (a0.Role != (0:Int)) else false)) then
   some false
  else
  ob (impl_reachOK.m N a0.Next a0.Match (a0.Log.length:Int)) fun y7=>
  bif (bif false then true else (!y7)) then
   some false
  else
  ob (impl_within.m N a0.Commit (0:Int) (a0.Log.length:Int)) fun y8=>
  bif y8 then
   ob (impl_within.m N a0.Elapsed (0:Int) (1000:Int)) fun y9=>
   bif (bif true then y9 else false) then
    ob (impl_within.m N a0.Wait (5:Int) (100:Int)) fun y10=>
    some (bif true then y10 else false)
   else
   some false
  else
  some false
 else
 bif (bif false then true else false) then
  some false
 else
 ob (impl_reachOK.m N a0.Next a0.Match (a0.Log.length:Int)) fun y11=>
 bif (bif false then true else (!y11)) then
  some false
 else
 ob (impl_within.m N a0.Commit (0:Int) (a0.Log.length:Int)) fun y12=>
 bif y12 then
  ob (impl_within.m N a0.Elapsed (0:Int) (1000:Int)) fun y13=>
  bif (bif true then y13 else false) then
   ob (impl_within.m N a0.Wait (5:Int) (100:Int)) fun y14=>
   some (bif true then y14 else false)
  else
  some false
 else
 some false
@[reducible] noncomputable def sp (N:Nat):Spec E:=⟨[.val (.st 29)],[.bool],true,false,R,fun x=>m N x.1,fun r=>(r,()),fun r=>((),()),fun a b=>a.1,fun _ _=>rfl,fun _ _=>rfl⟩
end impl_NodeOK
namespace slices_Clone_impl_Entry_impl_Entry
abbrev R:=(List Entry)
noncomputable def m (N:Nat) (a0:List Entry):Option R:=
 amb (a0.isEmpty) true
  (some ([]:List Entry))
  (bif (room (([]:List Entry).length+a0.length) 32) then
  some (([]:List Entry)++a0)
  else none)
@[reducible] noncomputable def sp (N:Nat):Spec E:=⟨[.val (.slice 69 (.st 69))],[(.slice 69 (.st 69))],true,false,R,fun x=>m N x.1,fun r=>(r,()),fun r=>((),()),fun a b=>a.1,fun _ _=>rfl,fun _ _=>rfl⟩
end slices_Clone_impl_Entry_impl_Entry
namespace slices_Clone_int_int
abbrev R:=(List Int)
noncomputable def m (N:Nat) (a0:List Int):Option R:=
 amb (a0.isEmpty) true
  (some ([]:List Int))
  (bif (room (([]:List Int).length+a0.length) 8) then
  some (([]:List Int)++a0)
  else none)
@[reducible] noncomputable def sp (N:Nat):Spec E:=⟨[.val (.slice 3 (.int .i64))],[(.slice 3 (.int .i64))],true,false,R,fun x=>m N x.1,fun r=>(r,()),fun r=>((),()),fun a b=>a.1,fun _ _=>rfl,fun _ _=>rfl⟩
end slices_Clone_int_int
namespace impl_copyNode
abbrev R:=Node
noncomputable def m (N:Nat) (a0:Node):Option R:=
 ob (slices_Clone_impl_Entry_impl_Entry.m N a0.Log) fun y1=>
 ob (slices_Clone_int_int.m N a0.Start) fun y2=>
 ob (slices_Clone_int_int.m N a0.Votes) fun y3=>
 ob (slices_Clone_int_int.m N a0.Next) fun y4=>
 ob (slices_Clone_int_int.m N a0.Match) fun y5=>
 some (Node.mk a0.Id a0.Term a0.Vote y1 y2 a0.Role y3 y4 y5 a0.Commit a0.Elapsed a0.Wait a0.Up)
@[reducible] noncomputable def sp (N:Nat):Spec E:=⟨[.val (.st 29)],[(.st 29)],true,false,R,fun x=>m N x.1,fun r=>(r,()),fun r=>((),()),fun a b=>a.1,fun _ _=>rfl,fun _ _=>rfl⟩
end impl_copyNode
namespace impl_Node_members
abbrev R:=List Int
noncomputable def m (N:Nat) (a0:Node):Option R:=
 bif decide (a0.Log.length≤1048576000)&&a0.Log.all (fun e=>!(e.Kind==2)||(impl_readMembers.m N e.Data).isSome) then
  match a0.Log.reverse.find? (fun e=>e.Kind==2) with
  | some e=>(impl_readMembers.m N e.Data).map (·.1)
  | none=>slices_Clone_int_int.m N a0.Start
 else none
@[reducible] noncomputable def sp (N:Nat):Spec E:={ ps:=[.val (.st 29)],rs:=[(.slice 3 (.int .i64))],own:=true,dp:=false,R:=R,fn:=fun x=>m N x.1,res:=fun r=>(r,()),out:=fun r=>((),()),shut:=fun a b=>a.1,res_shut:=fun _ _=>rfl,out_shut:=fun _ _=>rfl }
end impl_Node_members
namespace impl_worker_others_1
abbrev R:=Bool
noncomputable def m (N:Nat) (a0:Int) (a1:worker):Option R:=
 some (a0==a1.Node.Id)
@[reducible] noncomputable def sp (N:Nat):Spec E:=⟨[.val (.int .i64),.cap (.rpp (.st 50))],[.bool],true,false,R,fun x=>m N x.1 x.2.1,fun r=>(r,()),fun r=>((),(),()),fun a b=>a.1,fun _ _=>rfl,fun _ _=>rfl⟩
end impl_worker_others_1
namespace slices_IndexFunc_int_int__impl_worker_others_1
abbrev R:=Int
noncomputable def step2 (N:Nat) (a0:List Int) (a1_0:worker) (rec:(Int×Int)→Option R):(Int×Int)→Option R
 | (v1,v2)=>
  bif (decide (v2<v1)) then
   bif (decide (0≤v2)) then
   bif (decide (v2<(a0.length:Int))) then
   ob (impl_worker_others_1.m N (a0.getD (Int.toNat v2) (0:Int)) (worker.mk (Node.mk a1_0.Node.Id a1_0.Node.Term a1_0.Node.Vote a1_0.Node.Log a1_0.Node.Start a1_0.Node.Role a1_0.Node.Votes a1_0.Node.Next a1_0.Node.Match a1_0.Node.Commit a1_0.Node.Elapsed a1_0.Node.Wait a1_0.Node.Up) a1_0.sent)) fun y1=>
   bif y1 then
    some v2
   else
   rec (v1,(w64 (v2+(1:Int))))
   else none
   else none
  else
  some (-1:Int)
noncomputable def lp2 (N:Nat) (a0:List Int) (a1_0:worker):(Int×Int)→Option R:=
 miter (fun rec=>step2 N a0 a1_0 rec) N
noncomputable def m0 (N:Nat) (a0:List Int) (a1_0:worker) (lp2:Int×Int→Option R):Option R:=
 lp2 ((a0.length:Int),(0:Int))
@[reducible] noncomputable def m (N:Nat) (a0:List Int) (a1_0:worker):Option R:=m0 N a0 a1_0 (lp2 N a0 a1_0)
@[reducible] noncomputable def sp (N:Nat):Spec E:=⟨[.val (.slice 3 (.int .i64)),.clo 78 [.rpp (.st 50)]],[(.int .i64)],true,false,R,fun x=>m N x.1 x.2.1.1,fun r=>(r,()),fun r=>((),(),()),fun a b=>a.1,fun _ _=>rfl,fun _ _=>rfl⟩
end slices_IndexFunc_int_int__impl_worker_others_1
end Mir.Y
