/- Models of functions. -/
import Derived.Test.YtbbkpgpfppnakaaGreatJTE
namespace Mir.Y
set_option linter.unusedVariables false
set_option maxRecDepth 10000
open Go Go.Proofs Mir
namespace laws_szEntry
abbrev R:=Int
noncomputable def m (N:Nat) (a0:Entry) (a1:Int):Option R:=
 bif (decide ((w64 (a1 - (a0.Data.size:Int)))<(0:Int))) then
  some (-1:Int)
 else
 some (w64 (a1 - (a0.Data.size:Int)))
@[reducible] noncomputable def sp (N:Nat):Spec E:=⟨[.val (.st 66),.val (.int .i64)],[(.int .i64)],true,false,R,fun x=>m N x.1 x.2.1,fun r=>(r,()),fun r=>((),(),()),fun a b=>a.1,fun _ _=>rfl,fun _ _=>rfl⟩
end laws_szEntry
namespace laws_szEntryS
abbrev R:=Int
noncomputable def step5 (N:Nat) (a0:List Entry) (a1:Int) (rec:(Int×Int)→Option R):(Int×Int)→Option R
 | (v1,v2)=>
  bif (decide (v2<(a0.length:Int))) then
   bif (decide (0≤v2)) then
   bif (decide (v2<(a0.length:Int))) then
   ob (laws_szEntry.m N (a0.getD (Int.toNat v2) Entry.dz) v1) fun y1=>
   bif (decide (y1<(0:Int))) then
    some (-1:Int)
   else
   rec (y1,(w64 (v2+(1:Int))))
   else none
   else none
  else
  some v1
noncomputable def lp5 (N:Nat) (a0:List Entry) (a1:Int):(Int×Int)→Option R:=
 miter (fun rec=>step5 N a0 a1 rec) N
noncomputable def m0 (N:Nat) (a0:List Entry) (a1:Int) (lp5:Int×Int→Option R):Option R:=
 bif (decide ((w64 (a1 - (a0.length:Int)))<(0:Int))) then
  some (-1:Int)
 else
 lp5 ((w64 (a1 - (a0.length:Int))),(0:Int))
@[reducible] noncomputable def m (N:Nat) (a0:List Entry) (a1:Int):Option R:=m0 N a0 a1 (lp5 N a0 a1)
@[reducible] noncomputable def sp (N:Nat):Spec E:=⟨[.val (.slice 66 (.st 66)),.val (.int .i64)],[(.int .i64)],true,false,R,fun x=>m N x.1 x.2.1,fun r=>(r,()),fun r=>((),(),()),fun a b=>a.1,fun _ _=>rfl,fun _ _=>rfl⟩
end laws_szEntryS
namespace laws_szIntS
abbrev R:=Int
noncomputable def m (N:Nat) (a0:List Int) (a1:Int):Option R:=
 bif (decide ((w64 (a1 - (a0.length:Int)))<(0:Int))) then
  some (-1:Int)
 else
 some (w64 (a1 - (a0.length:Int)))
@[reducible] noncomputable def sp (N:Nat):Spec E:=⟨[.val (.slice 3 (.int .i64)),.val (.int .i64)],[(.int .i64)],true,false,R,fun x=>m N x.1 x.2.1,fun r=>(r,()),fun r=>((),(),()),fun a b=>a.1,fun _ _=>rfl,fun _ _=>rfl⟩
end laws_szIntS
namespace laws_szNode
abbrev R:=Int
noncomputable def m (N:Nat) (a0:Node) (a1:Int):Option R:=
 ob (laws_szEntryS.m N a0.Log a1) fun y1=>
 bif (decide (y1<(0:Int))) then
  some (-1:Int)
 else
 ob (laws_szIntS.m N a0.Start y1) fun y2=>
 bif (decide (y2<(0:Int))) then
  some (-1:Int)
 else
 ob (laws_szIntS.m N a0.Votes y2) fun y3=>
 bif (decide (y3<(0:Int))) then
  some (-1:Int)
 else
 ob (laws_szIntS.m N a0.Next y3) fun y4=>
 bif (decide (y4<(0:Int))) then
  some (-1:Int)
 else
 ob (laws_szIntS.m N a0.Match y4) fun y5=>
 bif (decide (y5<(0:Int))) then
  some (-1:Int)
 else
 some y5
@[reducible] noncomputable def sp (N:Nat):Spec E:=⟨[.val (.st 25),.val (.int .i64)],[(.int .i64)],true,false,R,fun x=>m N x.1 x.2.1,fun r=>(r,()),fun r=>((),(),()),fun a b=>a.1,fun _ _=>rfl,fun _ _=>rfl⟩
end laws_szNode
namespace laws_szMessage
abbrev R:=Int
noncomputable def m (N:Nat) (a0:Message) (a1:Int):Option R:=
 ob (laws_szEntryS.m N a0.Entries a1) fun y1=>
 bif (decide (y1<(0:Int))) then
  some (-1:Int)
 else
 some y1
@[reducible] noncomputable def sp (N:Nat):Spec E:=⟨[.val (.st 27),.val (.int .i64)],[(.int .i64)],true,false,R,fun x=>m N x.1 x.2.1,fun r=>(r,()),fun r=>((),(),()),fun a b=>a.1,fun _ _=>rfl,fun _ _=>rfl⟩
end laws_szMessage
namespace laws_toEntry
abbrev R:=Entry
noncomputable def m (N:Nat) (a0:Entry):Option R:=
 some a0
@[reducible] noncomputable def sp (N:Nat):Spec E:=⟨[.val (.st 66)],[(.st 72)],true,false,R,fun x=>m N x.1,fun r=>(r,()),fun r=>((),()),fun a b=>a.1,fun _ _=>rfl,fun _ _=>rfl⟩
end laws_toEntry
namespace laws_toEntryS
abbrev R:=(List Entry)
noncomputable def step3 (N:Nat) (a0:List Entry) (rec:(Int×(List Entry))→Option R):(Int×(List Entry))→Option R
 | (v1,v2)=>
  bif (decide (v1<(a0.length:Int))) then
   bif (decide (0≤v1)) then
   bif (decide (v1<(a0.length:Int))) then
   ob (laws_toEntry.m N (a0.getD (Int.toNat v1) Entry.dz)) fun y1=>
   bif (decide (0≤v1)) then
   bif (decide (v1<(v2.length:Int))) then
   rec ((w64 (v1+(1:Int))),(v2.set (Int.toNat v1) y1))
   else none
   else none
   else none
   else none
  else
  some v2
noncomputable def lp3 (N:Nat) (a0:List Entry):(Int×(List Entry))→Option R:=
 miter (fun rec=>step3 N a0 rec) N
noncomputable def m0 (N:Nat) (a0:List Entry) (lp3:Int×(List Entry)→Option R):Option R:=
 bif (decide (0≤(a0.length:Int))) then
 bif (room (Int.toNat (a0.length:Int)) 32) then
 lp3 ((0:Int),(List.replicate (Int.toNat (a0.length:Int)) (Entry.mk (0:Int) (0:Int) ByteArray.empty)))
 else none
 else none
@[reducible] noncomputable def m (N:Nat) (a0:List Entry):Option R:=m0 N a0 (lp3 N a0)
@[reducible] noncomputable def sp (N:Nat):Spec E:=⟨[.val (.slice 66 (.st 66))],[(.slice 72 (.st 72))],true,false,R,fun x=>m N x.1,fun r=>(r,()),fun r=>((),()),fun a b=>a.1,fun _ _=>rfl,fun _ _=>rfl⟩
end laws_toEntryS
namespace laws_toIntS
abbrev R:=(List Int)
noncomputable def step3 (N:Nat) (a0:List Int) (rec:(Int×(List Int))→Option R):(Int×(List Int))→Option R
 | (v1,v2)=>
  bif (decide (v1<(a0.length:Int))) then
   bif (decide (0≤v1)) then
   bif (decide (v1<(a0.length:Int))) then
   bif (decide (0≤v1)) then
   bif (decide (v1<(v2.length:Int))) then
   rec ((w64 (v1+(1:Int))),(v2.set (Int.toNat v1) (a0.getD (Int.toNat v1) (0:Int))))
   else none
   else none
   else none
   else none
  else
  some v2
noncomputable def lp3 (N:Nat) (a0:List Int):(Int×(List Int))→Option R:=
 miter (fun rec=>step3 N a0 rec) N
noncomputable def m0 (N:Nat) (a0:List Int) (lp3:Int×(List Int)→Option R):Option R:=
 bif (decide (0≤(a0.length:Int))) then
 bif (room (Int.toNat (a0.length:Int)) 8) then
 lp3 ((0:Int),(List.replicate (Int.toNat (a0.length:Int)) (0:Int)))
 else none
 else none
@[reducible] noncomputable def m (N:Nat) (a0:List Int):Option R:=m0 N a0 (lp3 N a0)
@[reducible] noncomputable def sp (N:Nat):Spec E:=⟨[.val (.slice 3 (.int .i64))],[(.slice 3 (.int .i64))],true,false,R,fun x=>m N x.1,fun r=>(r,()),fun r=>((),()),fun a b=>a.1,fun _ _=>rfl,fun _ _=>rfl⟩
end laws_toIntS
namespace laws_toNode
abbrev R:=Node
noncomputable def m (N:Nat) (a0:Node):Option R:=
 ob (laws_toEntryS.m N a0.Log) fun y1=>
 ob (laws_toIntS.m N a0.Start) fun y2=>
 ob (laws_toIntS.m N a0.Votes) fun y3=>
 ob (laws_toIntS.m N a0.Next) fun y4=>
 ob (laws_toIntS.m N a0.Match) fun y5=>
 some (Node.mk a0.Id a0.Term a0.Vote y1 y2 a0.Role y3 y4 y5 a0.Commit a0.Elapsed a0.Wait a0.Up)
@[reducible] noncomputable def sp (N:Nat):Spec E:=⟨[.val (.st 25)],[(.st 32)],true,false,R,fun x=>m N x.1,fun r=>(r,()),fun r=>((),()),fun a b=>a.1,fun _ _=>rfl,fun _ _=>rfl⟩
end laws_toNode
namespace laws_toMessage
abbrev R:=Message
noncomputable def m (N:Nat) (a0:Message):Option R:=
 ob (laws_toEntryS.m N a0.Entries) fun y1=>
 some (Message.mk a0.Kind a0.From a0.To a0.Term a0.Index a0.LogTerm a0.Commit y1 a0.Ok)
@[reducible] noncomputable def sp (N:Nat):Spec E:=⟨[.val (.st 27)],[(.st 38)],true,false,R,fun x=>m N x.1,fun r=>(r,()),fun r=>((),()),fun a b=>a.1,fun _ _=>rfl,fun _ _=>rfl⟩
end laws_toMessage
namespace spec_l01In
abbrev R:=Bool
noncomputable def m (N:Nat) (a0:Int) (a1:Int) (a2:Int):Option R:=
 bif (decide (a0≥a1)) then
  some (bif true then (decide (a0≤a2)) else false)
 else
 some false
@[reducible] noncomputable def sp (N:Nat):Spec E:=⟨[.val (.int .i64),.val (.int .i64),.val (.int .i64)],[.bool],true,false,R,fun x=>m N x.1 x.2.1 x.2.2.1,fun r=>(r,()),fun r=>((),(),(),()),fun a b=>a.1,fun _ _=>rfl,fun _ _=>rfl⟩
end spec_l01In
namespace spec_l02Members
abbrev R:=(List Int)×Bool
noncomputable def step3 (N:Nat) (a0:ByteArray) (rec:(Int×(List Int))→Option R):(Int×(List Int))→Option R
 | (v1,v2)=>
  bif (decide (v1<(a0.size:Int))) then
   bif (decide (0≤v1)) then
   bif (decide (v1<(a0.size:Int))) then
   ob (spec_l01In.m N (w64 (sb a0 v1)) (0:Int) (6:Int)) fun y1=>
   bif (!y1) then
    some (([]:List Int),false)
   else
   bif (decide (v1 > (0:Int))) then
    bif (decide (0≤(w64 (v1 - (1:Int))))) then
    bif (decide ((w64 (v1 - (1:Int)))<(a0.size:Int))) then
    bif (decide (0≤v1)) then
    bif (decide (v1<(a0.size:Int))) then
    bif (bif false then true else (bif true then (decide ((sb a0 (w64 (v1 - (1:Int))))≥(sb a0 v1))) else false)) then
     some (([]:List Int),false)
    else
    bif (decide (0≤v1)) then
    bif (decide (v1<(a0.size:Int))) then
    bif (room (v2.length+([(w64 (sb a0 v1))]).length) 8) then
    rec ((w64 (v1+(1:Int))),(v2++[(w64 (sb a0 v1))]))
    else none
    else none
    else none
    else none
    else none
    else none
    else none
   else
   bif (bif false then true else false) then
    some (([]:List Int),false)
   else
   bif (decide (0≤v1)) then
   bif (decide (v1<(a0.size:Int))) then
   bif (room (v2.length+([(w64 (sb a0 v1))]).length) 8) then
   rec ((w64 (v1+(1:Int))),(v2++[(w64 (sb a0 v1))]))
   else none
   else none
   else none
   else none
   else none
  else
  some (v2,(decide ((v2.length:Int) > (0:Int))))
noncomputable def lp3 (N:Nat) (a0:ByteArray):(Int×(List Int))→Option R:=
 miter (fun rec=>step3 N a0 rec) N
noncomputable def m0 (N:Nat) (a0:ByteArray) (lp3:Int×(List Int)→Option R):Option R:=
 lp3 ((0:Int),([]:List Int))
@[reducible] noncomputable def m (N:Nat) (a0:ByteArray):Option R:=m0 N a0 (lp3 N a0)
@[reducible] noncomputable def sp (N:Nat):Spec E:=⟨[.val .str],[(.slice 3 (.int .i64)),.bool],true,false,R,fun x=>m N x.1,fun r=>(r.1,r.2,()),fun r=>((),()),fun a b=>(a.1,a.2.1),fun _ _=>rfl,fun _ _=>rfl⟩
end spec_l02Members
namespace spec_l02Entry
abbrev R:=Bool
noncomputable def m (N:Nat) (a0:Entry):Option R:=
 ob (spec_l01In.m N a0.Term (1:Int) (1000000:Int)) fun y1=>
 bif (!y1) then
  some false
 else
 bif (a0.Kind==(0:Int)) then
  some (seq a0.Data ByteArray.empty)
 else
 bif (a0.Kind==(1:Int)) then
  bif (decide ((a0.Data.size:Int)≥(1:Int))) then
   some (bif true then (decide ((a0.Data.size:Int)≤(100:Int))) else false)
  else
  some false
 else
 bif (a0.Kind==(2:Int)) then
  ob (spec_l02Members.m N a0.Data) fun y2=>
  some y2.2
 else
 some false
@[reducible] noncomputable def sp (N:Nat):Spec E:=⟨[.val (.st 72)],[.bool],true,false,R,fun x=>m N x.1,fun r=>(r,()),fun r=>((),()),fun a b=>a.1,fun _ _=>rfl,fun _ _=>rfl⟩
end spec_l02Entry
namespace spec_StateOK
abbrev R:=Bool
noncomputable def step4 (N:Nat) (a0:State) (rec:Int→Option R):Int→Option R
 | v0=>
  bif (decide (v0<(a0.Log.length:Int))) then
   bif (decide (0≤v0)) then
   bif (decide (v0<(a0.Log.length:Int))) then
   ob (spec_l02Entry.m N (a0.Log.getD (Int.toNat v0) Entry.dz)) fun y3=>
   bif (!y3) then
    some false
   else
   bif (decide (0≤v0)) then
   bif (decide (v0<(a0.Log.length:Int))) then
   bif (bif false then true else (decide ((a0.Log.getD (Int.toNat v0) Entry.dz).Term > a0.Term))) then
    some false
   else
   bif (decide (v0 > (0:Int))) then
    bif (decide (0≤(w64 (v0 - (1:Int))))) then
    bif (decide ((w64 (v0 - (1:Int)))<(a0.Log.length:Int))) then
    bif (decide (0≤v0)) then
    bif (decide (v0<(a0.Log.length:Int))) then
    (let w4:Bool:=(bif true then (decide ((a0.Log.getD (Int.toNat (w64 (v0 - (1:Int)))) Entry.dz).Term > (a0.Log.getD (Int.toNat v0) Entry.dz).Term)) else false)
    bif (bif false then true else w4) then
     some false
    else
    rec (w64 (v0+(1:Int))))
    else none
    else none
    else none
    else none
   else
   bif (bif false then true else false) then
    some false
   else
   rec (w64 (v0+(1:Int)))
   else none
   else none
   else none
   else none
  else
  some true
noncomputable def lp4 (N:Nat) (a0:State):Int→Option R:=
 miter (fun rec=>step4 N a0 rec) N
noncomputable def m0 (N:Nat) (a0:State) (lp4:Int→Option R):Option R:=
 ob (spec_l01In.m N a0.Term (0:Int) (1000000:Int)) fun y1=>
 bif (!y1) then
  some false
 else
 ob (spec_l01In.m N a0.Vote (-1:Int) (6:Int)) fun y2=>
 bif (bif false then true else (!y2)) then
  some false
 else
 bif (bif false then true else (decide ((a0.Log.length:Int) > (60:Int)))) then
  some false
 else
 lp4 (0:Int)
@[reducible] noncomputable def m (N:Nat) (a0:State):Option R:=m0 N a0 (lp4 N a0)
@[reducible] noncomputable def sp (N:Nat):Spec E:=⟨[.val (.st 70)],[.bool],true,false,R,fun x=>m N x.1,fun r=>(r,()),fun r=>((),()),fun a b=>a.1,fun _ _=>rfl,fun _ _=>rfl⟩
end spec_StateOK
namespace spec_l10Ids
abbrev R:=Bool
noncomputable def step2 (N:Nat) (a0:List Int) (rec:Int→Option R):Int→Option R
 | v1=>
  bif (decide (v1<(a0.length:Int))) then
   bif (decide (0≤v1)) then
   bif (decide (v1<(a0.length:Int))) then
   ob (spec_l01In.m N (a0.getD (Int.toNat v1) (0:Int)) (0:Int) (6:Int)) fun y1=>
   bif (!y1) then
    some false
   else
   bif (decide (v1 > (0:Int))) then
    bif (decide (0≤(w64 (v1 - (1:Int))))) then
    bif (decide ((w64 (v1 - (1:Int)))<(a0.length:Int))) then
    bif (decide (0≤v1)) then
    bif (decide (v1<(a0.length:Int))) then
    (let w2:Bool:=(bif false then true else (bif true then (decide ((a0.getD (Int.toNat (w64 (v1 - (1:Int)))) (0:Int))≥(a0.getD (Int.toNat v1) (0:Int)))) else false))
    bif w2 then
     some false
    else
    rec (w64 (v1+(1:Int))))
    else none
    else none
    else none
    else none
   else
   bif (bif false then true else false) then
    some false
   else
   rec (w64 (v1+(1:Int)))
   else none
   else none
  else
  some true
noncomputable def lp2 (N:Nat) (a0:List Int):Int→Option R:=
 miter (fun rec=>step2 N a0 rec) N
noncomputable def m0 (N:Nat) (a0:List Int) (lp2:Int→Option R):Option R:=
 lp2 (0:Int)
@[reducible] noncomputable def m (N:Nat) (a0:List Int):Option R:=m0 N a0 (lp2 N a0)
@[reducible] noncomputable def sp (N:Nat):Spec E:=⟨[.val (.slice 3 (.int .i64))],[.bool],true,false,R,fun x=>m N x.1,fun r=>(r,()),fun r=>((),()),fun a b=>a.1,fun _ _=>rfl,fun _ _=>rfl⟩
end spec_l10Ids
namespace spec_NodeOK
abbrev R:=Bool
noncomputable def step6 (N:Nat) (a0:Node) (rec:Int→Option R):Int→Option R
 | v0=>
  bif (decide (v0<(7:Int))) then
   bif (decide (0≤v0)) then
   bif (decide (v0<(a0.Next.length:Int))) then
   ob (spec_l01In.m N (a0.Next.getD (Int.toNat v0) (0:Int)) (1:Int) (w64 ((a0.Log.length:Int)+(1:Int)))) fun y9=>
   bif (!y9) then
    some false
   else
   bif (decide (0≤v0)) then
   bif (decide (v0<(a0.Match.length:Int))) then
   bif (decide (0≤v0)) then
   bif (decide (v0<(a0.Next.length:Int))) then
   ob (spec_l01In.m N (a0.Match.getD (Int.toNat v0) (0:Int)) (0:Int) (w64 ((a0.Next.getD (Int.toNat v0) (0:Int)) - (1:Int)))) fun y10=>
   bif (bif false then true else (!y10)) then
    some false
   else
   rec (w64 (v0+(1:Int)))
   else none
   else none
   else none
   else none
   else none
   else none
  else
  bif a0.Up then
   some true
  else
  some (bif false then true else (a0.Role==(0:Int)))
noncomputable def lp6 (N:Nat) (a0:Node):Int→Option R:=
 miter (fun rec=>step6 N a0 rec) N
noncomputable def m0 (N:Nat) (a0:Node) (lp6:Int→Option R):Option R:=
 ob (spec_l01In.m N a0.Id (0:Int) (6:Int)) fun y1=>
 bif (!y1) then
  some false
 else
 ob (spec_StateOK.m N (State.mk a0.Term a0.Vote a0.Log)) fun y2=>
 bif (bif false then true else (!y2)) then
  some false
 else
 ob (spec_l10Ids.m N a0.Start) fun y3=>
 bif (bif false then true else (!y3)) then
  some false
 else
 bif (bif false then true else ((a0.Start.length:Int)==(0:Int))) then
  some false
 else
 ob (spec_l10Ids.m N a0.Votes) fun y4=>
 bif (bif false then true else (!y4)) then
  some false
 else
 ob (spec_l01In.m N a0.Role (0:Int) (2:Int)) fun y5=>
 bif (bif false then true else (!y5)) then
  some false
 else
 bif ((a0.Next.length:Int) != (7:Int)) then
  some false
 else
 bif (bif false then true else ((a0.Match.length:Int) != (7:Int))) then
  some false
 else
 ob (spec_l01In.m N a0.Commit (0:Int) (a0.Log.length:Int)) fun y6=>
 bif (bif false then true else (!y6)) then
  some false
 else
 ob (spec_l01In.m N a0.Elapsed (0:Int) (1000:Int)) fun y7=>
 bif (bif false then true else (!y7)) then
  some false
 else
 ob (spec_l01In.m N a0.Wait (5:Int) (100:Int)) fun y8=>
 bif (bif false then true else (!y8)) then
  some false
 else
 lp6 (0:Int)
@[reducible] noncomputable def m (N:Nat) (a0:Node):Option R:=m0 N a0 (lp6 N a0)
@[reducible] noncomputable def sp (N:Nat):Spec E:=⟨[.val (.st 32)],[.bool],true,false,R,fun x=>m N x.1,fun r=>(r,()),fun r=>((),()),fun a b=>a.1,fun _ _=>rfl,fun _ _=>rfl⟩
end spec_NodeOK
namespace spec_l10MessageOK
abbrev R:=Bool
noncomputable def m (N:Nat) (a0:Message):Option R:=
 ob (spec_l01In.m N a0.Kind (1:Int) (4:Int)) fun y1=>
 bif (!y1) then
  some false
 else
 ob (spec_l01In.m N a0.From (0:Int) (6:Int)) fun y2=>
 bif (bif false then true else (!y2)) then
  some false
 else
 ob (spec_l01In.m N a0.To (0:Int) (6:Int)) fun y3=>
 bif (bif false then true else (!y3)) then
  some false
 else
 bif (bif false then true else (a0.From==a0.To)) then
  some false
 else
 ob (spec_l01In.m N a0.Term (1:Int) (1000000:Int)) fun y4=>
 bif (bif false then true else (!y4)) then
  some false
 else
 ob (spec_l01In.m N a0.Index (0:Int) (60:Int)) fun y5=>
 bif (bif false then true else (!y5)) then
  some false
 else
 ob (spec_l01In.m N a0.LogTerm (0:Int) a0.Term) fun y6=>
 bif (bif false then true else (!y6)) then
  some false
 else
 ob (spec_l01In.m N a0.Commit (0:Int) (60:Int)) fun y7=>
 bif (bif false then true else (!y7)) then
  some false
 else
 bif (bif false then true else (decide ((a0.Entries.length:Int) > (w64 ((60:Int) - a0.Index))))) then
  some false
 else
 bif (a0.Kind != (3:Int)) then
  some ((a0.Entries.length:Int)==(0:Int))
 else
 ob (spec_StateOK.m N (State.mk a0.Term (0:Int) a0.Entries)) fun y8=>
 bif y8 then
  bif ((a0.Entries.length:Int)==(0:Int)) then
   bif (bif true then true else false) then
    bif (decide (a0.Index > (0:Int))) then
     some (bif true then true else false)
    else
    some (bif true then (bif false then true else (a0.LogTerm==(0:Int))) else false)
   else
   some false
  else
  bif (decide (0≤(0:Int))) then
  bif (decide ((0:Int)<(a0.Entries.length:Int))) then
  bif (bif true then (bif false then true else (decide ((a0.Entries.getD 0 Entry.dz).Term≥a0.LogTerm))) else false) then
   bif (decide (a0.Index > (0:Int))) then
    some (bif true then true else false)
   else
   some (bif true then (bif false then true else (a0.LogTerm==(0:Int))) else false)
  else
  some false
  else none
  else none
 else
 some false
@[reducible] noncomputable def sp (N:Nat):Spec E:=⟨[.val (.st 38)],[.bool],true,false,R,fun x=>m N x.1,fun r=>(r,()),fun r=>((),()),fun a b=>a.1,fun _ _=>rfl,fun _ _=>rfl⟩
end spec_l10MessageOK
namespace spec_l10Own
abbrev R:=Node
noncomputable def m (N:Nat) (a0:Node):Option R:=
 bif (room (([]:List Entry).length+a0.Log.length) 32) then
 bif (room (([]:List Int).length+a0.Start.length) 8) then
 bif (room (([]:List Int).length+a0.Votes.length) 8) then
 bif (room (([]:List Int).length+a0.Next.length) 8) then
 bif (room (([]:List Int).length+a0.Match.length) 8) then
 some (Node.mk a0.Id a0.Term a0.Vote (([]:List Entry)++a0.Log) (([]:List Int)++a0.Start) a0.Role (([]:List Int)++a0.Votes) (([]:List Int)++a0.Next) (([]:List Int)++a0.Match) a0.Commit a0.Elapsed a0.Wait a0.Up)
 else none
 else none
 else none
 else none
 else none
@[reducible] noncomputable def sp (N:Nat):Spec E:=⟨[.val (.st 32)],[(.st 32)],true,false,R,fun x=>m N x.1,fun r=>(r,()),fun r=>((),()),fun a b=>a.1,fun _ _=>rfl,fun _ _=>rfl⟩
end spec_l10Own
namespace spec_l10Down
abbrev R:=Node
noncomputable def step4 (N:Nat) (a0:Node) (rec:(Int×Int×(List Int)×(List Int)×(List Int)×Int×Int×Int×Int×Int×Int×Int)→Option R):(Int×Int×(List Int)×(List Int)×(List Int)×Int×Int×Int×Int×Int×Int×Int)→Option R
 | (v0,v4,v11,v12,v13,v14,v15,v16,v17,v18,v19,v20)=>
  bif (decide (v0<(7:Int))) then
   bif (decide (0≤v0)) then
   bif (decide (v0<(v12.length:Int))) then
   bif (decide (0≤v0)) then
   bif (decide (v0<(v13.length:Int))) then
   rec ((w64 (v0+(1:Int))),v4,v11,(v12.set (Int.toNat v0) (1:Int)),(v13.set (Int.toNat v0) (0:Int)),v14,v15,v16,v17,v18,v19,v20)
   else none
   else none
   else none
   else none
  else
  some (Node.mk a0.Id a0.Term a0.Vote a0.Log a0.Start v4 v11 v12 v13 a0.Commit a0.Elapsed a0.Wait a0.Up)
noncomputable def lp4 (N:Nat) (a0:Node):(Int×Int×(List Int)×(List Int)×(List Int)×Int×Int×Int×Int×Int×Int×Int)→Option R:=
 miter (fun rec=>step4 N a0 rec) N
noncomputable def m0 (N:Nat) (a0:Node) (lp4:Int×Int×(List Int)×(List Int)×(List Int)×Int×Int×Int×Int×Int×Int×Int→Option R):Option R:=
 lp4 ((0:Int),(0:Int),([]:List Int),a0.Next,a0.Match,(0:Int),(0:Int),(0:Int),(0:Int),(0:Int),(0:Int),(0:Int))
@[reducible] noncomputable def m (N:Nat) (a0:Node):Option R:=m0 N a0 (lp4 N a0)
@[reducible] noncomputable def sp (N:Nat):Spec E:=⟨[.mov false (.st 32)],[(.st 32)],true,false,R,fun x=>m N x.1,fun r=>(r,()),fun r=>((),()),fun a b=>a.1,fun _ _=>rfl,fun _ _=>rfl⟩
end spec_l10Down
namespace spec_l10Term
abbrev R:=Int
noncomputable def m (N:Nat) (a0:Node) (a1:Int):Option R:=
 bif (a1==(0:Int)) then
  some (0:Int)
 else
 bif (decide (0≤(w64 (a1 - (1:Int))))) then
 bif (decide ((w64 (a1 - (1:Int)))<(a0.Log.length:Int))) then
 some ((a0.Log.getD (Int.toNat (w64 (a1 - (1:Int)))) Entry.dz).Term)
 else none
 else none
@[reducible] noncomputable def sp (N:Nat):Spec E:=⟨[.val (.st 32),.val (.int .i64)],[(.int .i64)],true,false,R,fun x=>m N x.1 x.2.1,fun r=>(r,()),fun r=>((),(),()),fun a b=>a.1,fun _ _=>rfl,fun _ _=>rfl⟩
end spec_l10Term
namespace spec_l10UpToDate
abbrev R:=Bool
noncomputable def m (N:Nat) (a0:Node) (a1:Int) (a2:Int):Option R:=
 ob (spec_l10Term.m N a0 (a0.Log.length:Int)) fun y1=>
 bif (decide (a2 > y1)) then
  some true
 else
 bif (a2==y1) then
  some (bif false then true else (bif true then (decide (a1≥(a0.Log.length:Int))) else false))
 else
 some (bif false then true else false)
@[reducible] noncomputable def sp (N:Nat):Spec E:=⟨[.val (.st 32),.val (.int .i64),.val (.int .i64)],[.bool],true,false,R,fun x=>m N x.1 x.2.1 x.2.2.1,fun r=>(r,()),fun r=>((),(),(),()),fun a b=>a.1,fun _ _=>rfl,fun _ _=>rfl⟩
end spec_l10UpToDate
namespace spec_l10Vote
abbrev R:=Node×(List Message)
noncomputable def m (N:Nat) (a0:Node) (a1:Message):Option R:=
 bif (a1.Term==a0.Term) then
  bif (a0.Vote==(-1:Int)) then
   bif (bif true then true else false) then
    ob (spec_l10UpToDate.m N a0 a1.Index a1.LogTerm) fun y1=>
    bif (bif true then y1 else false) then
     some ((Node.mk a0.Id a0.Term a1.From a0.Log a0.Start a0.Role a0.Votes a0.Next a0.Match a0.Commit (0:Int) a0.Wait a0.Up),[(Message.mk (2:Int) a0.Id a1.From a0.Term (0:Int) (0:Int) (0:Int) ([]:List Entry) (bif true then y1 else false))])
    else
    some (a0,[(Message.mk (2:Int) a0.Id a1.From a0.Term (0:Int) (0:Int) (0:Int) ([]:List Entry) (bif true then y1 else false))])
   else
   some (a0,[(Message.mk (2:Int) a0.Id a1.From a0.Term (0:Int) (0:Int) (0:Int) ([]:List Entry) false)])
  else
  bif (bif true then (bif false then true else (a0.Vote==a1.From)) else false) then
   ob (spec_l10UpToDate.m N a0 a1.Index a1.LogTerm) fun y2=>
   bif (bif true then y2 else false) then
    some ((Node.mk a0.Id a0.Term a1.From a0.Log a0.Start a0.Role a0.Votes a0.Next a0.Match a0.Commit (0:Int) a0.Wait a0.Up),[(Message.mk (2:Int) a0.Id a1.From a0.Term (0:Int) (0:Int) (0:Int) ([]:List Entry) (bif true then y2 else false))])
   else
   some (a0,[(Message.mk (2:Int) a0.Id a1.From a0.Term (0:Int) (0:Int) (0:Int) ([]:List Entry) (bif true then y2 else false))])
  else
  some (a0,[(Message.mk (2:Int) a0.Id a1.From a0.Term (0:Int) (0:Int) (0:Int) ([]:List Entry) false)])
 else
 some (a0,[(Message.mk (2:Int) a0.Id a1.From a0.Term (0:Int) (0:Int) (0:Int) ([]:List Entry) false)])
@[reducible] noncomputable def sp (N:Nat):Spec E:=⟨[.val (.st 32),.val (.st 38)],[(.st 32),(.slice 38 (.st 38))],false,false,R,fun x=>m N x.1 x.2.1,fun r=>(r.1,r.2,()),fun r=>((),(),()),fun a b=>(a.1,a.2.1),fun _ _=>rfl,fun _ _=>rfl⟩
end spec_l10Vote
namespace spec_l10Has
abbrev R:=Bool
noncomputable def step2 (N:Nat) (a0:List Int) (a1:Int) (rec:Int→Option R):Int→Option R
 | v2=>
  bif (decide (v2<(a0.length:Int))) then
   bif (decide (0≤v2)) then
   bif (decide (v2<(a0.length:Int))) then
   bif ((a0.getD (Int.toNat v2) (0:Int))==a1) then
    some true
   else
   rec (w64 (v2+(1:Int)))
   else none
   else none
  else
  some false
noncomputable def lp2 (N:Nat) (a0:List Int) (a1:Int):Int→Option R:=
 miter (fun rec=>step2 N a0 a1 rec) N
noncomputable def m0 (N:Nat) (a0:List Int) (a1:Int) (lp2:Int→Option R):Option R:=
 lp2 (0:Int)
@[reducible] noncomputable def m (N:Nat) (a0:List Int) (a1:Int):Option R:=m0 N a0 a1 (lp2 N a0 a1)
@[reducible] noncomputable def sp (N:Nat):Spec E:=⟨[.val (.slice 3 (.int .i64)),.val (.int .i64)],[.bool],true,false,R,fun x=>m N x.1 x.2.1,fun r=>(r,()),fun r=>((),(),()),fun a b=>a.1,fun _ _=>rfl,fun _ _=>rfl⟩
end spec_l10Has
namespace spec_l10Members
abbrev R:=(List Int)×Node
noncomputable def step2 (N:Nat) (a0:Node) (rec:Int→Option R):Int→Option R
 | v9=>
  bif (decide (v9≥(0:Int))) then
   bif (decide (0≤v9)) then
   bif (decide (v9<(a0.Log.length:Int))) then
   bif ((a0.Log.getD (Int.toNat v9) Entry.dz).Kind==(2:Int)) then
    bif (decide (0≤v9)) then
    bif (decide (v9<(a0.Log.length:Int))) then
    ob (spec_l02Members.m N ((a0.Log.getD (Int.toNat v9) Entry.dz).Data)) fun y1=>
    some (y1.1,a0)
    else none
    else none
   else
   rec (w64 (v9 - (1:Int)))
   else none
   else none
  else
  some (a0.Start,a0)
noncomputable def lp2 (N:Nat) (a0:Node):Int→Option R:=
 miter (fun rec=>step2 N a0 rec) N
noncomputable def m0 (N:Nat) (a0:Node) (lp2:Int→Option R):Option R:=
 lp2 (w64 ((a0.Log.length:Int) - (1:Int)))
@[reducible] noncomputable def m (N:Nat) (a0:Node):Option R:=m0 N a0 (lp2 N a0)
@[reducible] noncomputable def sp (N:Nat):Spec E:=⟨[.mut false (.st 31)],[(.slice 3 (.int .i64))],false,false,R,fun x=>m N x.1,fun r=>(r.1,()),fun r=>(r.2,()),fun a b=>(a.1,b.1),fun _ _=>rfl,fun _ _=>rfl⟩
end spec_l10Members
namespace spec_l01Bit
abbrev R:=Int
noncomputable def m (N:Nat) (a0:Bool):Option R:=
 bif a0 then
  some (1:Int)
 else
 some (0:Int)
@[reducible] noncomputable def sp (N:Nat):Spec E:=⟨[.val .bool],[(.int .i64)],true,false,R,fun x=>m N x.1,fun r=>(r,()),fun r=>((),()),fun a b=>a.1,fun _ _=>rfl,fun _ _=>rfl⟩
end spec_l01Bit
namespace spec_l10Most
abbrev R:=Bool
noncomputable def step3 (N:Nat) (a0:List Int) (a1:List Int) (rec:(Int×Int)→Option R):(Int×Int)→Option R
 | (v2,v3)=>
  bif (decide (v3<(a1.length:Int))) then
   bif (decide (0≤v3)) then
   bif (decide (v3<(a1.length:Int))) then
   ob (spec_l10Has.m N a0 (a1.getD (Int.toNat v3) (0:Int))) fun y1=>
   ob (spec_l01Bit.m N y1) fun y2=>
   rec ((w64 (v2+y2)),(w64 (v3+(1:Int))))
   else none
   else none
  else
  some (decide ((w64 ((2:Int) * v2)) > (a1.length:Int)))
noncomputable def lp3 (N:Nat) (a0:List Int) (a1:List Int):(Int×Int)→Option R:=
 miter (fun rec=>step3 N a0 a1 rec) N
noncomputable def m0 (N:Nat) (a0:List Int) (a1:List Int) (lp3:Int×Int→Option R):Option R:=
 lp3 ((0:Int),(0:Int))
@[reducible] noncomputable def m (N:Nat) (a0:List Int) (a1:List Int):Option R:=m0 N a0 a1 (lp3 N a0 a1)
@[reducible] noncomputable def sp (N:Nat):Spec E:=⟨[.val (.slice 3 (.int .i64)),.val (.slice 3 (.int .i64))],[.bool],true,false,R,fun x=>m N x.1 x.2.1,fun r=>(r,()),fun r=>((),(),()),fun a b=>a.1,fun _ _=>rfl,fun _ _=>rfl⟩
end spec_l10Most
namespace spec_l10Members_
abbrev R:=(List Int)
noncomputable def step2 (N:Nat) (a0:Node) (rec:Int→Option R):Int→Option R
 | v0=>
  bif (decide (v0≥(0:Int))) then
   bif (decide (0≤v0)) then
   bif (decide (v0<(a0.Log.length:Int))) then
   bif ((a0.Log.getD (Int.toNat v0) Entry.dz).Kind==(2:Int)) then
    bif (decide (0≤v0)) then
    bif (decide (v0<(a0.Log.length:Int))) then
    ob (spec_l02Members.m N ((a0.Log.getD (Int.toNat v0) Entry.dz).Data)) fun y1=>
    some y1.1
    else none
    else none
   else
   rec (w64 (v0 - (1:Int)))
   else none
   else none
  else
  some a0.Start
noncomputable def lp2 (N:Nat) (a0:Node):Int→Option R:=
 miter (fun rec=>step2 N a0 rec) N
noncomputable def m0 (N:Nat) (a0:Node) (lp2:Int→Option R):Option R:=
 lp2 (w64 ((a0.Log.length:Int) - (1:Int)))
@[reducible] noncomputable def m (N:Nat) (a0:Node):Option R:=m0 N a0 (lp2 N a0)
@[reducible] noncomputable def sp (N:Nat):Spec E:=⟨[.val (.st 32)],[(.slice 3 (.int .i64))],false,false,R,fun x=>m N x.1,fun r=>(r,()),fun r=>((),()),fun a b=>a.1,fun _ _=>rfl,fun _ _=>rfl⟩
end spec_l10Members_
namespace spec_l10Advance
abbrev R:=Node
noncomputable def step3 (N:Nat) (a0:Node) (lp7:(List Int)×Int×Int×Int×Int×Int×(List Entry)×(List Int)×Int×(List Int)×(List Int)×(List Int)×Int×Int×Int×Bool×Int×Int×Int×Int×Int×Int×Int×(List Int)→Option R) (rec:((List Int)×Int×Int×Int×Int×(List Entry)×(List Int)×Int×(List Int)×(List Int)×(List Int)×Int×Int×Int×Bool×Int×Int×Int×Int×Int×Int×Int)→Option R):((List Int)×Int×Int×Int×Int×(List Entry)×(List Int)×Int×(List Int)×(List Int)×(List Int)×Int×Int×Int×Bool×Int×Int×Int×Int×Int×Int×Int)→Option R
 | (v0,v1,v2,v3,v4,v5,v6,v7,v8,v9,v10,v11,v12,v13,v14,v15,v16,v17,v18,v19,v20,v21)=>
  bif (decide (v1 > v11)) then
   bif (decide (0≤(w64 (v1 - (1:Int))))) then
   bif (decide ((w64 (v1 - (1:Int)))<(v5.length:Int))) then
   bif (bif true then ((v5.getD (Int.toNat (w64 (v1 - (1:Int)))) Entry.dz).Term==v3) else false) then
    lp7 (v0,v1,(0:Int),v2,v3,v4,v5,v6,v7,v8,v9,v10,v11,v12,v13,v14,v15,v16,v17,v18,v19,v20,v21,[v2])
   else
   some (Node.mk v2 v3 v4 v5 v6 v7 v8 v9 v10 v11 v12 v13 v14)
   else none
   else none
  else
  some (Node.mk v2 v3 v4 v5 v6 v7 v8 v9 v10 v11 v12 v13 v14)
noncomputable def step7 (N:Nat) (a0:Node) (lp3:(List Int)×Int×Int×Int×Int×(List Entry)×(List Int)×Int×(List Int)×(List Int)×(List Int)×Int×Int×Int×Bool×Int×Int×Int×Int×Int×Int×Int→Option R) (rec:((List Int)×Int×Int×Int×Int×Int×(List Entry)×(List Int)×Int×(List Int)×(List Int)×(List Int)×Int×Int×Int×Bool×Int×Int×Int×Int×Int×Int×Int×(List Int))→Option R):((List Int)×Int×Int×Int×Int×Int×(List Entry)×(List Int)×Int×(List Int)×(List Int)×(List Int)×Int×Int×Int×Bool×Int×Int×Int×Int×Int×Int×Int×(List Int))→Option R
 | (v0,v1,v2,v3,v4,v5,v6,v7,v8,v9,v10,v11,v12,v13,v14,v15,v16,v17,v18,v19,v20,v21,v22,v23)=>
  bif (decide (v2<(7:Int))) then
   bif (decide (0≤v2)) then
   bif (decide (v2<(v11.length:Int))) then
   bif (decide ((v11.getD (Int.toNat v2) (0:Int))≥v1)) then
    bif (bif true then (v2 != v3) else false) then
     bif (room (v23.length+([v2]).length) 8) then
     rec (v0,v1,(w64 (v2+(1:Int))),v3,v4,v5,v6,v7,v8,v9,v10,v11,v12,v13,v14,v15,v16,v17,v18,v19,v20,v21,v22,(v23++[v2]))
     else none
    else
    rec (v0,v1,(w64 (v2+(1:Int))),v3,v4,v5,v6,v7,v8,v9,v10,v11,v12,v13,v14,v15,v16,v17,v18,v19,v20,v21,v22,v23)
   else
   rec (v0,v1,(w64 (v2+(1:Int))),v3,v4,v5,v6,v7,v8,v9,v10,v11,v12,v13,v14,v15,v16,v17,v18,v19,v20,v21,v22,v23)
   else none
   else none
  else
  ob (spec_l10Most.m N v23 v0) fun y2=>
  bif y2 then
   some (Node.mk v3 v4 v5 v6 v7 v8 v9 v10 v11 v1 v13 v14 v15)
  else
  lp3 (v0,(w64 (v1 - (1:Int))),v3,v4,v5,v6,v7,v8,v9,v10,v11,v12,v13,v14,v15,v16,v17,v18,v19,v20,v21,v22)
noncomputable def lp7 (N:Nat) (a0:Node) (r3:(List Int)×Int×Int×Int×Int×(List Entry)×(List Int)×Int×(List Int)×(List Int)×(List Int)×Int×Int×Int×Bool×Int×Int×Int×Int×Int×Int×Int→Option R):((List Int)×Int×Int×Int×Int×Int×(List Entry)×(List Int)×Int×(List Int)×(List Int)×(List Int)×Int×Int×Int×Bool×Int×Int×Int×Int×Int×Int×Int×(List Int))→Option R:=
 miter (fun rec=>step7 N a0 r3 rec) N
noncomputable def lp3 (N:Nat) (a0:Node):((List Int)×Int×Int×Int×Int×(List Entry)×(List Int)×Int×(List Int)×(List Int)×(List Int)×Int×Int×Int×Bool×Int×Int×Int×Int×Int×Int×Int)→Option R:=
 miter (fun rec=>step3 N a0 (lp7 N a0 rec) rec) N
noncomputable def m0 (N:Nat) (a0:Node) (lp3:(List Int)×Int×Int×Int×Int×(List Entry)×(List Int)×Int×(List Int)×(List Int)×(List Int)×Int×Int×Int×Bool×Int×Int×Int×Int×Int×Int×Int→Option R):Option R:=
 ob (spec_l10Members_.m N a0) fun y1=>
 lp3 (y1,(a0.Log.length:Int),a0.Id,a0.Term,a0.Vote,a0.Log,a0.Start,a0.Role,a0.Votes,a0.Next,a0.Match,a0.Commit,a0.Elapsed,a0.Wait,a0.Up,(0:Int),(0:Int),(0:Int),(0:Int),(0:Int),(0:Int),(0:Int))
@[reducible] noncomputable def m (N:Nat) (a0:Node):Option R:=m0 N a0 (lp3 N a0)
@[reducible] noncomputable def sp (N:Nat):Spec E:=⟨[.val (.st 32)],[(.st 32)],false,false,R,fun x=>m N x.1,fun r=>(r,()),fun r=>((),()),fun a b=>a.1,fun _ _=>rfl,fun _ _=>rfl⟩
end spec_l10Advance
namespace spec_l10Append
abbrev R:=Message
noncomputable def m (N:Nat) (a0:Node) (a1:Int):Option R:=
 bif (decide (0≤a1)) then
 bif (decide (a1<(a0.Next.length:Int))) then
 ob (spec_l10Term.m N a0 (w64 ((a0.Next.getD (Int.toNat a1) (0:Int)) - (1:Int)))) fun y1=>
 bif (decide (0≤(w64 ((a0.Next.getD (Int.toNat a1) (0:Int)) - (1:Int))))) then
 bif (decide ((w64 ((a0.Next.getD (Int.toNat a1) (0:Int)) - (1:Int)))≤((a0.Log.length:Nat):Int))) then
 bif (room (([]:List Entry).length+(a0.Log.drop (Int.toNat (w64 ((a0.Next.getD (Int.toNat a1) (0:Int)) - (1:Int))))).length) 32) then
 some (Message.mk (3:Int) a0.Id a1 a0.Term (w64 ((a0.Next.getD (Int.toNat a1) (0:Int)) - (1:Int))) y1 a0.Commit (([]:List Entry)++(a0.Log.drop (Int.toNat (w64 ((a0.Next.getD (Int.toNat a1) (0:Int)) - (1:Int)))))) false)
 else none
 else none
 else none
 else none
 else none
@[reducible] noncomputable def sp (N:Nat):Spec E:=⟨[.val (.st 32),.val (.int .i64)],[(.st 38)],true,false,R,fun x=>m N x.1 x.2.1,fun r=>(r,()),fun r=>((),(),()),fun a b=>a.1,fun _ _=>rfl,fun _ _=>rfl⟩
end spec_l10Append
namespace spec_l10Tell
abbrev R:=(List Message)
noncomputable def step4 (N:Nat) (a0:Node) (rec:((List Int)×Int×(List Message))→Option R):((List Int)×Int×(List Message))→Option R
 | (v0,v1,v15)=>
  bif (decide (v1<(v0.length:Int))) then
   bif (decide (0≤v1)) then
   bif (decide (v1<(v0.length:Int))) then
   bif ((v0.getD (Int.toNat v1) (0:Int)) != a0.Id) then
    bif (decide (0≤v1)) then
    bif (decide (v1<(v0.length:Int))) then
    ob (spec_l10Append.m N a0 (v0.getD (Int.toNat v1) (0:Int))) fun y2=>
    bif (room (v15.length+([y2]).length) 88) then
    rec (v0,(w64 (v1+(1:Int))),(v15++[y2]))
    else none
    else none
    else none
   else
   rec (v0,(w64 (v1+(1:Int))),v15)
   else none
   else none
  else
  some v15
noncomputable def lp4 (N:Nat) (a0:Node):((List Int)×Int×(List Message))→Option R:=
 miter (fun rec=>step4 N a0 rec) N
noncomputable def m0 (N:Nat) (a0:Node) (lp4:(List Int)×Int×(List Message)→Option R):Option R:=
 ob (spec_l10Members_.m N a0) fun y1=>
 lp4 (y1,(0:Int),([]:List Message))
@[reducible] noncomputable def m (N:Nat) (a0:Node):Option R:=m0 N a0 (lp4 N a0)
@[reducible] noncomputable def sp (N:Nat):Spec E:=⟨[.val (.st 32)],[(.slice 38 (.st 38))],true,true,R,fun x=>m N x.1,fun r=>(r,()),fun r=>((),()),fun a b=>a.1,fun _ _=>rfl,fun _ _=>rfl⟩
end spec_l10Tell
namespace spec_l10Lead
abbrev R:=Node×(List Message)
noncomputable def step4 (N:Nat) (a0:Node) (rec:(Int×Int×Int×(List Int)×(List Int)×Int×Int×Int×Int×Int×Int×Int)→Option R):(Int×Int×Int×(List Int)×(List Int)×Int×Int×Int×Int×Int×Int×Int)→Option R
 | (v0,v5,v7,v12,v13,v14,v15,v16,v17,v18,v19,v20)=>
  bif (decide (v0<(7:Int))) then
   bif (decide (0≤v0)) then
   bif (decide (v0<(v12.length:Int))) then
   bif (decide (0≤v0)) then
   bif (decide (v0<(v13.length:Int))) then
   rec ((w64 (v0+(1:Int))),v5,v7,(v12.set (Int.toNat v0) (w64 ((a0.Log.length:Int)+(1:Int)))),(v13.set (Int.toNat v0) (0:Int)),v14,v15,v16,v17,v18,v19,v20)
   else none
   else none
   else none
   else none
  else
  bif (decide ((a0.Log.length:Int)<(60:Int))) then
   bif (room (a0.Log.length+([(Entry.mk a0.Term (0:Int) ByteArray.empty)]).length) 32) then
   ob (spec_l10Advance.m N (Node.mk a0.Id a0.Term a0.Vote (a0.Log++[(Entry.mk a0.Term (0:Int) ByteArray.empty)]) a0.Start v5 a0.Votes v12 v13 a0.Commit v7 a0.Wait a0.Up)) fun y1=>
   ob (spec_l10Tell.m N (Node.mk a0.Id a0.Term a0.Vote (a0.Log++[(Entry.mk a0.Term (0:Int) ByteArray.empty)]) a0.Start v5 a0.Votes v12 v13 a0.Commit v7 a0.Wait a0.Up)) fun y2=>
   some (y1,y2)
   else none
  else
  ob (spec_l10Advance.m N (Node.mk a0.Id a0.Term a0.Vote a0.Log a0.Start v5 a0.Votes v12 v13 a0.Commit v7 a0.Wait a0.Up)) fun y3=>
  ob (spec_l10Tell.m N (Node.mk a0.Id a0.Term a0.Vote a0.Log a0.Start v5 a0.Votes v12 v13 a0.Commit v7 a0.Wait a0.Up)) fun y4=>
  some (y3,y4)
noncomputable def lp4 (N:Nat) (a0:Node):(Int×Int×Int×(List Int)×(List Int)×Int×Int×Int×Int×Int×Int×Int)→Option R:=
 miter (fun rec=>step4 N a0 rec) N
noncomputable def m0 (N:Nat) (a0:Node) (lp4:Int×Int×Int×(List Int)×(List Int)×Int×Int×Int×Int×Int×Int×Int→Option R):Option R:=
 lp4 ((0:Int),(2:Int),(0:Int),a0.Next,a0.Match,(0:Int),(0:Int),(0:Int),(0:Int),(0:Int),(0:Int),(0:Int))
@[reducible] noncomputable def m (N:Nat) (a0:Node):Option R:=m0 N a0 (lp4 N a0)
@[reducible] noncomputable def sp (N:Nat):Spec E:=⟨[.mov false (.st 31)],[(.st 32),(.slice 38 (.st 38))],false,false,R,fun x=>m N x.1,fun r=>(r.1,r.2,()),fun r=>((),()),fun a b=>(a.1,a.2.1),fun _ _=>rfl,fun _ _=>rfl⟩
end spec_l10Lead
namespace spec_l10Voted
abbrev R:=Node×(List Message)
noncomputable def step5 (N:Nat) (a0:Node) (a1:Message) (rec:(Int×Int×Int×Int×Int×Int×Int×Int)→Option R):(Int×Int×Int×Int×Int×Int×Int×Int)→Option R
 | (v0,v23,v24,v25,v26,v27,v28,v29)=>
  bif (decide (v0<(a0.Votes.length:Int))) then
   bif (decide (0≤v0)) then
   bif (decide (v0<(a0.Votes.length:Int))) then
   bif (bif true then (decide ((a0.Votes.getD (Int.toNat v0) (0:Int))<a1.From)) else false) then
    rec ((w64 (v0+(1:Int))),v23,v24,v25,v26,v27,v28,v29)
   else
   bif (decide (0≤v0)) then
   bif (decide (v0≤((a0.Votes.length:Nat):Int))) then
   bif (decide (0+((Int.toNat v0) - 0)≤a0.Votes.length)) then
   bif (room (([]:List Int).length+((a0.Votes.drop 0).take ((Int.toNat v0) - 0)).length) 8) then
   bif (room ((([]:List Int)++((a0.Votes.drop 0).take ((Int.toNat v0) - 0))).length+([a1.From]).length) 8) then
   bif (decide (0≤v0)) then
   bif (decide (v0≤(((a0.Votes.length):Nat):Int))) then
   bif (decide ((Int.toNat v0)+((a0.Votes.length) - (Int.toNat v0))≤a0.Votes.length)) then
   bif (room (((([]:List Int)++((a0.Votes.drop 0).take ((Int.toNat v0) - 0)))++[a1.From]).length+((a0.Votes.drop (Int.toNat v0)).take ((a0.Votes.length) - (Int.toNat v0))).length) 8) then
   (let w5:List Int:=(((([]:List Int)++((a0.Votes.drop 0).take ((Int.toNat v0) - 0)))++[a1.From])++((a0.Votes.drop (Int.toNat v0)).take ((a0.Votes.length) - (Int.toNat v0))))
   ob (spec_l10Members.m N (Node.mk a0.Id a0.Term a0.Vote a0.Log a0.Start a0.Role w5 a0.Next a0.Match a0.Commit a0.Elapsed a0.Wait a0.Up)) fun y6=>
   ob (spec_l10Most.m N y6.2.Votes y6.1) fun y7=>
   bif y7 then
    ob (spec_l10Lead.m N (Node.mk a0.Id a0.Term a0.Vote y6.2.Log a0.Start a0.Role y6.2.Votes y6.2.Next y6.2.Match a0.Commit a0.Elapsed a0.Wait a0.Up)) fun y8=>
    some (y8.1,y8.2)
   else
   some ((Node.mk a0.Id a0.Term a0.Vote y6.2.Log a0.Start a0.Role y6.2.Votes y6.2.Next y6.2.Match a0.Commit a0.Elapsed a0.Wait a0.Up),([]:List Message)))
   else none
   else none
   else none
   else none
   else none
   else none
   else none
   else none
   else none
   else none
   else none
  else
  bif (decide (0≤v0)) then
  bif (decide (v0≤((a0.Votes.length:Nat):Int))) then
  bif (decide (0+((Int.toNat v0) - 0)≤a0.Votes.length)) then
  bif (room (([]:List Int).length+((a0.Votes.drop 0).take ((Int.toNat v0) - 0)).length) 8) then
  bif (room ((([]:List Int)++((a0.Votes.drop 0).take ((Int.toNat v0) - 0))).length+([a1.From]).length) 8) then
  bif (decide (0≤v0)) then
  bif (decide (v0≤(((a0.Votes.length):Nat):Int))) then
  bif (decide ((Int.toNat v0)+((a0.Votes.length) - (Int.toNat v0))≤a0.Votes.length)) then
  bif (room (((([]:List Int)++((a0.Votes.drop 0).take ((Int.toNat v0) - 0)))++[a1.From]).length+((a0.Votes.drop (Int.toNat v0)).take ((a0.Votes.length) - (Int.toNat v0))).length) 8) then
  (let w9:List Int:=(((([]:List Int)++((a0.Votes.drop 0).take ((Int.toNat v0) - 0)))++[a1.From])++((a0.Votes.drop (Int.toNat v0)).take ((a0.Votes.length) - (Int.toNat v0))))
  ob (spec_l10Members.m N (Node.mk a0.Id a0.Term a0.Vote a0.Log a0.Start a0.Role w9 a0.Next a0.Match a0.Commit a0.Elapsed a0.Wait a0.Up)) fun y10=>
  ob (spec_l10Most.m N y10.2.Votes y10.1) fun y11=>
  bif y11 then
   ob (spec_l10Lead.m N (Node.mk a0.Id a0.Term a0.Vote y10.2.Log a0.Start a0.Role y10.2.Votes y10.2.Next y10.2.Match a0.Commit a0.Elapsed a0.Wait a0.Up)) fun y12=>
   some (y12.1,y12.2)
  else
  some ((Node.mk a0.Id a0.Term a0.Vote y10.2.Log a0.Start a0.Role y10.2.Votes y10.2.Next y10.2.Match a0.Commit a0.Elapsed a0.Wait a0.Up),([]:List Message)))
  else none
  else none
  else none
  else none
  else none
  else none
  else none
  else none
  else none
noncomputable def lp5 (N:Nat) (a0:Node) (a1:Message):(Int×Int×Int×Int×Int×Int×Int×Int)→Option R:=
 miter (fun rec=>step5 N a0 a1 rec) N
noncomputable def m0 (N:Nat) (a0:Node) (a1:Message) (lp5:Int×Int×Int×Int×Int×Int×Int×Int→Option R):Option R:=
 bif (a0.Role != (1:Int)) then
  some (a0,([]:List Message))
 else
 bif (bif false then true else (a1.Term != a0.Term)) then
  some (a0,([]:List Message))
 else
 bif (bif false then true else (!a1.Ok)) then
  some (a0,([]:List Message))
 else
 ob (spec_l10Has.m N a0.Votes a1.From) fun y1=>
 bif (!y1) then
  lp5 ((0:Int),(0:Int),(0:Int),(0:Int),(0:Int),(0:Int),(0:Int),(0:Int))
 else
 ob (spec_l10Members.m N a0) fun y2=>
 ob (spec_l10Most.m N y2.2.Votes y2.1) fun y3=>
 bif y3 then
  ob (spec_l10Lead.m N (Node.mk a0.Id a0.Term a0.Vote y2.2.Log a0.Start a0.Role y2.2.Votes y2.2.Next y2.2.Match a0.Commit a0.Elapsed a0.Wait a0.Up)) fun y4=>
  some (y4.1,y4.2)
 else
 some ((Node.mk a0.Id a0.Term a0.Vote y2.2.Log a0.Start a0.Role y2.2.Votes y2.2.Next y2.2.Match a0.Commit a0.Elapsed a0.Wait a0.Up),([]:List Message))
@[reducible] noncomputable def m (N:Nat) (a0:Node) (a1:Message):Option R:=m0 N a0 a1 (lp5 N a0 a1)
@[reducible] noncomputable def sp (N:Nat):Spec E:=⟨[.mov false (.st 31),.val (.st 38)],[(.st 32),(.slice 38 (.st 38))],false,false,R,fun x=>m N x.1 x.2.1,fun r=>(r.1,r.2,()),fun r=>((),(),()),fun a b=>(a.1,a.2.1),fun _ _=>rfl,fun _ _=>rfl⟩
end spec_l10Voted
namespace spec_l10Entries
abbrev R:=Node×(List Message)
noncomputable def step9 (N:Nat) (a0:Node) (a1:Message) (rec:(Int×Int×Int×Int×Int×Int×Int×Int×Bool×(List Entry)×(List Int)×(List Int)×(List Int)×(List Int)×Int×Int×Int×Int×Int×Int×Int)→Option R):(Int×Int×Int×Int×Int×Int×Int×Int×Bool×(List Entry)×(List Int)×(List Int)×(List Int)×(List Int)×Int×Int×Int×Int×Int×Int×Int)→Option R
 | (v0,v1,v2,v3,v4,v5,v6,v7,v8,v9,v10,v11,v12,v13,v23,v24,v25,v26,v27,v28,v29)=>
  bif (decide (v0<(a1.Entries.length:Int))) then
   bif (decide ((w64 (a1.Index+v0))<(v9.length:Int))) then
    bif (decide (0≤(w64 (a1.Index+v0)))) then
    bif (decide ((w64 (a1.Index+v0))<(v9.length:Int))) then
    bif (decide (0≤v0)) then
    bif (decide (v0<(a1.Entries.length:Int))) then
    bif (bif true then ((v9.getD (Int.toNat (w64 (a1.Index+v0))) Entry.dz).Term==(a1.Entries.getD (Int.toNat v0) Entry.dz).Term) else false) then
     rec ((w64 (v0+(1:Int))),v1,v2,v3,v4,v5,v6,v7,v8,v9,v10,v11,v12,v13,v23,v24,v25,v26,v27,v28,v29)
    else
    bif (decide (0≤(w64 (a1.Index+v0)))) then
    bif (decide ((w64 (a1.Index+v0))≤((v9.length:Nat):Int))) then
    bif (decide (0+((Int.toNat (w64 (a1.Index+v0))) - 0)≤v9.length)) then
    bif (room (([]:List Entry).length+((v9.drop 0).take ((Int.toNat (w64 (a1.Index+v0))) - 0)).length) 32) then
    bif (decide (0≤v0)) then
    bif (decide (v0≤((a1.Entries.length:Nat):Int))) then
    bif (room ((([]:List Entry)++((v9.drop 0).take ((Int.toNat (w64 (a1.Index+v0))) - 0))).length+(a1.Entries.drop (Int.toNat v0)).length) 32) then
    (let w4:Int:=(if v5<(if (w64 (a1.Index+(a1.Entries.length:Int)))<a1.Commit then (w64 (a1.Index+(a1.Entries.length:Int))) else a1.Commit) then (if (w64 (a1.Index+(a1.Entries.length:Int)))<a1.Commit then (w64 (a1.Index+(a1.Entries.length:Int))) else a1.Commit) else v5)
    some ((Node.mk v1 v2 v3 ((([]:List Entry)++((v9.drop 0).take ((Int.toNat (w64 (a1.Index+v0))) - 0)))++(a1.Entries.drop (Int.toNat v0))) v10 v4 v11 v12 v13 w4 v6 v7 v8),[(Message.mk (4:Int) v1 a1.From v2 (w64 (a1.Index+(a1.Entries.length:Int))) (0:Int) (0:Int) ([]:List Entry) true)]))
    else none
    else none
    else none
    else none
    else none
    else none
    else none
    else none
    else none
    else none
    else none
   else
   bif (decide (0≤(w64 (a1.Index+v0)))) then
   bif (decide ((w64 (a1.Index+v0))≤((v9.length:Nat):Int))) then
   bif (decide (0+((Int.toNat (w64 (a1.Index+v0))) - 0)≤v9.length)) then
   bif (room (([]:List Entry).length+((v9.drop 0).take ((Int.toNat (w64 (a1.Index+v0))) - 0)).length) 32) then
   bif (decide (0≤v0)) then
   bif (decide (v0≤((a1.Entries.length:Nat):Int))) then
   bif (room ((([]:List Entry)++((v9.drop 0).take ((Int.toNat (w64 (a1.Index+v0))) - 0))).length+(a1.Entries.drop (Int.toNat v0)).length) 32) then
   (let w5:Int:=(if v5<(if (w64 (a1.Index+(a1.Entries.length:Int)))<a1.Commit then (w64 (a1.Index+(a1.Entries.length:Int))) else a1.Commit) then (if (w64 (a1.Index+(a1.Entries.length:Int)))<a1.Commit then (w64 (a1.Index+(a1.Entries.length:Int))) else a1.Commit) else v5)
   some ((Node.mk v1 v2 v3 ((([]:List Entry)++((v9.drop 0).take ((Int.toNat (w64 (a1.Index+v0))) - 0)))++(a1.Entries.drop (Int.toNat v0))) v10 v4 v11 v12 v13 w5 v6 v7 v8),[(Message.mk (4:Int) v1 a1.From v2 (w64 (a1.Index+(a1.Entries.length:Int))) (0:Int) (0:Int) ([]:List Entry) true)]))
   else none
   else none
   else none
   else none
   else none
   else none
   else none
  else
  (let w6:Int:=(if v5<(if (w64 (a1.Index+(a1.Entries.length:Int)))<a1.Commit then (w64 (a1.Index+(a1.Entries.length:Int))) else a1.Commit) then (if (w64 (a1.Index+(a1.Entries.length:Int)))<a1.Commit then (w64 (a1.Index+(a1.Entries.length:Int))) else a1.Commit) else v5)
  some ((Node.mk v1 v2 v3 v9 v10 v4 v11 v12 v13 w6 v6 v7 v8),[(Message.mk (4:Int) v1 a1.From v2 (w64 (a1.Index+(a1.Entries.length:Int))) (0:Int) (0:Int) ([]:List Entry) true)]))
noncomputable def lp9 (N:Nat) (a0:Node) (a1:Message):(Int×Int×Int×Int×Int×Int×Int×Int×Bool×(List Entry)×(List Int)×(List Int)×(List Int)×(List Int)×Int×Int×Int×Int×Int×Int×Int)→Option R:=
 miter (fun rec=>step9 N a0 a1 rec) N
noncomputable def m0 (N:Nat) (a0:Node) (a1:Message) (lp9:Int×Int×Int×Int×Int×Int×Int×Int×Bool×(List Entry)×(List Int)×(List Int)×(List Int)×(List Int)×Int×Int×Int×Int×Int×Int×Int→Option R):Option R:=
 (let w1:Int:=(if (if (0:Int)<(w64 (a1.Index - (1:Int))) then (w64 (a1.Index - (1:Int))) else (0:Int))<(a0.Log.length:Int) then (if (0:Int)<(w64 (a1.Index - (1:Int))) then (w64 (a1.Index - (1:Int))) else (0:Int)) else (a0.Log.length:Int))
 bif (decide (a1.Term<a0.Term)) then
  some (a0,[(Message.mk (4:Int) a0.Id a1.From a0.Term w1 (0:Int) (0:Int) ([]:List Entry) false)])
 else
 ob (spec_l10Down.m N a0) fun y2=>
 bif (decide (a1.Index > (y2.Log.length:Int))) then
  some ((Node.mk y2.Id y2.Term y2.Vote y2.Log y2.Start y2.Role y2.Votes y2.Next y2.Match y2.Commit (0:Int) y2.Wait y2.Up),[(Message.mk (4:Int) a0.Id a1.From a0.Term w1 (0:Int) (0:Int) ([]:List Entry) false)])
 else
 ob (spec_l10Term.m N (Node.mk y2.Id y2.Term y2.Vote y2.Log y2.Start y2.Role y2.Votes y2.Next y2.Match y2.Commit (0:Int) y2.Wait y2.Up) a1.Index) fun y3=>
 bif (bif false then true else (y3 != a1.LogTerm)) then
  some ((Node.mk y2.Id y2.Term y2.Vote y2.Log y2.Start y2.Role y2.Votes y2.Next y2.Match y2.Commit (0:Int) y2.Wait y2.Up),[(Message.mk (4:Int) a0.Id a1.From a0.Term w1 (0:Int) (0:Int) ([]:List Entry) false)])
 else
 lp9 ((0:Int),y2.Id,y2.Term,y2.Vote,y2.Role,y2.Commit,(0:Int),y2.Wait,y2.Up,y2.Log,y2.Start,y2.Votes,y2.Next,y2.Match,(0:Int),(0:Int),(0:Int),(0:Int),(0:Int),(0:Int),(0:Int)))
@[reducible] noncomputable def m (N:Nat) (a0:Node) (a1:Message):Option R:=m0 N a0 a1 (lp9 N a0 a1)
@[reducible] noncomputable def sp (N:Nat):Spec E:=⟨[.mov true (.st 32),.val (.st 38)],[(.st 32),(.slice 38 (.st 38))],true,true,R,fun x=>m N x.1 x.2.1,fun r=>(r.1,r.2,()),fun r=>((),(),()),fun a b=>(a.1,a.2.1),fun _ _=>rfl,fun _ _=>rfl⟩
end spec_l10Entries
namespace spec_l10Answer
abbrev R:=Node×(List Message)
noncomputable def m (N:Nat) (a0:Node) (a1:Message):Option R:=
 bif (a0.Role != (2:Int)) then
  some (a0,([]:List Message))
 else
 bif (bif false then true else (a1.Term != a0.Term)) then
  some (a0,([]:List Message))
 else
 bif (!a1.Ok) then
  bif (decide (0≤a1.From)) then
  bif (decide (a1.From<(a0.Match.length:Int))) then
  bif (decide (0≤a1.From)) then
  bif (decide (a1.From<(a0.Next.length:Int))) then
  (let w1:Int:=(if (w64 (a1.Index+(1:Int)))<(w64 ((a0.Next.getD (Int.toNat a1.From) (0:Int)) - (1:Int))) then (w64 (a1.Index+(1:Int))) else (w64 ((a0.Next.getD (Int.toNat a1.From) (0:Int)) - (1:Int))))
  (let w2:Int:=(if (w64 ((a0.Match.getD (Int.toNat a1.From) (0:Int))+(1:Int)))<w1 then w1 else (w64 ((a0.Match.getD (Int.toNat a1.From) (0:Int))+(1:Int))))
  bif (decide (0≤a1.From)) then
  bif (decide (a1.From<(a0.Next.length:Int))) then
  ob (spec_l10Append.m N (Node.mk a0.Id a0.Term a0.Vote a0.Log a0.Start a0.Role a0.Votes (a0.Next.set (Int.toNat a1.From) w2) a0.Match a0.Commit a0.Elapsed a0.Wait a0.Up) a1.From) fun y3=>
  some ((Node.mk a0.Id a0.Term a0.Vote a0.Log a0.Start a0.Role a0.Votes (a0.Next.set (Int.toNat a1.From) w2) a0.Match a0.Commit a0.Elapsed a0.Wait a0.Up),[y3])
  else none
  else none))
  else none
  else none
  else none
  else none
 else
 bif (decide (0≤a1.From)) then
 bif (decide (a1.From<(a0.Match.length:Int))) then
 (let w4:Int:=(if (a0.Match.getD (Int.toNat a1.From) (0:Int))<(if (a0.Log.length:Int)<a1.Index then (a0.Log.length:Int) else a1.Index) then (if (a0.Log.length:Int)<a1.Index then (a0.Log.length:Int) else a1.Index) else (a0.Match.getD (Int.toNat a1.From) (0:Int)))
 bif (decide (0≤a1.From)) then
 bif (decide (a1.From<(a0.Match.length:Int))) then
 bif (decide (0≤a1.From)) then
 bif (decide (a1.From<(a0.Next.length:Int))) then
 bif (decide (0≤a1.From)) then
 bif (decide (a1.From<((a0.Match.set (Int.toNat a1.From) w4).length:Int))) then
 (let w5:Int:=(if (a0.Next.getD (Int.toNat a1.From) (0:Int))<(w64 (((a0.Match.set (Int.toNat a1.From) w4).getD (Int.toNat a1.From) (0:Int))+(1:Int))) then (w64 (((a0.Match.set (Int.toNat a1.From) w4).getD (Int.toNat a1.From) (0:Int))+(1:Int))) else (a0.Next.getD (Int.toNat a1.From) (0:Int)))
 bif (decide (0≤a1.From)) then
 bif (decide (a1.From<(a0.Next.length:Int))) then
 ob (spec_l10Advance.m N (Node.mk a0.Id a0.Term a0.Vote a0.Log a0.Start a0.Role a0.Votes (a0.Next.set (Int.toNat a1.From) w5) (a0.Match.set (Int.toNat a1.From) w4) a0.Commit a0.Elapsed a0.Wait a0.Up)) fun y6=>
 some (y6,([]:List Message))
 else none
 else none)
 else none
 else none
 else none
 else none
 else none
 else none)
 else none
 else none
@[reducible] noncomputable def sp (N:Nat):Spec E:=⟨[.mov false (.st 32),.val (.st 38)],[(.st 32),(.slice 38 (.st 38))],false,false,R,fun x=>m N x.1 x.2.1,fun r=>(r.1,r.2,()),fun r=>((),(),()),fun a b=>(a.1,a.2.1),fun _ _=>rfl,fun _ _=>rfl⟩
end spec_l10Answer
namespace spec_l10Take
abbrev R:=Node×(List Message)
noncomputable def m (N:Nat) (a0:Node) (a1:Message):Option R:=
 ob (spec_l10Own.m N a0) fun y1=>
 bif (decide (a1.Term > y1.Term)) then
  ob (spec_l10Down.m N (Node.mk y1.Id a1.Term (-1:Int) y1.Log y1.Start y1.Role y1.Votes y1.Next y1.Match y1.Commit y1.Elapsed y1.Wait y1.Up)) fun y2=>
  bif (a1.Kind==(1:Int)) then
   ob (spec_l10Vote.m N y2 a1) fun y3=>
   some (y3.1,y3.2)
  else
  bif (a1.Kind==(2:Int)) then
   ob (spec_l10Voted.m N (Node.mk y2.Id y2.Term y2.Vote y2.Log y2.Start y2.Role y2.Votes y2.Next y2.Match y2.Commit y2.Elapsed y2.Wait y2.Up) a1) fun y4=>
   some (y4.1,y4.2)
  else
  bif (a1.Kind==(3:Int)) then
   ob (spec_l10Entries.m N y2 a1) fun y5=>
   some (y5.1,y5.2)
  else
  ob (spec_l10Answer.m N y2 a1) fun y6=>
  some (y6.1,y6.2)
 else
 bif (a1.Kind==(1:Int)) then
  ob (spec_l10Vote.m N y1 a1) fun y7=>
  some (y7.1,y7.2)
 else
 bif (a1.Kind==(2:Int)) then
  ob (spec_l10Voted.m N y1 a1) fun y8=>
  some (y8.1,y8.2)
 else
 bif (a1.Kind==(3:Int)) then
  ob (spec_l10Entries.m N y1 a1) fun y9=>
  some (y9.1,y9.2)
 else
 ob (spec_l10Answer.m N y1 a1) fun y10=>
 some (y10.1,y10.2)
@[reducible] noncomputable def sp (N:Nat):Spec E:=⟨[.val (.st 32),.val (.st 38)],[(.st 32),(.slice 38 (.st 38))],false,false,R,fun x=>m N x.1 x.2.1,fun r=>(r.1,r.2,()),fun r=>((),(),()),fun a b=>(a.1,a.2.1),fun _ _=>rfl,fun _ _=>rfl⟩
end spec_l10Take
end Mir.Y
