/- Models of functions. -/
import Derived.Test.YtmjmhkpkmejbnaaGreatQSE
namespace Mir.Y
set_option linter.unusedVariables false
set_option maxRecDepth 10000
open Go Go.Proofs Mir
set_option linter.unusedSectionVars false
variable [UU]
namespace spec_l00Source
abbrev R:=l00Src
noncomputable def m (N:Nat) (a0:List Int):Option R:=
 bif (!decide ((1000:Int)=0)) then
 some (l00Src.mk a0 (0:Int) (Int.tmod (a0.length:Int) (1000:Int)))
 else none
@[reducible] noncomputable def sp (N:Nat):Spec E:=⟨[.val (.slice 5 (.int .u8))],[(.pbx 84 84)],true,false,R,fun x=>m N x.1,fun r=>(r,()),fun r=>((),()),fun a b=>a.1,fun _ _=>rfl,fun _ _=>rfl⟩
end spec_l00Source
namespace spec_l00Src_size_
abbrev R:=Int
noncomputable def m (N:Nat) (a0:l00Src) (a1:Int):Option R:=
 bif (!decide ((12:Int)=0)) then
 (let w1:Int:=(if a1<(w64 ((1:Int)+(w64 (Int.tdiv (a0.code.length:Int) (12:Int))))) then a1 else (w64 ((1:Int)+(w64 (Int.tdiv (a0.code.length:Int) (12:Int))))))
 some w1)
 else none
@[reducible] noncomputable def sp (N:Nat):Spec E:=⟨[.cap (.rb (.st 84)),.val (.int .i64)],[(.int .i64)],true,false,R,fun x=>m N x.1 x.2.1,fun r=>(r,()),fun r=>((),(),()),fun a b=>a.1,fun _ _=>rfl,fun _ _=>rfl⟩
end spec_l00Src_size_
namespace spec_l00Src_byte_
abbrev R:=Int×l00Src
noncomputable def m (N:Nat) (a0:l00Src):Option R:=
 bif (decide ((w64 (a0.«at» + (1:Int)))≤(a0.code.length:Int))) then
  bif (decide (0≤(w64 ((w64 (a0.«at» + (1:Int))) - (1:Int))))) then
  bif (decide ((w64 ((w64 (a0.«at» + (1:Int))) - (1:Int)))<(a0.code.length:Int))) then
  bif (!decide ((2147483648:Int)=0)) then
  (let w1:Int:=(Int.tmod (w64 ((w64 ((w64 (a0.seed * (31:Int)))+(w64 (a0.code.getD (Int.toNat (w64 ((w64 (a0.«at» + (1:Int))) - (1:Int)))) (0:Int)))))+(7:Int))) (2147483648:Int))
  bif (decide (0≤(w64 ((w64 (a0.«at» + (1:Int))) - (1:Int))))) then
  bif (decide ((w64 ((w64 (a0.«at» + (1:Int))) - (1:Int)))<(a0.code.length:Int))) then
  some ((w64 (a0.code.getD (Int.toNat (w64 ((w64 (a0.«at» + (1:Int))) - (1:Int)))) (0:Int))),(l00Src.mk a0.code (w64 (a0.«at» + (1:Int))) w1))
  else none
  else none)
  else none
  else none
  else none
 else
 bif (decide ((w64 (a0.«at» + (1:Int))) > (3000:Int))) then
  some ((0:Int),(l00Src.mk a0.code (w64 (a0.«at» + (1:Int))) a0.seed))
 else
 bif (!decide ((2147483648:Int)=0)) then
 bif (!decide ((65536:Int)=0)) then
 bif (!decide ((256:Int)=0)) then
 some ((Int.tmod (w64 (Int.tdiv (Int.tmod (w64 ((w64 (a0.seed * (1103515245:Int)))+(12345:Int))) (2147483648:Int)) (65536:Int))) (256:Int)),(l00Src.mk a0.code (w64 (a0.«at» + (1:Int))) (Int.tmod (w64 ((w64 (a0.seed * (1103515245:Int)))+(12345:Int))) (2147483648:Int))))
 else none
 else none
 else none
@[reducible] noncomputable def sp (N:Nat):Spec E:=⟨[.box false 84 84],[(.int .i64)],true,false,R,fun x=>m N x.1,fun r=>(r.1,()),fun r=>(r.2,()),fun a b=>(a.1,b.1),fun _ _=>rfl,fun _ _=>rfl⟩
end spec_l00Src_byte_
namespace spec_l00Src_next_
abbrev R:=Int×l00Src
noncomputable def m (N:Nat) (a0:l00Src) (a1:Int):Option R:=
 bif (decide (a1≤(1:Int))) then
  some ((0:Int),a0)
 else
 bif (decide (a1≤(256:Int))) then
  ob (spec_l00Src_byte_.m N a0) fun y1=>
  bif (!decide (a1=0)) then
  some ((Int.tmod y1.1 a1),y1.2)
  else none
 else
 ob (spec_l00Src_byte_.m N a0) fun y2=>
 ob (spec_l00Src_byte_.m N y2.2) fun y3=>
 ob (spec_l00Src_byte_.m N y3.2) fun y4=>
 bif (!decide (a1=0)) then
 some ((Int.tmod (w64 ((w64 ((w64 (y2.1 * (65536:Int)))+(w64 (y3.1 * (256:Int)))))+y4.1)) a1),y4.2)
 else none
@[reducible] noncomputable def sp (N:Nat):Spec E:=⟨[.box false 84 84,.val (.int .i64)],[(.int .i64)],true,false,R,fun x=>m N x.1 x.2.1,fun r=>(r.1,()),fun r=>(r.2,(),()),fun a b=>(a.1,b.1),fun _ _=>rfl,fun _ _=>rfl⟩
end spec_l00Src_next_
namespace spec_l00Src_pick_
abbrev R:=ByteArray×l00Src
noncomputable def m (N:Nat) (a0:l00Src) (a1:List ByteArray):Option R:=
 bif ((a1.length:Int)==(0:Int)) then
  some (ByteArray.empty,a0)
 else
 ob (spec_l00Src_next_.m N a0 (a1.length:Int)) fun y1=>
 bif (decide (0≤y1.1)) then
 bif (decide (y1.1<(a1.length:Int))) then
 some ((a1.getD (Int.toNat y1.1) ByteArray.empty),y1.2)
 else none
 else none
@[reducible] noncomputable def sp (N:Nat):Spec E:=⟨[.box false 84 84,.val (.slice 9 .str)],[.str],true,false,R,fun x=>m N x.1 x.2.1,fun r=>(r.1,()),fun r=>(r.2,(),()),fun a b=>(a.1,b.1),fun _ _=>rfl,fun _ _=>rfl⟩
end spec_l00Src_pick_
namespace spec_l00Src_key
abbrev R:=ByteArray×l00Src
noncomputable def m (N:Nat) (a0:l00Src):Option R:=
 (let w1:List ByteArray:=[(⟨#[97]⟩:ByteArray),(⟨#[98]⟩:ByteArray),(⟨#[99]⟩:ByteArray),(⟨#[97,108,112,104,97]⟩:ByteArray),(⟨#[98,101,116,97]⟩:ByteArray)]
 ob (spec_l00Src_pick_.m N a0 w1) fun y2=>
 some (y2.1,y2.2))
@[reducible] noncomputable def sp (N:Nat):Spec E:=⟨[.box false 84 84],[.str],true,false,R,fun x=>m N x.1,fun r=>(r.1,()),fun r=>(r.2,()),fun a b=>(a.1,b.1),fun _ _=>rfl,fun _ _=>rfl⟩
end spec_l00Src_key
namespace spec_l00Src_datum
abbrev R:=ByteArray×l00Src
noncomputable def m (N:Nat) (a0:l00Src):Option R:=
 (let w1:List ByteArray:=[ByteArray.empty,(⟨#[49]⟩:ByteArray),(⟨#[50]⟩:ByteArray),(⟨#[120]⟩:ByteArray),(⟨#[108,111,110,103,101,114,32,118,97,108,117,101]⟩:ByteArray)]
 ob (spec_l00Src_pick_.m N a0 w1) fun y2=>
 some (y2.1,y2.2))
@[reducible] noncomputable def sp (N:Nat):Spec E:=⟨[.box false 84 84],[.str],true,false,R,fun x=>m N x.1,fun r=>(r.1,()),fun r=>(r.2,()),fun a b=>(a.1,b.1),fun _ _=>rfl,fun _ _=>rfl⟩
end spec_l00Src_datum
namespace spec_l00Src_chance
abbrev R:=Bool×l00Src
noncomputable def m (N:Nat) (a0:l00Src) (a1:Int):Option R:=
 ob (spec_l00Src_next_.m N a0 a1) fun y1=>
 some ((y1.1==(w64 (a1 - (1:Int)))),y1.2)
@[reducible] noncomputable def sp (N:Nat):Spec E:=⟨[.box false 84 84,.val (.int .i64)],[.bool],true,false,R,fun x=>m N x.1 x.2.1,fun r=>(r.1,()),fun r=>(r.2,(),()),fun a b=>(a.1,b.1),fun _ _=>rfl,fun _ _=>rfl⟩
end spec_l00Src_chance
namespace spec_l00Src_command
abbrev R:=Command×l00Src
noncomputable def m (N:Nat) (a0:l00Src):Option R:=
 ob (spec_l00Src_next_.m N a0 (5:Int)) fun y1=>
 bif (decide (0≤y1.1)) then
 bif (decide (y1.1<(([(1:Int),(1:Int),(2:Int),(2:Int),(3:Int)]).length:Int))) then
 ob (spec_l00Src_next_.m N y1.2 (3:Int)) fun y2=>
 ob (spec_l00Src_next_.m N y2.2 (5:Int)) fun y3=>
 ob (spec_l00Src_key.m N y3.2) fun y4=>
 ob (spec_l00Src_datum.m N y4.2) fun y5=>
 bif ((([(1:Int),(1:Int),(2:Int),(2:Int),(3:Int)]).getD (Int.toNat y1.1) (0:Int))==(3:Int)) then
  ob (spec_l00Src_chance.m N y5.2 (4:Int)) fun y6=>
  bif y6.1 then
   ob (spec_l00Src_next_.m N y6.2 (2:Int)) fun y7=>
   ob (spec_l00Src_next_.m N y7.2 (3:Int)) fun y8=>
   some ((Command.mk (w64 ((4:Int)+y7.1)) (w64 ((1:Int)+y8.1)) (0:Int) ByteArray.empty ByteArray.empty),y8.2)
  else
  some ((Command.mk (([(1:Int),(1:Int),(2:Int),(2:Int),(3:Int)]).getD (Int.toNat y1.1) (0:Int)) (w64 ((1:Int)+y2.1)) (w64 ((1:Int)+y3.1)) y4.1 ByteArray.empty),y6.2)
 else
 ob (spec_l00Src_chance.m N y5.2 (4:Int)) fun y9=>
 bif y9.1 then
  ob (spec_l00Src_next_.m N y9.2 (2:Int)) fun y10=>
  ob (spec_l00Src_next_.m N y10.2 (3:Int)) fun y11=>
  some ((Command.mk (w64 ((4:Int)+y10.1)) (w64 ((1:Int)+y11.1)) (0:Int) ByteArray.empty ByteArray.empty),y11.2)
 else
 some ((Command.mk (([(1:Int),(1:Int),(2:Int),(2:Int),(3:Int)]).getD (Int.toNat y1.1) (0:Int)) (w64 ((1:Int)+y2.1)) (w64 ((1:Int)+y3.1)) y4.1 y5.1),y9.2)
 else none
 else none
@[reducible] noncomputable def sp (N:Nat):Spec E:=⟨[.box false 84 84],[(.st 31)],true,false,R,fun x=>m N x.1,fun r=>(r.1,()),fun r=>(r.2,()),fun a b=>(a.1,b.1),fun _ _=>rfl,fun _ _=>rfl⟩
end spec_l00Src_command
namespace spec_l00Src_commands
abbrev R:=(List Command)×l00Src
noncomputable def step3 (N:Nat) (a0:l00Src) (rec:(Int×(List Int)×Int×Int×(List Command))→Option R):(Int×(List Int)×Int×Int×(List Command))→Option R
 | (v0,v1,v2,v3,v4)=>
  bif (decide (v0 > (0:Int))) then
   bif (bif true then (decide ((v4.length:Int)<(100:Int))) else false) then
    ob (spec_l00Src_command.m N (l00Src.mk v1 v2 v3)) fun y3=>
    bif (room (v4.length+([y3.1]).length) 56) then
    rec ((w64 (v0 - (1:Int))),y3.2.code,y3.2.«at»,y3.2.seed,(v4++[y3.1]))
    else none
   else
   some (v4,(l00Src.mk v1 v2 v3))
  else
  some (v4,(l00Src.mk v1 v2 v3))
noncomputable def lp3 (N:Nat) (a0:l00Src):(Int×(List Int)×Int×Int×(List Command))→Option R:=
 miter (fun rec=>step3 N a0 rec) N
noncomputable def m0 (N:Nat) (a0:l00Src) (lp3:Int×(List Int)×Int×Int×(List Command)→Option R):Option R:=
 ob (spec_l00Src_size_.m N a0 (20:Int)) fun y1=>
 ob (spec_l00Src_next_.m N a0 (w64 (y1+(4:Int)))) fun y2=>
 lp3 (y2.1,y2.2.code,y2.2.«at»,y2.2.seed,[(Command.mk (4:Int) (1:Int) (0:Int) ByteArray.empty ByteArray.empty),(Command.mk (4:Int) (2:Int) (0:Int) ByteArray.empty ByteArray.empty)])
@[reducible] noncomputable def m (N:Nat) (a0:l00Src):Option R:=m0 N a0 (lp3 N a0)
@[reducible] noncomputable def sp (N:Nat):Spec E:=⟨[.box false 84 84],[(.slice 31 (.st 31))],true,false,R,fun x=>m N x.1,fun r=>(r.1,()),fun r=>(r.2,()),fun a b=>(a.1,b.1),fun _ _=>rfl,fun _ _=>rfl⟩
end spec_l00Src_commands
namespace spec_CommandsOf
abbrev R:=(List Command)
noncomputable def m (N:Nat) (a0:List Int):Option R:=
 ob (spec_l00Source.m N a0) fun y1=>
 ob (spec_l00Src_commands.m N y1) fun y2=>
 some y2.1
@[reducible] noncomputable def sp (N:Nat):Spec E:=⟨[.val (.slice 5 (.int .u8))],[(.slice 31 (.st 31))],true,false,R,fun x=>m N x.1,fun r=>(r,()),fun r=>((),()),fun a b=>a.1,fun _ _=>rfl,fun _ _=>rfl⟩
end spec_CommandsOf
namespace spec_l01In
abbrev R:=Bool
noncomputable def m (N:Nat) (a0:Int) (a1:Int) (a2:Int):Option R:=
 bif (decide (a0≥a1)) then
  some (bif true then (decide (a0≤a2)) else false)
 else
 some false
@[reducible] noncomputable def sp (N:Nat):Spec E:=⟨[.val (.int .i64),.val (.int .i64),.val (.int .i64)],[.bool],true,false,R,fun x=>m N x.1 x.2.1 x.2.2.1,fun r=>(r,()),fun r=>((),(),(),()),fun a b=>a.1,fun _ _=>rfl,fun _ _=>rfl⟩
end spec_l01In
namespace spec_l02Key
abbrev R:=Bool
noncomputable def m (N:Nat) (a0:ByteArray):Option R:=
 bif (decide ((a0.size:Int)≥(1:Int))) then
  some (bif true then (decide ((a0.size:Int)≤(24:Int))) else false)
 else
 some false
@[reducible] noncomputable def sp (N:Nat):Spec E:=⟨[.val .str],[.bool],true,false,R,fun x=>m N x.1,fun r=>(r,()),fun r=>((),()),fun a b=>a.1,fun _ _=>rfl,fun _ _=>rfl⟩
end spec_l02Key
namespace spec_CommandOK
abbrev R:=Bool
noncomputable def m (N:Nat) (a0:Command):Option R:=
 ob (spec_l01In.m N a0.Session (0:Int) (65535:Int)) fun y1=>
 bif (!y1) then
  some false
 else
 ob (spec_l01In.m N a0.Seq (0:Int) (65535:Int)) fun y2=>
 bif (bif false then true else (!y2)) then
  some false
 else
 bif (bif false then true else (decide ((a0.Value.size:Int) > (60:Int)))) then
  some false
 else
 bif (a0.Kind==(1:Int)) then
  ob (spec_l02Key.m N a0.Key) fun y3=>
  some y3
 else
 bif (a0.Kind==(2:Int)) then
  ob (spec_l02Key.m N a0.Key) fun y4=>
  some y4
 else
 bif (a0.Kind==(3:Int)) then
  ob (spec_l02Key.m N a0.Key) fun y5=>
  bif y5 then
   some (bif true then (seq a0.Value ByteArray.empty) else false)
  else
  some false
 else
 bif (a0.Kind==(4:Int)) then
  bif (seq a0.Key ByteArray.empty) then
   bif (bif true then (seq a0.Value ByteArray.empty) else false) then
    some (bif true then (a0.Seq==(0:Int)) else false)
   else
   some false
  else
  some false
 else
 bif (a0.Kind==(5:Int)) then
  bif (seq a0.Key ByteArray.empty) then
   bif (bif true then (seq a0.Value ByteArray.empty) else false) then
    some (bif true then (a0.Seq==(0:Int)) else false)
   else
   some false
  else
  some false
 else
 some false
@[reducible] noncomputable def sp (N:Nat):Spec E:=⟨[.val (.st 31)],[.bool],true,false,R,fun x=>m N x.1,fun r=>(r,()),fun r=>((),()),fun a b=>a.1,fun _ _=>rfl,fun _ _=>rfl⟩
end spec_CommandOK
namespace spec_l09Session
abbrev R:=Int
noncomputable def step2 (N:Nat) (a0:List Session) (a1:Int) (rec:Int→Option R):Int→Option R
 | v2=>
  bif (decide (v2<(a0.length:Int))) then
   bif (decide (0≤v2)) then
   bif (decide (v2<(a0.length:Int))) then
   bif ((a0.getD (Int.toNat v2) Session.dz).Id==a1) then
    some v2
   else
   rec (w64 (v2+(1:Int)))
   else none
   else none
  else
  some (-1:Int)
noncomputable def lp2 (N:Nat) (a0:List Session) (a1:Int):Int→Option R:=
 miter (fun rec=>step2 N a0 a1 rec) N
noncomputable def m0 (N:Nat) (a0:List Session) (a1:Int) (lp2:Int→Option R):Option R:=
 lp2 (0:Int)
@[reducible] noncomputable def m (N:Nat) (a0:List Session) (a1:Int):Option R:=m0 N a0 a1 (lp2 N a0 a1)
@[reducible] noncomputable def sp (N:Nat):Spec E:=⟨[.val (.slice 72 (.st 72)),.val (.int .i64)],[(.int .i64)],true,false,R,fun x=>m N x.1 x.2.1,fun r=>(r,()),fun r=>((),(),()),fun a b=>a.1,fun _ _=>rfl,fun _ _=>rfl⟩
end spec_l09Session
namespace spec_l09Open
abbrev R:=Ledger×Reply
noncomputable def step13 (N:Nat) (a0:Ledger) (a1:Command) (rec:(Int×ByteArray×ByteArray×Int×Int×Int×ByteArray)→Option R):(Int×ByteArray×ByteArray×Int×Int×Int×ByteArray)→Option R
 | (v0,v12,v13,v14,v15,v16,v17)=>
  bif (decide (v0<(a0.Sessions.length:Int))) then
   bif (decide (0≤v0)) then
   bif (decide (v0<(a0.Sessions.length:Int))) then
   bif (bif true then (decide ((a0.Sessions.getD (Int.toNat v0) Session.dz).Id<a1.Session)) else false) then
    rec ((w64 (v0+(1:Int))),v12,v13,v14,v15,v16,v17)
   else
   bif (decide (0≤v0)) then
   bif (decide (v0≤((a0.Sessions.length:Nat):Int))) then
   bif (room (([]:List Session).length+(a0.Sessions.take (Int.toNat v0)).length) 48) then
   bif (room ((([]:List Session)++(a0.Sessions.take (Int.toNat v0))).length+([(Session.mk a1.Session (0:Int) (Reply.mk (0:Int) (0:Int) ByteArray.empty))]).length) 48) then
   bif (decide (0≤v0)) then
   bif (decide (v0≤((a0.Sessions.length:Nat):Int))) then
   bif (room (((([]:List Session)++(a0.Sessions.take (Int.toNat v0)))++[(Session.mk a1.Session (0:Int) (Reply.mk (0:Int) (0:Int) ByteArray.empty))]).length+(a0.Sessions.drop (Int.toNat v0)).length) 48) then
   (let w2:List Session:=(((([]:List Session)++(a0.Sessions.take (Int.toNat v0)))++[(Session.mk a1.Session (0:Int) (Reply.mk (0:Int) (0:Int) ByteArray.empty))])++(a0.Sessions.drop (Int.toNat v0)))
   some ((Ledger.mk a0.Leaves (Branch.mk a0.Map.Key a0.Map.Value a0.Map.At a0.Map.Kids) w2),(Reply.mk (1:Int) (0:Int) ByteArray.empty)))
   else none
   else none
   else none
   else none
   else none
   else none
   else none
   else none
   else none
  else
  bif (decide (0≤v0)) then
  bif (decide (v0≤((a0.Sessions.length:Nat):Int))) then
  bif (room (([]:List Session).length+(a0.Sessions.take (Int.toNat v0)).length) 48) then
  bif (room ((([]:List Session)++(a0.Sessions.take (Int.toNat v0))).length+([(Session.mk a1.Session (0:Int) (Reply.mk (0:Int) (0:Int) ByteArray.empty))]).length) 48) then
  bif (decide (0≤v0)) then
  bif (decide (v0≤((a0.Sessions.length:Nat):Int))) then
  bif (room (((([]:List Session)++(a0.Sessions.take (Int.toNat v0)))++[(Session.mk a1.Session (0:Int) (Reply.mk (0:Int) (0:Int) ByteArray.empty))]).length+(a0.Sessions.drop (Int.toNat v0)).length) 48) then
  (let w3:List Session:=(((([]:List Session)++(a0.Sessions.take (Int.toNat v0)))++[(Session.mk a1.Session (0:Int) (Reply.mk (0:Int) (0:Int) ByteArray.empty))])++(a0.Sessions.drop (Int.toNat v0)))
  some ((Ledger.mk a0.Leaves (Branch.mk a0.Map.Key a0.Map.Value a0.Map.At a0.Map.Kids) w3),(Reply.mk (1:Int) (0:Int) ByteArray.empty)))
  else none
  else none
  else none
  else none
  else none
  else none
  else none
noncomputable def lp13 (N:Nat) (a0:Ledger) (a1:Command):(Int×ByteArray×ByteArray×Int×Int×Int×ByteArray)→Option R:=
 miter (fun rec=>step13 N a0 a1 rec) N
noncomputable def m0 (N:Nat) (a0:Ledger) (a1:Command) (lp13:Int×ByteArray×ByteArray×Int×Int×Int×ByteArray→Option R):Option R:=
 ob (spec_l09Session.m N a0.Sessions a1.Session) fun y1=>
 bif (a1.Kind==(5:Int)) then
  bif (decide (y1<(0:Int))) then
   some ((Ledger.mk a0.Leaves (Branch.mk a0.Map.Key a0.Map.Value a0.Map.At a0.Map.Kids) a0.Sessions),(Reply.mk (4:Int) (0:Int) ByteArray.empty))
  else
  bif (decide (0≤y1)) then
  bif (decide (y1≤((a0.Sessions.length:Nat):Int))) then
  bif (room (([]:List Session).length+(a0.Sessions.take (Int.toNat y1)).length) 48) then
  bif (decide (0≤(w64 (y1+(1:Int))))) then
  bif (decide ((w64 (y1+(1:Int)))≤((a0.Sessions.length:Nat):Int))) then
  bif (room ((([]:List Session)++(a0.Sessions.take (Int.toNat y1))).length+(a0.Sessions.drop (Int.toNat (w64 (y1+(1:Int))))).length) 48) then
  some ((Ledger.mk a0.Leaves (Branch.mk a0.Map.Key a0.Map.Value a0.Map.At a0.Map.Kids) ((([]:List Session)++(a0.Sessions.take (Int.toNat y1)))++(a0.Sessions.drop (Int.toNat (w64 (y1+(1:Int))))))),(Reply.mk (1:Int) (0:Int) ByteArray.empty))
  else none
  else none
  else none
  else none
  else none
  else none
 else
 bif (decide (y1≥(0:Int))) then
  some ((Ledger.mk a0.Leaves (Branch.mk a0.Map.Key a0.Map.Value a0.Map.At a0.Map.Kids) a0.Sessions),(Reply.mk (5:Int) (0:Int) ByteArray.empty))
 else
 bif ((a0.Sessions.length:Int)==(8:Int)) then
  some ((Ledger.mk a0.Leaves (Branch.mk a0.Map.Key a0.Map.Value a0.Map.At a0.Map.Kids) a0.Sessions),(Reply.mk (6:Int) (0:Int) ByteArray.empty))
 else
 lp13 ((0:Int),ByteArray.empty,ByteArray.empty,(0:Int),(0:Int),(0:Int),ByteArray.empty)
@[reducible] noncomputable def m (N:Nat) (a0:Ledger) (a1:Command):Option R:=m0 N a0 a1 (lp13 N a0 a1)
@[reducible] noncomputable def sp (N:Nat):Spec E:=⟨[.val (.st 39),.val (.st 31)],[(.st 39),(.st 27)],false,false,R,fun x=>m N x.1 x.2.1,fun r=>(r.1,r.2,()),fun r=>((),(),()),fun a b=>(a.1,a.2.1),fun _ _=>rfl,fun _ _=>rfl⟩
end spec_l09Open
namespace spec_l07Empty
abbrev R:=Bool
noncomputable def m (N:Nat) (a0:Branch):Option R:=
 bif (seq a0.Key ByteArray.empty) then
  bif (bif true then (seq a0.Value ByteArray.empty) else false) then
   bif (bif true then (a0.At==(0:Int)) else false) then
    some (bif true then ((a0.Kids.length:Int)==(0:Int)) else false)
   else
   some false
  else
  some false
 else
 some false
@[reducible] noncomputable def sp (N:Nat):Spec E:=⟨[.val (.st 36)],[.bool],true,false,R,fun x=>m N x.1,fun r=>(r,()),fun r=>((),()),fun a b=>a.1,fun _ _=>rfl,fun _ _=>rfl⟩
end spec_l07Empty
namespace spec_l01Consts
abbrev R:=(List Int)
noncomputable def m (N:Nat):Option R:=
 (let w1:List Int:=[(1116352408:Int),(1899447441:Int),(3049323471:Int),(3921009573:Int),(961987163:Int),(1508970993:Int),(2453635748:Int),(2870763221:Int),(3624381080:Int),(310598401:Int),(607225278:Int),(1426881987:Int),(1925078388:Int),(2162078206:Int),(2614888103:Int),(3248222580:Int),(3835390401:Int),(4022224774:Int),(264347078:Int),(604807628:Int),(770255983:Int),(1249150122:Int),(1555081692:Int),(1996064986:Int),(2554220882:Int),(2821834349:Int),(2952996808:Int),(3210313671:Int),(3336571891:Int),(3584528711:Int),(113926993:Int),(338241895:Int),(666307205:Int),(773529912:Int),(1294757372:Int),(1396182291:Int),(1695183700:Int),(1986661051:Int),(2177026350:Int),(2456956037:Int),(2730485921:Int),(2820302411:Int),(3259730800:Int),(3345764771:Int),(3516065817:Int),(3600352804:Int),(4094571909:Int),(275423344:Int),(430227734:Int),(506948616:Int),(659060556:Int),(883997877:Int),(958139571:Int),(1322822218:Int),(1537002063:Int),(1747873779:Int),(1955562222:Int),(2024104815:Int),(2227730452:Int),(2361852424:Int),(2428436474:Int),(2756734187:Int),(3204031479:Int),(3329325298:Int)]
 some w1)
@[reducible] noncomputable def sp (N:Nat):Spec E:=⟨[],[(.slice 147 (.int .u32))],true,false,R,fun x=>m N,fun r=>(r,()),fun r=>(),fun a b=>a.1,fun _ _=>rfl,fun _ _=>rfl⟩
end spec_l01Consts
namespace spec_l01Turn
abbrev R:=Int
noncomputable def m (N:Nat) (a0:Int) (a1:Int):Option R:=
 bif (!decide (a1<0)) then
 bif (!decide ((wu64 ((32:Int) - a1))<0)) then
 some (ibit .or .u32 (Int.fdiv a0 (2 ^ (min (Int.toNat a1) 32))) (wu32 (a0 * 2 ^ (min (Int.toNat (wu64 ((32:Int) - a1))) 32))))
 else none
 else none
@[reducible] noncomputable def sp (N:Nat):Spec E:=⟨[.val (.int .u32),.val (.int .u64)],[(.int .u32)],true,false,R,fun x=>m N x.1 x.2.1,fun r=>(r,()),fun r=>((),(),()),fun a b=>a.1,fun _ _=>rfl,fun _ _=>rfl⟩
end spec_l01Turn
namespace spec_l01Block
abbrev R:=(List Int)
noncomputable def step2 (N:Nat) (a0:List Int) (a1:List Int) (a2:List Int) (lp6:Int×(List Int)→Option R) (rec:(Int×(List Int))→Option R):(Int×(List Int))→Option R
 | (v2,v4)=>
  bif (decide (v2<(16:Int))) then
   bif (decide (0≤(w64 ((4:Int) * v2)))) then
   bif (decide ((w64 ((4:Int) * v2))<(a1.length:Int))) then
   bif (!decide ((24:Int)<0)) then
   bif (decide (0≤(w64 ((w64 ((4:Int) * v2))+(1:Int))))) then
   bif (decide ((w64 ((w64 ((4:Int) * v2))+(1:Int)))<(a1.length:Int))) then
   bif (!decide ((16:Int)<0)) then
   (let w1:Int:=(ibit .or .u32 (wu32 ((wu32 (a1.getD (Int.toNat (w64 ((4:Int) * v2))) (0:Int))) * 2 ^ (min (Int.toNat (24:Int)) 32))) (wu32 ((wu32 (a1.getD (Int.toNat (w64 ((w64 ((4:Int) * v2))+(1:Int)))) (0:Int))) * 2 ^ (min (Int.toNat (16:Int)) 32))))
   bif (decide (0≤(w64 ((w64 ((4:Int) * v2))+(2:Int))))) then
   bif (decide ((w64 ((w64 ((4:Int) * v2))+(2:Int)))<(a1.length:Int))) then
   bif (!decide ((8:Int)<0)) then
   bif (decide (0≤(w64 ((w64 ((4:Int) * v2))+(3:Int))))) then
   bif (decide ((w64 ((w64 ((4:Int) * v2))+(3:Int)))<(a1.length:Int))) then
   (let w2:Int:=(ibit .or .u32 (ibit .or .u32 w1 (wu32 ((wu32 (a1.getD (Int.toNat (w64 ((w64 ((4:Int) * v2))+(2:Int)))) (0:Int))) * 2 ^ (min (Int.toNat (8:Int)) 32)))) (wu32 (a1.getD (Int.toNat (w64 ((w64 ((4:Int) * v2))+(3:Int)))) (0:Int))))
   bif (decide (0≤v2)) then
   bif (decide (v2<(v4.length:Int))) then
   rec ((w64 (v2+(1:Int))),(v4.set (Int.toNat v2) w2))
   else none
   else none)
   else none
   else none
   else none
   else none
   else none)
   else none
   else none
   else none
   else none
   else none
   else none
  else
  lp6 ((16:Int),v4)
noncomputable def step6 (N:Nat) (a0:List Int) (a1:List Int) (a2:List Int) (lp13:Int×(List Int)×(List Int)→Option R) (rec:(Int×(List Int))→Option R):(Int×(List Int))→Option R
 | (v1,v3)=>
  bif (decide (v1<(64:Int))) then
   bif (decide (0≤(w64 (v1 - (15:Int))))) then
   bif (decide ((w64 (v1 - (15:Int)))<(v3.length:Int))) then
   bif (decide (0≤(w64 (v1 - (2:Int))))) then
   bif (decide ((w64 (v1 - (2:Int)))<(v3.length:Int))) then
   bif (decide (0≤(w64 (v1 - (16:Int))))) then
   bif (decide ((w64 (v1 - (16:Int)))<(v3.length:Int))) then
   ob (spec_l01Turn.m N (v3.getD (Int.toNat (w64 (v1 - (15:Int)))) (0:Int)) (7:Int)) fun y3=>
   ob (spec_l01Turn.m N (v3.getD (Int.toNat (w64 (v1 - (15:Int)))) (0:Int)) (18:Int)) fun y4=>
   bif (!decide ((3:Int)<0)) then
   (let w5:Int:=(wu32 ((v3.getD (Int.toNat (w64 (v1 - (16:Int)))) (0:Int))+(ibit .xor .u32 (ibit .xor .u32 y3 y4) (Int.fdiv (v3.getD (Int.toNat (w64 (v1 - (15:Int)))) (0:Int)) (2 ^ (min (Int.toNat (3:Int)) 32))))))
   bif (decide (0≤(w64 (v1 - (7:Int))))) then
   bif (decide ((w64 (v1 - (7:Int)))<(v3.length:Int))) then
   ob (spec_l01Turn.m N (v3.getD (Int.toNat (w64 (v1 - (2:Int)))) (0:Int)) (17:Int)) fun y6=>
   ob (spec_l01Turn.m N (v3.getD (Int.toNat (w64 (v1 - (2:Int)))) (0:Int)) (19:Int)) fun y7=>
   bif (!decide ((10:Int)<0)) then
   (let w8:Int:=(wu32 ((wu32 (w5+(v3.getD (Int.toNat (w64 (v1 - (7:Int)))) (0:Int))))+(ibit .xor .u32 (ibit .xor .u32 y6 y7) (Int.fdiv (v3.getD (Int.toNat (w64 (v1 - (2:Int)))) (0:Int)) (2 ^ (min (Int.toNat (10:Int)) 32))))))
   bif (decide (0≤v1)) then
   bif (decide (v1<(v3.length:Int))) then
   rec ((w64 (v1+(1:Int))),(v3.set (Int.toNat v1) w8))
   else none
   else none)
   else none
   else none
   else none)
   else none
   else none
   else none
   else none
   else none
   else none
   else none
  else
  bif (room (([]:List Int).length+a0.length) 4) then
  lp13 ((0:Int),v3,(([]:List Int)++a0))
  else none
noncomputable def step13 (N:Nat) (a0:List Int) (a1:List Int) (a2:List Int) (lp21:Int×(List Int)×(List Int)→Option R) (rec:(Int×(List Int)×(List Int))→Option R):(Int×(List Int)×(List Int))→Option R
 | (v1,v3,v4)=>
  bif (decide (v1<(64:Int))) then
   bif (decide (0≤(4:Int))) then
   bif (decide ((4:Int)<(v4.length:Int))) then
   bif (decide (0≤(0:Int))) then
   bif (decide ((0:Int)<(v4.length:Int))) then
   bif (decide (0≤(7:Int))) then
   bif (decide ((7:Int)<(v4.length:Int))) then
   ob (spec_l01Turn.m N (v4.getD 4 (0:Int)) (6:Int)) fun y9=>
   ob (spec_l01Turn.m N (v4.getD 4 (0:Int)) (11:Int)) fun y10=>
   ob (spec_l01Turn.m N (v4.getD 4 (0:Int)) (25:Int)) fun y11=>
   bif (decide (0≤(5:Int))) then
   bif (decide ((5:Int)<(v4.length:Int))) then
   bif (decide (0≤(6:Int))) then
   bif (decide ((6:Int)<(v4.length:Int))) then
   (let w12:Int:=(ibit .xor .u32 (ibit .and .u32 (v4.getD 4 (0:Int)) (v4.getD 5 (0:Int))) (ibit .and .u32 (ibit .xor .u32 (if IntKind.signed .u32 then -1 else IntKind.max .u32) (v4.getD 4 (0:Int))) (v4.getD 6 (0:Int))))
   bif (decide (0≤v1)) then
   bif (decide (v1<(a2.length:Int))) then
   bif (decide (0≤v1)) then
   bif (decide (v1<(v3.length:Int))) then
   (let w13:Int:=(wu32 ((wu32 ((wu32 ((wu32 ((v4.getD 7 (0:Int))+(ibit .xor .u32 (ibit .xor .u32 y9 y10) y11)))+w12))+(a2.getD (Int.toNat v1) (0:Int))))+(v3.getD (Int.toNat v1) (0:Int))))
   ob (spec_l01Turn.m N (v4.getD 0 (0:Int)) (2:Int)) fun y14=>
   ob (spec_l01Turn.m N (v4.getD 0 (0:Int)) (13:Int)) fun y15=>
   ob (spec_l01Turn.m N (v4.getD 0 (0:Int)) (22:Int)) fun y16=>
   bif (decide (0≤(1:Int))) then
   bif (decide ((1:Int)<(v4.length:Int))) then
   bif (decide (0≤(2:Int))) then
   bif (decide ((2:Int)<(v4.length:Int))) then
   bif (decide (0≤(1:Int))) then
   bif (decide ((1:Int)<(v4.length:Int))) then
   bif (decide (0≤(2:Int))) then
   bif (decide ((2:Int)<(v4.length:Int))) then
   (let w17:Int:=(ibit .xor .u32 (ibit .xor .u32 (ibit .and .u32 (v4.getD 0 (0:Int)) (v4.getD 1 (0:Int))) (ibit .and .u32 (v4.getD 0 (0:Int)) (v4.getD 2 (0:Int)))) (ibit .and .u32 (v4.getD 1 (0:Int)) (v4.getD 2 (0:Int))))
   bif (decide (0≤(0:Int))) then
   bif (decide ((0:Int)<(v4.length:Int))) then
   bif (decide (0≤(1:Int))) then
   bif (decide ((1:Int)<(v4.length:Int))) then
   bif (decide (0≤(2:Int))) then
   bif (decide ((2:Int)<(v4.length:Int))) then
   bif (decide (0≤(3:Int))) then
   bif (decide ((3:Int)<(v4.length:Int))) then
   bif (decide (0≤(4:Int))) then
   bif (decide ((4:Int)<(v4.length:Int))) then
   bif (decide (0≤(5:Int))) then
   bif (decide ((5:Int)<(v4.length:Int))) then
   bif (decide (0≤(6:Int))) then
   bif (decide ((6:Int)<(v4.length:Int))) then
   (let w18:List Int:=[(wu32 (w13+(wu32 ((ibit .xor .u32 (ibit .xor .u32 y14 y15) y16)+w17)))),(v4.getD 0 (0:Int)),(v4.getD 1 (0:Int)),(v4.getD 2 (0:Int)),(wu32 ((v4.getD 3 (0:Int))+w13)),(v4.getD 4 (0:Int)),(v4.getD 5 (0:Int)),(v4.getD 6 (0:Int))]
   rec ((w64 (v1+(1:Int))),v3,w18))
   else none
   else none
   else none
   else none
   else none
   else none
   else none
   else none
   else none
   else none
   else none
   else none
   else none
   else none)
   else none
   else none
   else none
   else none
   else none
   else none
   else none
   else none)
   else none
   else none
   else none
   else none)
   else none
   else none
   else none
   else none
   else none
   else none
   else none
   else none
   else none
   else none
  else
  lp21 ((0:Int),a0,v4)
noncomputable def step21 (N:Nat) (a0:List Int) (a1:List Int) (a2:List Int) (rec:(Int×(List Int)×(List Int))→Option R):(Int×(List Int)×(List Int))→Option R
 | (v0,v1,v2)=>
  bif (decide (v0<(8:Int))) then
   bif (decide (0≤v0)) then
   bif (decide (v0<(v1.length:Int))) then
   bif (decide (0≤v0)) then
   bif (decide (v0<(v2.length:Int))) then
   bif (decide (0≤v0)) then
   bif (decide (v0<(v1.length:Int))) then
   rec ((w64 (v0+(1:Int))),(v1.set (Int.toNat v0) (wu32 ((v1.getD (Int.toNat v0) (0:Int))+(v2.getD (Int.toNat v0) (0:Int))))),v2)
   else none
   else none
   else none
   else none
   else none
   else none
  else
  some v1
noncomputable def lp21 (N:Nat) (a0:List Int) (a1:List Int) (a2:List Int):(Int×(List Int)×(List Int))→Option R:=
 miter (fun rec=>step21 N a0 a1 a2 rec) N
noncomputable def lp13 (N:Nat) (a0:List Int) (a1:List Int) (a2:List Int):(Int×(List Int)×(List Int))→Option R:=
 miter (fun rec=>step13 N a0 a1 a2 (lp21 N a0 a1 a2) rec) N
noncomputable def lp6 (N:Nat) (a0:List Int) (a1:List Int) (a2:List Int):(Int×(List Int))→Option R:=
 miter (fun rec=>step6 N a0 a1 a2 (lp13 N a0 a1 a2) rec) N
noncomputable def lp2 (N:Nat) (a0:List Int) (a1:List Int) (a2:List Int):(Int×(List Int))→Option R:=
 miter (fun rec=>step2 N a0 a1 a2 (lp6 N a0 a1 a2) rec) N
noncomputable def m0 (N:Nat) (a0:List Int) (a1:List Int) (a2:List Int) (lp2:Int×(List Int)→Option R):Option R:=
 bif (decide (0≤(64:Int))) then
 bif (room 64 4) then
 lp2 ((0:Int),(List.replicate 64 (0:Int)))
 else none
 else none
@[reducible] noncomputable def m (N:Nat) (a0:List Int) (a1:List Int) (a2:List Int):Option R:=m0 N a0 a1 a2 (lp2 N a0 a1 a2)
@[reducible] noncomputable def sp (N:Nat):Spec E:=⟨[.mut false (.slice 147 (.int .u32)),.val (.slice 5 (.int .u8)),.val (.slice 147 (.int .u32))],[],true,false,R,fun x=>m N x.1 x.2.1 x.2.2.1,fun r=>(),fun r=>(r,(),(),()),fun a b=>b.1,fun _ _=>rfl,fun _ _=>rfl⟩
end spec_l01Block
namespace spec_l01Hash
abbrev R:=ByteArray
noncomputable def step3 (N:Nat) (a0:List Int) (lp6:Int×(List Int)×(List Int)→Option R) (rec:((List Int)×(List Int))→Option R):((List Int)×(List Int))→Option R
 | (v1,v2)=>
  bif (!decide ((64:Int)=0)) then
  bif ((Int.tmod (v2.length:Int) (64:Int)) != (56:Int)) then
   bif (room (v2.length+([(0:Int)]).length) 1) then
   rec (v1,(v2++[(0:Int)]))
   else none
  else
  lp6 ((7:Int),v1,v2)
  else none
noncomputable def step6 (N:Nat) (a0:List Int) (lp11:Int×(List Int)×(List Int)×(List Int)→Option R) (rec:(Int×(List Int)×(List Int))→Option R):(Int×(List Int)×(List Int))→Option R
 | (v1,v2,v3)=>
  bif (decide (v1≥(0:Int))) then
   bif (!decide ((wu64 (w64 ((8:Int) * v1)))<0)) then
   bif (room (v3.length+([(wu8 (Int.fdiv (w64 ((8:Int) * (a0.length:Int))) (2 ^ (min (Int.toNat (wu64 (w64 ((8:Int) * v1)))) 64))))]).length) 1) then
   rec ((w64 (v1 - (1:Int))),v2,(v3++[(wu8 (Int.fdiv (w64 ((8:Int) * (a0.length:Int))) (2 ^ (min (Int.toNat (wu64 (w64 ((8:Int) * v1)))) 64))))]))
   else none
   else none
  else
  ob (spec_l01Consts.m N) fun y2=>
  lp11 ((0:Int),v2,v3,y2)
noncomputable def step11 (N:Nat) (a0:List Int) (lp16:Int×(List Int)×(List Int)→Option R) (rec:(Int×(List Int)×(List Int)×(List Int))→Option R):(Int×(List Int)×(List Int)×(List Int))→Option R
 | (v0,v1,v2,v3)=>
  bif (decide (v0<(v2.length:Int))) then
   bif (decide (0≤(w64 (v0+(64:Int))))) then
   bif (decide ((w64 (v0+(64:Int)))≤((v2.length:Nat):Int))) then
   bif (decide (0≤v0)) then
   bif (decide (v0≤(((Int.toNat (w64 (v0+(64:Int)))):Nat):Int))) then
   bif (decide ((Int.toNat v0)+((Int.toNat (w64 (v0+(64:Int)))) - (Int.toNat v0))≤v2.length)) then
   ob (spec_l01Block.m N v1 ((v2.drop (Int.toNat v0)).take ((Int.toNat (w64 (v0+(64:Int)))) - (Int.toNat v0))) v3) fun y3=>
   rec ((w64 (v0+(64:Int))),y3,v2,v3)
   else none
   else none
   else none
   else none
   else none
  else
  lp16 ((0:Int),v1,([]:List Int))
noncomputable def step16 (N:Nat) (a0:List Int) (rec:(Int×(List Int)×(List Int))→Option R):(Int×(List Int)×(List Int))→Option R
 | (v0,v1,v2)=>
  bif (decide (v0<(8:Int))) then
   bif (decide (0≤v0)) then
   bif (decide (v0<(v1.length:Int))) then
   bif (!decide ((24:Int)<0)) then
   bif (decide (0≤v0)) then
   bif (decide (v0<(v1.length:Int))) then
   bif (!decide ((16:Int)<0)) then
   bif (decide (0≤v0)) then
   bif (decide (v0<(v1.length:Int))) then
   bif (!decide ((8:Int)<0)) then
   bif (decide (0≤v0)) then
   bif (decide (v0<(v1.length:Int))) then
   (let w4:List Int:=[(wu8 (Int.fdiv (v1.getD (Int.toNat v0) (0:Int)) (2 ^ (min (Int.toNat (24:Int)) 32)))),(wu8 (Int.fdiv (v1.getD (Int.toNat v0) (0:Int)) (2 ^ (min (Int.toNat (16:Int)) 32)))),(wu8 (Int.fdiv (v1.getD (Int.toNat v0) (0:Int)) (2 ^ (min (Int.toNat (8:Int)) 32)))),(wu8 (v1.getD (Int.toNat v0) (0:Int)))]
   bif (room (v2.length+w4.length) 1) then
   rec ((w64 (v0+(1:Int))),v1,(v2++w4))
   else none)
   else none
   else none
   else none
   else none
   else none
   else none
   else none
   else none
   else none
   else none
   else none
  else
  some (strOf v2)
noncomputable def lp16 (N:Nat) (a0:List Int):(Int×(List Int)×(List Int))→Option R:=
 miter (fun rec=>step16 N a0 rec) N
noncomputable def lp11 (N:Nat) (a0:List Int):(Int×(List Int)×(List Int)×(List Int))→Option R:=
 miter (fun rec=>step11 N a0 (lp16 N a0) rec) N
noncomputable def lp6 (N:Nat) (a0:List Int):(Int×(List Int)×(List Int))→Option R:=
 miter (fun rec=>step6 N a0 (lp11 N a0) rec) N
noncomputable def lp3 (N:Nat) (a0:List Int):((List Int)×(List Int))→Option R:=
 miter (fun rec=>step3 N a0 (lp6 N a0) rec) N
noncomputable def m0 (N:Nat) (a0:List Int) (lp3:(List Int)×(List Int)→Option R):Option R:=
 (let w1:List Int:=[(1779033703:Int),(3144134277:Int),(1013904242:Int),(2773480762:Int),(1359893119:Int),(2600822924:Int),(528734635:Int),(1541459225:Int)]
 bif (room (([]:List Int).length+a0.length) 1) then
 bif (room ((([]:List Int)++a0).length+([(128:Int)]).length) 1) then
 lp3 (w1,((([]:List Int)++a0)++[(128:Int)]))
 else none
 else none)
@[reducible] noncomputable def m (N:Nat) (a0:List Int):Option R:=m0 N a0 (lp3 N a0)
@[reducible] noncomputable def sp (N:Nat):Spec E:=⟨[.val (.slice 5 (.int .u8))],[.str],true,false,R,fun x=>m N x.1,fun r=>(r,()),fun r=>((),()),fun a b=>a.1,fun _ _=>rfl,fun _ _=>rfl⟩
end spec_l01Hash
namespace spec_l07Hash
abbrev R:=ByteArray
noncomputable def m (N:Nat) (a0:ByteArray):Option R:=
 bif (room a0.size 1) then
 ob (spec_l01Hash.m N (bytesOf a0)) fun y1=>
 some y1
 else none
@[reducible] noncomputable def sp (N:Nat):Spec E:=⟨[.val .str],[.str],true,false,R,fun x=>m N x.1,fun r=>(r,()),fun r=>((),()),fun a b=>a.1,fun _ _=>rfl,fun _ _=>rfl⟩
end spec_l07Hash
namespace spec_l07Leaf
abbrev R:=Bool
noncomputable def m (N:Nat) (a0:Branch):Option R:=
 some ((a0.Kids.length:Int)==(0:Int))
@[reducible] noncomputable def sp (N:Nat):Spec E:=⟨[.val (.st 36)],[.bool],true,false,R,fun x=>m N x.1,fun r=>(r,()),fun r=>((),()),fun a b=>a.1,fun _ _=>rfl,fun _ _=>rfl⟩
end spec_l07Leaf
namespace spec_l07Bit
abbrev R:=Int
noncomputable def m (N:Nat) (a0:ByteArray) (a1:Int):Option R:=
 bif (!decide ((8:Int)=0)) then
 bif (decide (0≤(w64 (Int.tdiv a1 (8:Int))))) then
 bif (decide ((w64 (Int.tdiv a1 (8:Int)))<(a0.size:Int))) then
 bif (!decide ((8:Int)=0)) then
 bif (!decide ((wu64 (w64 ((7:Int) - (Int.tmod a1 (8:Int)))))<0)) then
 (let w1:Int:=(ibit .and .i64 (w64 (Int.fdiv (sb a0 (w64 (Int.tdiv a1 (8:Int)))) (2 ^ (min (Int.toNat (wu64 (w64 ((7:Int) - (Int.tmod a1 (8:Int)))))) 8)))) (1:Int))
 some w1)
 else none
 else none
 else none
 else none
 else none
@[reducible] noncomputable def sp (N:Nat):Spec E:=⟨[.val .str,.val (.int .i64)],[(.int .i64)],true,false,R,fun x=>m N x.1 x.2.1,fun r=>(r,()),fun r=>((),(),()),fun a b=>a.1,fun _ _=>rfl,fun _ _=>rfl⟩
end spec_l07Bit
namespace spec_l07Get
abbrev R:=Branch×Bool
noncomputable def step4 (N:Nat) (a0:Branch) (a1:ByteArray) (rec:(ByteArray×ByteArray×ByteArray×Int×(List Branch)×ByteArray×ByteArray×Int)→Option R):(ByteArray×ByteArray×ByteArray×Int×(List Branch)×ByteArray×ByteArray×Int)→Option R
 | (v1,v2,v3,v4,v5,v6,v7,v8)=>
  ob (spec_l07Leaf.m N (Branch.mk v2 v3 v4 v5)) fun y3=>
  bif (!y3) then
   ob (spec_l07Bit.m N v1 v4) fun y4=>
   bif (decide (0≤y4)) then
   bif (decide (y4<(v5.length:Int))) then
   rec (v1,(v5.getD (Int.toNat y4) Branch.dz).Key,(v5.getD (Int.toNat y4) Branch.dz).Value,(v5.getD (Int.toNat y4) Branch.dz).At,(v5.getD (Int.toNat y4) Branch.dz).Kids,v6,v7,v8)
   else none
   else none
  else
  some ((Branch.mk v2 v3 v4 v5),(seq v2 a1))
noncomputable def lp4 (N:Nat) (a0:Branch) (a1:ByteArray):(ByteArray×ByteArray×ByteArray×Int×(List Branch)×ByteArray×ByteArray×Int)→Option R:=
 miter (fun rec=>step4 N a0 a1 rec) N
noncomputable def m0 (N:Nat) (a0:Branch) (a1:ByteArray) (lp4:ByteArray×ByteArray×ByteArray×Int×(List Branch)×ByteArray×ByteArray×Int→Option R):Option R:=
 ob (spec_l07Empty.m N (Branch.mk a0.Key a0.Value a0.At a0.Kids)) fun y1=>
 bif y1 then
  some ((Branch.mk a0.Key a0.Value a0.At a0.Kids),false)
 else
 ob (spec_l07Hash.m N a1) fun y2=>
 lp4 (y2,a0.Key,a0.Value,a0.At,a0.Kids,ByteArray.empty,ByteArray.empty,(0:Int))
@[reducible] noncomputable def m (N:Nat) (a0:Branch) (a1:ByteArray):Option R:=m0 N a0 a1 (lp4 N a0 a1)
@[reducible] noncomputable def sp (N:Nat):Spec E:=⟨[.val (.st 36),.val .str],[(.st 36),.bool],false,false,R,fun x=>m N x.1 x.2.1,fun r=>(r.1,r.2,()),fun r=>((),(),()),fun a b=>(a.1,a.2.1),fun _ _=>rfl,fun _ _=>rfl⟩
end spec_l07Get
namespace spec_l07Size
abbrev R:=Int
@[reducible] noncomputable def spf (f:Branch→Option R):Spec E:=⟨[.val (.st 36)],[(.int .i64)],true,false,R,fun x=>f x.1,fun r=>(r,()),fun r=>((),()),fun a b=>a.1,fun _ _=>rfl,fun _ _=>rfl⟩
end spec_l07Size
namespace spec_l07Size
noncomputable def mb (N:Nat) (slf:Branch→Option R) (a0:Branch):Option R:=
 ob (spec_l07Empty.m N (Branch.mk a0.Key a0.Value a0.At a0.Kids)) fun y1=>
 bif y1 then
  some (0:Int)
 else
 ob (spec_l07Leaf.m N (Branch.mk a0.Key a0.Value a0.At a0.Kids)) fun y2=>
 bif y2 then
  some (1:Int)
 else
 bif (decide (0≤(0:Int))) then
 bif (decide ((0:Int)<(a0.Kids.length:Int))) then
 ob (slf (Branch.mk ((a0.Kids.getD 0 Branch.dz).Key) ((a0.Kids.getD 0 Branch.dz).Value) ((a0.Kids.getD 0 Branch.dz).At) ((a0.Kids.getD 0 Branch.dz).Kids))) fun y3=>
 bif (decide (0≤(1:Int))) then
 bif (decide ((1:Int)<(a0.Kids.length:Int))) then
 ob (slf (Branch.mk ((a0.Kids.getD 1 Branch.dz).Key) ((a0.Kids.getD 1 Branch.dz).Value) ((a0.Kids.getD 1 Branch.dz).At) ((a0.Kids.getD 1 Branch.dz).Kids))) fun y4=>
 some (w64 (y3+y4))
 else none
 else none
 else none
 else none
noncomputable def mF (N:Nat):Nat→Branch→Option R
 | 0=>fun _=>none
 | n+1=>fun a0=>mb N (mF N n) a0
noncomputable def m (N:Nat):Branch→Option R:=mF N N
@[reducible] noncomputable def sp (N:Nat):Spec E:=spf (m N)
end spec_l07Size
namespace spec_l07Drop
abbrev R:=Branch
@[reducible] noncomputable def spf (f:Branch→ByteArray→ByteArray→Option R):Spec E:=⟨[.val (.st 36),.val .str,.val .str],[(.st 36)],false,false,R,fun x=>f x.1 x.2.1 x.2.2.1,fun r=>(r,()),fun r=>((),(),(),()),fun a b=>a.1,fun _ _=>rfl,fun _ _=>rfl⟩
end spec_l07Drop
namespace spec_l07Drop
noncomputable def mb (N:Nat) (slf:Branch→ByteArray→ByteArray→Option R) (a0:Branch) (a1:ByteArray) (a2:ByteArray):Option R:=
 ob (spec_l07Leaf.m N (Branch.mk a0.Key a0.Value a0.At a0.Kids)) fun y1=>
 bif y1 then
  some (Branch.mk ByteArray.empty ByteArray.empty (0:Int) ([]:List Branch))
 else
 ob (spec_l07Bit.m N a1 a0.At) fun y2=>
 bif (decide (0≤y2)) then
 bif (decide (y2<(a0.Kids.length:Int))) then
 ob (spec_l07Leaf.m N (Branch.mk ((a0.Kids.getD (Int.toNat y2) Branch.dz).Key) ((a0.Kids.getD (Int.toNat y2) Branch.dz).Value) ((a0.Kids.getD (Int.toNat y2) Branch.dz).At) ((a0.Kids.getD (Int.toNat y2) Branch.dz).Kids))) fun y3=>
 bif y3 then
  bif (bif true then (seq ((a0.Kids.getD (Int.toNat y2) Branch.dz).Key) a2) else false) then
   bif (decide (0≤(w64 ((1:Int) - y2)))) then
   bif (decide ((w64 ((1:Int) - y2))<(a0.Kids.length:Int))) then
   some (Branch.mk ((a0.Kids.getD (Int.toNat (w64 ((1:Int) - y2))) Branch.dz).Key) ((a0.Kids.getD (Int.toNat (w64 ((1:Int) - y2))) Branch.dz).Value) ((a0.Kids.getD (Int.toNat (w64 ((1:Int) - y2))) Branch.dz).At) ((a0.Kids.getD (Int.toNat (w64 ((1:Int) - y2))) Branch.dz).Kids))
   else none
   else none
  else
  bif (room (([]:List Branch).length+a0.Kids.length) 64) then
  bif (decide (0≤y2)) then
  bif (decide (y2<(a0.Kids.length:Int))) then
  ob (slf (Branch.mk ((a0.Kids.getD (Int.toNat y2) Branch.dz).Key) ((a0.Kids.getD (Int.toNat y2) Branch.dz).Value) ((a0.Kids.getD (Int.toNat y2) Branch.dz).At) ((a0.Kids.getD (Int.toNat y2) Branch.dz).Kids)) a1 a2) fun y4=>
  bif (decide (0≤y2)) then
  bif (decide (y2<((([]:List Branch)++a0.Kids).length:Int))) then
  some (Branch.mk ByteArray.empty ByteArray.empty a0.At ((([]:List Branch)++a0.Kids).set (Int.toNat y2) (Branch.mk y4.Key y4.Value y4.At y4.Kids)))
  else none
  else none
  else none
  else none
  else none
 else
 bif (room (([]:List Branch).length+a0.Kids.length) 64) then
 bif (decide (0≤y2)) then
 bif (decide (y2<(a0.Kids.length:Int))) then
 ob (slf (Branch.mk ((a0.Kids.getD (Int.toNat y2) Branch.dz).Key) ((a0.Kids.getD (Int.toNat y2) Branch.dz).Value) ((a0.Kids.getD (Int.toNat y2) Branch.dz).At) ((a0.Kids.getD (Int.toNat y2) Branch.dz).Kids)) a1 a2) fun y5=>
 bif (decide (0≤y2)) then
 bif (decide (y2<((([]:List Branch)++a0.Kids).length:Int))) then
 some (Branch.mk ByteArray.empty ByteArray.empty a0.At ((([]:List Branch)++a0.Kids).set (Int.toNat y2) (Branch.mk y5.Key y5.Value y5.At y5.Kids)))
 else none
 else none
 else none
 else none
 else none
 else none
 else none
noncomputable def mF (N:Nat):Nat→Branch→ByteArray→ByteArray→Option R
 | 0=>fun _ _ _=>none
 | n+1=>fun a0 a1 a2=>mb N (mF N n) a0 a1 a2
noncomputable def m (N:Nat):Branch→ByteArray→ByteArray→Option R:=mF N N
@[reducible] noncomputable def sp (N:Nat):Spec E:=spf (m N)
end spec_l07Drop
namespace spec_l02Two
abbrev R:=(List Int)
noncomputable def m (N:Nat) (a0:Int):Option R:=
 bif (!decide ((256:Int)=0)) then
 some ([(wu8 (w64 (Int.tdiv a0 (256:Int)))),(wu8 a0)])
 else none
@[reducible] noncomputable def sp (N:Nat):Spec E:=⟨[.val (.int .i64)],[(.slice 5 (.int .u8))],true,false,R,fun x=>m N x.1,fun r=>(r,()),fun r=>((),()),fun a b=>a.1,fun _ _=>rfl,fun _ _=>rfl⟩
end spec_l02Two
namespace spec_l02Bytes
abbrev R:=(List Int)
noncomputable def m (N:Nat) (a0:Command):Option R:=
 ob (spec_l02Two.m N a0.Session) fun y1=>
 bif (room (([(wu8 a0.Kind)]).length+y1.length) 1) then
 ob (spec_l02Two.m N a0.Seq) fun y2=>
 bif (room (([(wu8 a0.Kind)]++y1).length+y2.length) 1) then
 bif (room ((([(wu8 a0.Kind)]++y1)++y2).length+([(wu8 (a0.Key.size:Int))]).length) 1) then
 bif (room (((([(wu8 a0.Kind)]++y1)++y2)++[(wu8 (a0.Key.size:Int))]).length+(bytesOf a0.Key).length) 1) then
 bif (room ((((([(wu8 a0.Kind)]++y1)++y2)++[(wu8 (a0.Key.size:Int))])++(bytesOf a0.Key)).length+([(wu8 (a0.Value.size:Int))]).length) 1) then
 bif (room (((((([(wu8 a0.Kind)]++y1)++y2)++[(wu8 (a0.Key.size:Int))])++(bytesOf a0.Key))++[(wu8 (a0.Value.size:Int))]).length+(bytesOf a0.Value).length) 1) then
 (let w3:List Int:=(((((([(wu8 a0.Kind)]++y1)++y2)++[(wu8 (a0.Key.size:Int))])++(bytesOf a0.Key))++[(wu8 (a0.Value.size:Int))])++(bytesOf a0.Value))
 some w3)
 else none
 else none
 else none
 else none
 else none
 else none
@[reducible] noncomputable def sp (N:Nat):Spec E:=⟨[.val (.st 31)],[(.slice 5 (.int .u8))],true,false,R,fun x=>m N x.1,fun r=>(r,()),fun r=>((),()),fun a b=>a.1,fun _ _=>rfl,fun _ _=>rfl⟩
end spec_l02Bytes
namespace spec_l06Leaf
abbrev R:=ByteArray
noncomputable def m (N:Nat) (a0:ByteArray):Option R:=
 bif (room (([(0:Int)]).length+(bytesOf a0).length) 1) then
 ob (spec_l01Hash.m N ([(0:Int)]++(bytesOf a0))) fun y1=>
 some y1
 else none
@[reducible] noncomputable def sp (N:Nat):Spec E:=⟨[.val .str],[.str],true,false,R,fun x=>m N x.1,fun r=>(r,()),fun r=>((),()),fun a b=>a.1,fun _ _=>rfl,fun _ _=>rfl⟩
end spec_l06Leaf
namespace spec_l07New
abbrev R:=Branch
noncomputable def m (N:Nat) (a0:ByteArray) (a1:ByteArray):Option R:=
 some (Branch.mk a0 a1 (256:Int) ([]:List Branch))
@[reducible] noncomputable def sp (N:Nat):Spec E:=⟨[.val .str,.val .str],[(.st 36)],true,false,R,fun x=>m N x.1 x.2.1,fun r=>(r,()),fun r=>((),(),()),fun a b=>a.1,fun _ _=>rfl,fun _ _=>rfl⟩
end spec_l07New
namespace spec_l07Near
abbrev R:=ByteArray
noncomputable def step1 (N:Nat) (a0:Branch) (a1:ByteArray) (rec:(ByteArray×ByteArray×Int×(List Branch))→Option R):(ByteArray×ByteArray×Int×(List Branch))→Option R
 | (v1,v2,v3,v4)=>
  ob (spec_l07Leaf.m N (Branch.mk v1 v2 v3 v4)) fun y1=>
  bif (!y1) then
   ob (spec_l07Bit.m N a1 v3) fun y2=>
   bif (decide (0≤y2)) then
   bif (decide (y2<(v4.length:Int))) then
   rec ((v4.getD (Int.toNat y2) Branch.dz).Key,(v4.getD (Int.toNat y2) Branch.dz).Value,(v4.getD (Int.toNat y2) Branch.dz).At,(v4.getD (Int.toNat y2) Branch.dz).Kids)
   else none
   else none
  else
  ob (spec_l07Hash.m N v1) fun y3=>
  some y3
noncomputable def lp1 (N:Nat) (a0:Branch) (a1:ByteArray):(ByteArray×ByteArray×Int×(List Branch))→Option R:=
 miter (fun rec=>step1 N a0 a1 rec) N
noncomputable def m0 (N:Nat) (a0:Branch) (a1:ByteArray) (lp1:ByteArray×ByteArray×Int×(List Branch)→Option R):Option R:=
 lp1 (a0.Key,a0.Value,a0.At,a0.Kids)
@[reducible] noncomputable def m (N:Nat) (a0:Branch) (a1:ByteArray):Option R:=m0 N a0 a1 (lp1 N a0 a1)
@[reducible] noncomputable def sp (N:Nat):Spec E:=⟨[.val (.st 36),.val .str],[.str],true,false,R,fun x=>m N x.1 x.2.1,fun r=>(r,()),fun r=>((),(),()),fun a b=>a.1,fun _ _=>rfl,fun _ _=>rfl⟩
end spec_l07Near
namespace spec_l07Differ
abbrev R:=Int
noncomputable def step2 (N:Nat) (a0:ByteArray) (a1:ByteArray) (rec:Int→Option R):Int→Option R
 | v2=>
  bif (decide (v2<(256:Int))) then
   ob (spec_l07Bit.m N a0 v2) fun y1=>
   ob (spec_l07Bit.m N a1 v2) fun y2=>
   bif (y1 != y2) then
    some v2
   else
   rec (w64 (v2+(1:Int)))
  else
  some (256:Int)
noncomputable def lp2 (N:Nat) (a0:ByteArray) (a1:ByteArray):Int→Option R:=
 miter (fun rec=>step2 N a0 a1 rec) N
noncomputable def m0 (N:Nat) (a0:ByteArray) (a1:ByteArray) (lp2:Int→Option R):Option R:=
 lp2 (0:Int)
@[reducible] noncomputable def m (N:Nat) (a0:ByteArray) (a1:ByteArray):Option R:=m0 N a0 a1 (lp2 N a0 a1)
@[reducible] noncomputable def sp (N:Nat):Spec E:=⟨[.val .str,.val .str],[(.int .i64)],true,false,R,fun x=>m N x.1 x.2.1,fun r=>(r,()),fun r=>((),(),()),fun a b=>a.1,fun _ _=>rfl,fun _ _=>rfl⟩
end spec_l07Differ
namespace spec_l07Insert
abbrev R:=Branch
@[reducible] noncomputable def spf (f:Branch→ByteArray→Int→Branch→Option R):Spec E:=⟨[.val (.st 36),.val .str,.val (.int .i64),.val (.st 36)],[(.st 36)],false,false,R,fun x=>f x.1 x.2.1 x.2.2.1 x.2.2.2.1,fun r=>(r,()),fun r=>((),(),(),(),()),fun a b=>a.1,fun _ _=>rfl,fun _ _=>rfl⟩
end spec_l07Insert
namespace spec_l07Insert
noncomputable def mb (N:Nat) (slf:Branch→ByteArray→Int→Branch→Option R) (a0:Branch) (a1:ByteArray) (a2:Int) (a3:Branch):Option R:=
 bif (a2==(256:Int)) then
  ob (spec_l07Leaf.m N (Branch.mk a0.Key a0.Value a0.At a0.Kids)) fun y1=>
  bif (bif true then y1 else false) then
   some (Branch.mk a3.Key a3.Value a3.At a3.Kids)
  else
  ob (spec_l07Leaf.m N (Branch.mk a0.Key a0.Value a0.At a0.Kids)) fun y2=>
  bif y2 then
   ob (spec_l07Bit.m N a1 a2) fun y3=>
   bif (y3==(0:Int)) then
    some (Branch.mk ByteArray.empty ByteArray.empty a2 ([(Branch.mk a3.Key a3.Value a3.At a3.Kids),(Branch.mk a0.Key a0.Value a0.At a0.Kids)]))
   else
   some (Branch.mk ByteArray.empty ByteArray.empty a2 ([(Branch.mk a0.Key a0.Value a0.At a0.Kids),(Branch.mk a3.Key a3.Value a3.At a3.Kids)]))
  else
  bif (bif false then true else (decide (a0.At > a2))) then
   ob (spec_l07Bit.m N a1 a2) fun y4=>
   bif (y4==(0:Int)) then
    some (Branch.mk ByteArray.empty ByteArray.empty a2 ([(Branch.mk a3.Key a3.Value a3.At a3.Kids),(Branch.mk a0.Key a0.Value a0.At a0.Kids)]))
   else
   some (Branch.mk ByteArray.empty ByteArray.empty a2 ([(Branch.mk a0.Key a0.Value a0.At a0.Kids),(Branch.mk a3.Key a3.Value a3.At a3.Kids)]))
  else
  ob (spec_l07Bit.m N a1 a0.At) fun y5=>
  bif (room (([]:List Branch).length+a0.Kids.length) 64) then
  bif (decide (0≤y5)) then
  bif (decide (y5<(a0.Kids.length:Int))) then
  ob (slf (Branch.mk ((a0.Kids.getD (Int.toNat y5) Branch.dz).Key) ((a0.Kids.getD (Int.toNat y5) Branch.dz).Value) ((a0.Kids.getD (Int.toNat y5) Branch.dz).At) ((a0.Kids.getD (Int.toNat y5) Branch.dz).Kids)) a1 a2 (Branch.mk a3.Key a3.Value a3.At a3.Kids)) fun y6=>
  bif (decide (0≤y5)) then
  bif (decide (y5<((([]:List Branch)++a0.Kids).length:Int))) then
  some (Branch.mk ByteArray.empty ByteArray.empty a0.At ((([]:List Branch)++a0.Kids).set (Int.toNat y5) (Branch.mk y6.Key y6.Value y6.At y6.Kids)))
  else none
  else none
  else none
  else none
  else none
 else
 ob (spec_l07Leaf.m N (Branch.mk a0.Key a0.Value a0.At a0.Kids)) fun y7=>
 bif y7 then
  ob (spec_l07Bit.m N a1 a2) fun y8=>
  bif (y8==(0:Int)) then
   some (Branch.mk ByteArray.empty ByteArray.empty a2 ([(Branch.mk a3.Key a3.Value a3.At a3.Kids),(Branch.mk a0.Key a0.Value a0.At a0.Kids)]))
  else
  some (Branch.mk ByteArray.empty ByteArray.empty a2 ([(Branch.mk a0.Key a0.Value a0.At a0.Kids),(Branch.mk a3.Key a3.Value a3.At a3.Kids)]))
 else
 bif (bif false then true else (decide (a0.At > a2))) then
  ob (spec_l07Bit.m N a1 a2) fun y9=>
  bif (y9==(0:Int)) then
   some (Branch.mk ByteArray.empty ByteArray.empty a2 ([(Branch.mk a3.Key a3.Value a3.At a3.Kids),(Branch.mk a0.Key a0.Value a0.At a0.Kids)]))
  else
  some (Branch.mk ByteArray.empty ByteArray.empty a2 ([(Branch.mk a0.Key a0.Value a0.At a0.Kids),(Branch.mk a3.Key a3.Value a3.At a3.Kids)]))
 else
 ob (spec_l07Bit.m N a1 a0.At) fun y10=>
 bif (room (([]:List Branch).length+a0.Kids.length) 64) then
 bif (decide (0≤y10)) then
 bif (decide (y10<(a0.Kids.length:Int))) then
 ob (slf (Branch.mk ((a0.Kids.getD (Int.toNat y10) Branch.dz).Key) ((a0.Kids.getD (Int.toNat y10) Branch.dz).Value) ((a0.Kids.getD (Int.toNat y10) Branch.dz).At) ((a0.Kids.getD (Int.toNat y10) Branch.dz).Kids)) a1 a2 (Branch.mk a3.Key a3.Value a3.At a3.Kids)) fun y11=>
 bif (decide (0≤y10)) then
 bif (decide (y10<((([]:List Branch)++a0.Kids).length:Int))) then
 some (Branch.mk ByteArray.empty ByteArray.empty a0.At ((([]:List Branch)++a0.Kids).set (Int.toNat y10) (Branch.mk y11.Key y11.Value y11.At y11.Kids)))
 else none
 else none
 else none
 else none
 else none
noncomputable def mF (N:Nat):Nat→Branch→ByteArray→Int→Branch→Option R
 | 0=>fun _ _ _ _=>none
 | n+1=>fun a0 a1 a2 a3=>mb N (mF N n) a0 a1 a2 a3
noncomputable def m (N:Nat):Branch→ByteArray→Int→Branch→Option R:=mF N N
@[reducible] noncomputable def sp (N:Nat):Spec E:=spf (m N)
end spec_l07Insert
namespace spec_l07Put
abbrev R:=Branch
noncomputable def m (N:Nat) (a0:Branch) (a1:ByteArray) (a2:ByteArray):Option R:=
 ob (spec_l07Empty.m N (Branch.mk a0.Key a0.Value a0.At a0.Kids)) fun y1=>
 bif y1 then
  ob (spec_l07New.m N a1 a2) fun y2=>
  some (Branch.mk y2.Key y2.Value y2.At y2.Kids)
 else
 ob (spec_l07Hash.m N a1) fun y3=>
 ob (spec_l07Near.m N (Branch.mk a0.Key a0.Value a0.At a0.Kids) y3) fun y4=>
 ob (spec_l07Differ.m N y3 y4) fun y5=>
 ob (spec_l07New.m N a1 a2) fun y6=>
 ob (spec_l07Insert.m N (Branch.mk a0.Key a0.Value a0.At a0.Kids) y3 y5 (Branch.mk y6.Key y6.Value y6.At y6.Kids)) fun y7=>
 some (Branch.mk y7.Key y7.Value y7.At y7.Kids)
@[reducible] noncomputable def sp (N:Nat):Spec E:=⟨[.val (.st 36),.val .str,.val .str],[(.st 36)],false,false,R,fun x=>m N x.1 x.2.1 x.2.2.1,fun r=>(r,()),fun r=>((),(),(),()),fun a b=>a.1,fun _ _=>rfl,fun _ _=>rfl⟩
end spec_l07Put
end Mir.Y
