/- Models of functions. -/
import Derived.Test.YtcgniikapdcfmaaGreatEngD
import Derived.Test.YtcgniikapdcfmaaGreatRLE
namespace Mir.Y
set_option linter.unusedVariables false
set_option maxRecDepth 10000
open Go Go.Proofs Mir
namespace laws_at
abbrev R:=Int
noncomputable def m (N:Nat) (a0:List Int) (a1:Int) (a2:Int):Option R:=
 bif (decide (a2≤(1:Int))) then
  some (0:Int)
 else
 bif ((a0.length:Int)==(0:Int)) then
  bif (!decide (a2=0)) then
  some (Int.tmod (w64 (a1 * (7:Int))) a2)
  else none
 else
 bif (!decide ((a0.length:Int)=0)) then
 bif (decide (0≤(Int.tmod a1 (a0.length:Int)))) then
 bif (decide ((Int.tmod a1 (a0.length:Int))<(a0.length:Int))) then
 bif (!decide ((a0.length:Int)=0)) then
 bif (decide (0≤(Int.tmod (w64 (a1+(1:Int))) (a0.length:Int)))) then
 bif (decide ((Int.tmod (w64 (a1+(1:Int))) (a0.length:Int))<(a0.length:Int))) then
 (let w1:Int:=(w64 ((w64 ((w64 (a0.getD (Int.toNat (Int.tmod a1 (a0.length:Int))) (0:Int))) * (31:Int)))+(w64 (a0.getD (Int.toNat (Int.tmod (w64 (a1+(1:Int))) (a0.length:Int))) (0:Int)))))
 bif (!decide ((a0.length:Int)=0)) then
 bif (!decide (a2=0)) then
 some (Int.tmod (w64 (w1+(w64 (Int.tdiv a1 (a0.length:Int))))) a2)
 else none
 else none)
 else none
 else none
 else none
 else none
 else none
 else none
@[reducible] noncomputable def sp (N:Nat):Spec E:=⟨[.val (.slice 5 (.int .u8)),.val (.int .i64),.val (.int .i64)],[(.int .i64)],true,false,R,fun x=>m N x.1 x.2.1 x.2.2.1,fun r=>(r,()),fun r=>((),(),(),()),fun a b=>a.1,fun _ _=>rfl,fun _ _=>rfl⟩
end laws_at
namespace spec_l00Source
abbrev R:=l00Src
noncomputable def m (N:Nat) (a0:List Int):Option R:=
 bif (!decide ((1000:Int)=0)) then
 some (l00Src.mk a0 (0:Int) (Int.tmod (a0.length:Int) (1000:Int)))
 else none
@[reducible] noncomputable def sp (N:Nat):Spec E:=⟨[.val (.slice 5 (.int .u8))],[(.pbx 61 61)],true,false,R,fun x=>m N x.1,fun r=>(r,()),fun r=>((),()),fun a b=>a.1,fun _ _=>rfl,fun _ _=>rfl⟩
end spec_l00Source
namespace spec_l00Src_byte_
abbrev R:=Int×l00Src
noncomputable def m (N:Nat) (a0:l00Src):Option R:=
 bif (decide ((w64 (a0.«at» + (1:Int)))≤(a0.code.length:Int))) then
  bif (decide (0≤(w64 ((w64 (a0.«at» + (1:Int))) - (1:Int))))) then
  bif (decide ((w64 ((w64 (a0.«at» + (1:Int))) - (1:Int)))<(a0.code.length:Int))) then
  bif (!decide ((2147483648:Int)=0)) then
  (let w1:Int:=(Int.tmod (w64 ((w64 ((w64 (a0.seed * (31:Int)))+(w64 (a0.code.getD (Int.toNat (w64 ((w64 (a0.«at» + (1:Int))) - (1:Int)))) (0:Int)))))+(7:Int))) (2147483648:Int))
  bif (decide (0≤(w64 ((w64 (a0.«at» + (1:Int))) - (1:Int))))) then
  bif (decide ((w64 ((w64 (a0.«at» + (1:Int))) - (1:Int)))<(a0.code.length:Int))) then
  some ((w64 (a0.code.getD (Int.toNat (w64 ((w64 (a0.«at» + (1:Int))) - (1:Int)))) (0:Int))),(l00Src.mk a0.code (w64 (a0.«at» + (1:Int))) w1))
  else none
  else none)
  else none
  else none
  else none
 else
 bif (decide ((w64 (a0.«at» + (1:Int))) > (3000:Int))) then
  some ((0:Int),(l00Src.mk a0.code (w64 (a0.«at» + (1:Int))) a0.seed))
 else
 bif (!decide ((2147483648:Int)=0)) then
 bif (!decide ((65536:Int)=0)) then
 bif (!decide ((256:Int)=0)) then
 some ((Int.tmod (w64 (Int.tdiv (Int.tmod (w64 ((w64 (a0.seed * (1103515245:Int)))+(12345:Int))) (2147483648:Int)) (65536:Int))) (256:Int)),(l00Src.mk a0.code (w64 (a0.«at» + (1:Int))) (Int.tmod (w64 ((w64 (a0.seed * (1103515245:Int)))+(12345:Int))) (2147483648:Int))))
 else none
 else none
 else none
@[reducible] noncomputable def sp (N:Nat):Spec E:=⟨[.box false 61 61],[(.int .i64)],true,false,R,fun x=>m N x.1,fun r=>(r.1,()),fun r=>(r.2,()),fun a b=>(a.1,b.1),fun _ _=>rfl,fun _ _=>rfl⟩
end spec_l00Src_byte_
namespace spec_l00Src_next_
abbrev R:=Int×l00Src
noncomputable def m (N:Nat) (a0:l00Src) (a1:Int):Option R:=
 bif (decide (a1≤(1:Int))) then
  some ((0:Int),a0)
 else
 bif (decide (a1≤(256:Int))) then
  ob (spec_l00Src_byte_.m N a0) fun y1=>
  bif (!decide (a1=0)) then
  some ((Int.tmod y1.1 a1),y1.2)
  else none
 else
 ob (spec_l00Src_byte_.m N a0) fun y2=>
 ob (spec_l00Src_byte_.m N y2.2) fun y3=>
 ob (spec_l00Src_byte_.m N y3.2) fun y4=>
 bif (!decide (a1=0)) then
 some ((Int.tmod (w64 ((w64 ((w64 (y2.1 * (65536:Int)))+(w64 (y3.1 * (256:Int)))))+y4.1)) a1),y4.2)
 else none
@[reducible] noncomputable def sp (N:Nat):Spec E:=⟨[.box false 61 61,.val (.int .i64)],[(.int .i64)],true,false,R,fun x=>m N x.1 x.2.1,fun r=>(r.1,()),fun r=>(r.2,(),()),fun a b=>(a.1,b.1),fun _ _=>rfl,fun _ _=>rfl⟩
end spec_l00Src_next_
namespace spec_l00Src_chance_
abbrev R:=Bool×l00Src
noncomputable def m (N:Nat) (a0:l00Src) (a1:Int):Option R:=
 ob (spec_l00Src_next_.m N a0 a1) fun y1=>
 some ((y1.1==(w64 (a1 - (1:Int)))),y1.2)
@[reducible] noncomputable def sp (N:Nat):Spec E:=⟨[.box false 61 61,.val (.int .i64)],[.bool],true,false,R,fun x=>m N x.1 x.2.1,fun r=>(r.1,()),fun r=>(r.2,(),()),fun a b=>(a.1,b.1),fun _ _=>rfl,fun _ _=>rfl⟩
end spec_l00Src_chance_
namespace spec_l00Src_elected
abbrev R:=(List GroupAct)×l00Src
noncomputable def step3 (N:Nat) (a0:l00Src) (a1:Int) (lp7:Int×(List Int)×Int×Int×(List GroupAct)→Option R) (rec:(Int×(List Int)×Int×Int×(List GroupAct))→Option R):(Int×(List Int)×Int×Int×(List GroupAct))→Option R
 | (v1,v2,v3,v4,v5)=>
  bif (decide (v1<(13:Int))) then
   ob (spec_l00Src_next_.m N (l00Src.mk v2 v3 v4) (4:Int)) fun y1=>
   bif (room (v5.length+([(GroupAct.mk (1:Int) a1 y1.1 ByteArray.empty)]).length) 40) then
   rec ((w64 (v1+(1:Int))),y1.2.code,y1.2.«at»,y1.2.seed,(v5++[(GroupAct.mk (1:Int) a1 y1.1 ByteArray.empty)]))
   else none
  else
  ob (spec_l00Src_next_.m N (l00Src.mk v2 v3 v4) (12:Int)) fun y2=>
  lp7 ((w64 ((4:Int)+y2.1)),y2.2.code,y2.2.«at»,y2.2.seed,v5)
noncomputable def step7 (N:Nat) (a0:l00Src) (a1:Int) (rec:(Int×(List Int)×Int×Int×(List GroupAct))→Option R):(Int×(List Int)×Int×Int×(List GroupAct))→Option R
 | (v0,v1,v2,v3,v4)=>
  bif (decide (v0 > (0:Int))) then
   bif (room (v4.length+([(GroupAct.mk (2:Int) (0:Int) (0:Int) ByteArray.empty)]).length) 40) then
   rec ((w64 (v0 - (1:Int))),v1,v2,v3,(v4++[(GroupAct.mk (2:Int) (0:Int) (0:Int) ByteArray.empty)]))
   else none
  else
  some (v4,(l00Src.mk v1 v2 v3))
noncomputable def lp7 (N:Nat) (a0:l00Src) (a1:Int):(Int×(List Int)×Int×Int×(List GroupAct))→Option R:=
 miter (fun rec=>step7 N a0 a1 rec) N
noncomputable def lp3 (N:Nat) (a0:l00Src) (a1:Int):(Int×(List Int)×Int×Int×(List GroupAct))→Option R:=
 miter (fun rec=>step3 N a0 a1 (lp7 N a0 a1) rec) N
noncomputable def m0 (N:Nat) (a0:l00Src) (a1:Int) (lp3:Int×(List Int)×Int×Int×(List GroupAct)→Option R):Option R:=
 lp3 ((0:Int),a0.code,a0.«at»,a0.seed,([]:List GroupAct))
@[reducible] noncomputable def m (N:Nat) (a0:l00Src) (a1:Int):Option R:=m0 N a0 a1 (lp3 N a0 a1)
@[reducible] noncomputable def sp (N:Nat):Spec E:=⟨[.box false 61 61,.val (.int .i64)],[(.slice 46 (.st 46))],true,false,R,fun x=>m N x.1 x.2.1,fun r=>(r.1,()),fun r=>(r.2,(),()),fun a b=>(a.1,b.1),fun _ _=>rfl,fun _ _=>rfl⟩
end spec_l00Src_elected
namespace spec_l00Src_size
abbrev R:=Int
noncomputable def m (N:Nat) (a0:l00Src) (a1:Int):Option R:=
 bif (!decide ((12:Int)=0)) then
 (let w1:Int:=(if a1<(w64 ((1:Int)+(w64 (Int.tdiv (a0.code.length:Int) (12:Int))))) then a1 else (w64 ((1:Int)+(w64 (Int.tdiv (a0.code.length:Int) (12:Int))))))
 some w1)
 else none
@[reducible] noncomputable def sp (N:Nat):Spec E:=⟨[.cap (.rb (.st 61)),.val (.int .i64)],[(.int .i64)],true,false,R,fun x=>m N x.1 x.2.1,fun r=>(r,()),fun r=>((),(),()),fun a b=>a.1,fun _ _=>rfl,fun _ _=>rfl⟩
end spec_l00Src_size
namespace spec_l00Src_pick_
abbrev R:=ByteArray×l00Src
noncomputable def m (N:Nat) (a0:l00Src) (a1:List ByteArray):Option R:=
 bif ((a1.length:Int)==(0:Int)) then
  some (ByteArray.empty,a0)
 else
 ob (spec_l00Src_next_.m N a0 (a1.length:Int)) fun y1=>
 bif (decide (0≤y1.1)) then
 bif (decide (y1.1<(a1.length:Int))) then
 some ((a1.getD (Int.toNat y1.1) ByteArray.empty),y1.2)
 else none
 else none
@[reducible] noncomputable def sp (N:Nat):Spec E:=⟨[.box false 61 61,.val (.slice 9 .str)],[.str],true,false,R,fun x=>m N x.1 x.2.1,fun r=>(r.1,()),fun r=>(r.2,(),()),fun a b=>(a.1,b.1),fun _ _=>rfl,fun _ _=>rfl⟩
end spec_l00Src_pick_
namespace spec_l00Src_key
abbrev R:=ByteArray×l00Src
noncomputable def m (N:Nat) (a0:l00Src):Option R:=
 (let w1:List ByteArray:=[(⟨#[97]⟩:ByteArray),(⟨#[98]⟩:ByteArray),(⟨#[99]⟩:ByteArray),(⟨#[97,108,112,104,97]⟩:ByteArray),(⟨#[98,101,116,97]⟩:ByteArray)]
 ob (spec_l00Src_pick_.m N a0 w1) fun y2=>
 some (y2.1,y2.2))
@[reducible] noncomputable def sp (N:Nat):Spec E:=⟨[.box false 61 61],[.str],true,false,R,fun x=>m N x.1,fun r=>(r.1,()),fun r=>(r.2,()),fun a b=>(a.1,b.1),fun _ _=>rfl,fun _ _=>rfl⟩
end spec_l00Src_key
namespace spec_l00Src_datum
abbrev R:=ByteArray×l00Src
noncomputable def m (N:Nat) (a0:l00Src):Option R:=
 (let w1:List ByteArray:=[ByteArray.empty,(⟨#[49]⟩:ByteArray),(⟨#[50]⟩:ByteArray),(⟨#[120]⟩:ByteArray),(⟨#[108,111,110,103,101,114,32,118,97,108,117,101]⟩:ByteArray)]
 ob (spec_l00Src_pick_.m N a0 w1) fun y2=>
 some (y2.1,y2.2))
@[reducible] noncomputable def sp (N:Nat):Spec E:=⟨[.box false 61 61],[.str],true,false,R,fun x=>m N x.1,fun r=>(r.1,()),fun r=>(r.2,()),fun a b=>(a.1,b.1),fun _ _=>rfl,fun _ _=>rfl⟩
end spec_l00Src_datum
namespace spec_l00Src_command
abbrev R:=Command×l00Src
noncomputable def m (N:Nat) (a0:l00Src):Option R:=
 ob (spec_l00Src_next_.m N a0 (5:Int)) fun y1=>
 bif (decide (0≤y1.1)) then
 bif (decide (y1.1<(([(1:Int),(1:Int),(2:Int),(2:Int),(3:Int)]).length:Int))) then
 ob (spec_l00Src_next_.m N y1.2 (3:Int)) fun y2=>
 ob (spec_l00Src_next_.m N y2.2 (5:Int)) fun y3=>
 ob (spec_l00Src_key.m N y3.2) fun y4=>
 ob (spec_l00Src_datum.m N y4.2) fun y5=>
 bif ((([(1:Int),(1:Int),(2:Int),(2:Int),(3:Int)]).getD (Int.toNat y1.1) (0:Int))==(3:Int)) then
  ob (spec_l00Src_chance_.m N y5.2 (4:Int)) fun y6=>
  bif y6.1 then
   ob (spec_l00Src_next_.m N y6.2 (2:Int)) fun y7=>
   ob (spec_l00Src_next_.m N y7.2 (3:Int)) fun y8=>
   some ((Command.mk (w64 ((4:Int)+y7.1)) (w64 ((1:Int)+y8.1)) (0:Int) ByteArray.empty ByteArray.empty),y8.2)
  else
  some ((Command.mk (([(1:Int),(1:Int),(2:Int),(2:Int),(3:Int)]).getD (Int.toNat y1.1) (0:Int)) (w64 ((1:Int)+y2.1)) (w64 ((1:Int)+y3.1)) y4.1 ByteArray.empty),y6.2)
 else
 ob (spec_l00Src_chance_.m N y5.2 (4:Int)) fun y9=>
 bif y9.1 then
  ob (spec_l00Src_next_.m N y9.2 (2:Int)) fun y10=>
  ob (spec_l00Src_next_.m N y10.2 (3:Int)) fun y11=>
  some ((Command.mk (w64 ((4:Int)+y10.1)) (w64 ((1:Int)+y11.1)) (0:Int) ByteArray.empty ByteArray.empty),y11.2)
 else
 some ((Command.mk (([(1:Int),(1:Int),(2:Int),(2:Int),(3:Int)]).getD (Int.toNat y1.1) (0:Int)) (w64 ((1:Int)+y2.1)) (w64 ((1:Int)+y3.1)) y4.1 y5.1),y9.2)
 else none
 else none
@[reducible] noncomputable def sp (N:Nat):Spec E:=⟨[.box false 61 61],[(.st 86)],true,false,R,fun x=>m N x.1,fun r=>(r.1,()),fun r=>(r.2,()),fun a b=>(a.1,b.1),fun _ _=>rfl,fun _ _=>rfl⟩
end spec_l00Src_command
namespace spec_l02Two
abbrev R:=(List Int)
noncomputable def m (N:Nat) (a0:Int):Option R:=
 bif (!decide ((256:Int)=0)) then
 some ([(wu8 (w64 (Int.tdiv a0 (256:Int)))),(wu8 a0)])
 else none
@[reducible] noncomputable def sp (N:Nat):Spec E:=⟨[.val (.int .i64)],[(.slice 5 (.int .u8))],true,false,R,fun x=>m N x.1,fun r=>(r,()),fun r=>((),()),fun a b=>a.1,fun _ _=>rfl,fun _ _=>rfl⟩
end spec_l02Two
namespace spec_l02Bytes
abbrev R:=(List Int)
noncomputable def m (N:Nat) (a0:Command):Option R:=
 ob (spec_l02Two.m N a0.Session) fun y1=>
 bif (room (([(wu8 a0.Kind)]).length+y1.length) 1) then
 ob (spec_l02Two.m N a0.Seq) fun y2=>
 bif (room (([(wu8 a0.Kind)]++y1).length+y2.length) 1) then
 bif (room ((([(wu8 a0.Kind)]++y1)++y2).length+([(wu8 (a0.Key.size:Int))]).length) 1) then
 bif (room (((([(wu8 a0.Kind)]++y1)++y2)++[(wu8 (a0.Key.size:Int))]).length+(bytesOf a0.Key).length) 1) then
 bif (room ((((([(wu8 a0.Kind)]++y1)++y2)++[(wu8 (a0.Key.size:Int))])++(bytesOf a0.Key)).length+([(wu8 (a0.Value.size:Int))]).length) 1) then
 bif (room (((((([(wu8 a0.Kind)]++y1)++y2)++[(wu8 (a0.Key.size:Int))])++(bytesOf a0.Key))++[(wu8 (a0.Value.size:Int))]).length+(bytesOf a0.Value).length) 1) then
 (let w3:List Int:=(((((([(wu8 a0.Kind)]++y1)++y2)++[(wu8 (a0.Key.size:Int))])++(bytesOf a0.Key))++[(wu8 (a0.Value.size:Int))])++(bytesOf a0.Value))
 some w3)
 else none
 else none
 else none
 else none
 else none
 else none
@[reducible] noncomputable def sp (N:Nat):Spec E:=⟨[.val (.st 86)],[(.slice 5 (.int .u8))],true,false,R,fun x=>m N x.1,fun r=>(r,()),fun r=>((),()),fun a b=>a.1,fun _ _=>rfl,fun _ _=>rfl⟩
end spec_l02Bytes
namespace spec_l00Src_groupAct
abbrev R:=GroupAct×l00Src
noncomputable def m (N:Nat) (a0:l00Src) (a1:Int):Option R:=
 ob (spec_l00Src_next_.m N a0 (4:Int)) fun y1=>
 ob (spec_l00Src_next_.m N y1.2 (12:Int)) fun y2=>
 ob (spec_l00Src_next_.m N y2.2 (5:Int)) fun y3=>
 bif (decide (0≤y3.1)) then
 bif (decide (y3.1<(([(0:Int),(0:Int),(0:Int),y1.1,y2.1]).length:Int))) then
 ob (spec_l00Src_next_.m N y3.2 (16:Int)) fun y4=>
 bif (y4.1==(0:Int)) then
  ob (spec_l00Src_next_.m N y4.2 a1) fun y5=>
  ob (spec_l00Src_next_.m N y5.2 (8:Int)) fun y6=>
  some ((GroupAct.mk (1:Int) y5.1 y6.1 ByteArray.empty),y6.2)
 else
 bif (y4.1==(1:Int)) then
  ob (spec_l00Src_next_.m N y4.2 a1) fun y7=>
  ob (spec_l00Src_next_.m N y7.2 (8:Int)) fun y8=>
  some ((GroupAct.mk (1:Int) y7.1 y8.1 ByteArray.empty),y8.2)
 else
 bif (y4.1==(2:Int)) then
  ob (spec_l00Src_next_.m N y4.2 a1) fun y9=>
  ob (spec_l00Src_next_.m N y9.2 (8:Int)) fun y10=>
  some ((GroupAct.mk (1:Int) y9.1 y10.1 ByteArray.empty),y10.2)
 else
 bif (y4.1==(3:Int)) then
  ob (spec_l00Src_next_.m N y4.2 (2:Int)) fun y11=>
  bif (decide (0≤y11.1)) then
  bif (decide (y11.1<(([(3:Int),(4:Int)]).length:Int))) then
  ob (spec_l00Src_next_.m N y11.2 (5:Int)) fun y12=>
  some ((GroupAct.mk (([(3:Int),(4:Int)]).getD (Int.toNat y11.1) (0:Int)) y12.1 (0:Int) ByteArray.empty),y12.2)
  else none
  else none
 else
 bif (y4.1==(4:Int)) then
  ob (spec_l00Src_next_.m N y4.2 a1) fun y13=>
  ob (spec_l00Src_command.m N y13.2) fun y14=>
  ob (spec_l02Bytes.m N y14.1) fun y15=>
  some ((GroupAct.mk (5:Int) y13.1 (0:Int) (strOf y15)),y14.2)
 else
 bif (y4.1==(5:Int)) then
  ob (spec_l00Src_next_.m N y4.2 a1) fun y16=>
  ob (spec_l00Src_command.m N y16.2) fun y17=>
  ob (spec_l02Bytes.m N y17.1) fun y18=>
  some ((GroupAct.mk (5:Int) y16.1 (0:Int) (strOf y18)),y17.2)
 else
 bif (y4.1==(6:Int)) then
  ob (spec_l00Src_chance_.m N y4.2 (2:Int)) fun y19=>
  bif y19.1 then
   ob (spec_l00Src_next_.m N y19.2 (2:Int)) fun y20=>
   bif (decide (0≤y20.1)) then
   bif (decide (y20.1<(([(7:Int),(8:Int)]).length:Int))) then
   ob (spec_l00Src_next_.m N y20.2 a1) fun y21=>
   some ((GroupAct.mk (([(7:Int),(8:Int)]).getD (Int.toNat y20.1) (0:Int)) y21.1 (0:Int) ByteArray.empty),y21.2)
   else none
   else none
  else
  some ((GroupAct.mk (2:Int) (([(0:Int),(0:Int),(0:Int),y1.1,y2.1]).getD (Int.toNat y3.1) (0:Int)) (0:Int) ByteArray.empty),y19.2)
 else
 bif (y4.1==(7:Int)) then
  ob (spec_l00Src_chance_.m N y4.2 (2:Int)) fun y22=>
  bif y22.1 then
   ob (spec_l00Src_next_.m N y22.2 a1) fun y23=>
   ob (spec_l00Src_pick_.m N y23.2 ([(⟨#[0,1]⟩:ByteArray),(⟨#[0,1,2]⟩:ByteArray),(⟨#[0,1,2,3]⟩:ByteArray),(⟨#[1,2]⟩:ByteArray),(⟨#[0,2,3]⟩:ByteArray)])) fun y24=>
   some ((GroupAct.mk (6:Int) y23.1 (0:Int) y24.1),y24.2)
  else
  some ((GroupAct.mk (2:Int) (([(0:Int),(0:Int),(0:Int),y1.1,y2.1]).getD (Int.toNat y3.1) (0:Int)) (0:Int) ByteArray.empty),y22.2)
 else
 some ((GroupAct.mk (2:Int) (([(0:Int),(0:Int),(0:Int),y1.1,y2.1]).getD (Int.toNat y3.1) (0:Int)) (0:Int) ByteArray.empty),y4.2)
 else none
 else none
@[reducible] noncomputable def sp (N:Nat):Spec E:=⟨[.box false 61 61,.val (.int .i64)],[(.st 46)],true,false,R,fun x=>m N x.1 x.2.1,fun r=>(r.1,()),fun r=>(r.2,(),()),fun a b=>(a.1,b.1),fun _ _=>rfl,fun _ _=>rfl⟩
end spec_l00Src_groupAct
namespace spec_l00Src_groupActs
abbrev R:=(List GroupAct)×l00Src
noncomputable def step5 (N:Nat) (a0:l00Src) (a1:Int) (rec:(Int×(List Int)×Int×Int×(List GroupAct))→Option R):(Int×(List Int)×Int×Int×(List GroupAct))→Option R
 | (v1,v2,v3,v4,v5)=>
  bif (decide (v1 > (0:Int))) then
   bif (bif true then (decide ((v5.length:Int)<(230:Int))) else false) then
    ob (spec_l00Src_groupAct.m N (l00Src.mk v2 v3 v4) a1) fun y8=>
    bif (room (v5.length+([y8.1]).length) 40) then
    ob (spec_l00Src_chance_.m N y8.2 (30:Int)) fun y9=>
    bif y9.1 then
     ob (spec_l00Src_next_.m N y9.2 a1) fun y10=>
     ob (spec_l00Src_elected.m N y10.2 y10.1) fun y11=>
     bif (room ((v5++[y8.1]).length+y11.1.length) 40) then
     rec ((w64 (v1 - (1:Int))),y11.2.code,y11.2.«at»,y11.2.seed,((v5++[y8.1])++y11.1))
     else none
    else
    rec ((w64 (v1 - (1:Int))),y9.2.code,y9.2.«at»,y9.2.seed,(v5++[y8.1]))
    else none
   else
   some (v5,(l00Src.mk v2 v3 v4))
  else
  some (v5,(l00Src.mk v2 v3 v4))
noncomputable def lp5 (N:Nat) (a0:l00Src) (a1:Int):(Int×(List Int)×Int×Int×(List GroupAct))→Option R:=
 miter (fun rec=>step5 N a0 a1 rec) N
noncomputable def m0 (N:Nat) (a0:l00Src) (a1:Int) (lp5:Int×(List Int)×Int×Int×(List GroupAct)→Option R):Option R:=
 ob (spec_l00Src_chance_.m N a0 (5:Int)) fun y1=>
 bif (!y1.1) then
  ob (spec_l00Src_next_.m N y1.2 a1) fun y2=>
  ob (spec_l00Src_elected.m N y2.2 y2.1) fun y3=>
  ob (spec_l00Src_size.m N y3.2 (60:Int)) fun y4=>
  ob (spec_l00Src_next_.m N y3.2 (w64 (y4+(8:Int)))) fun y5=>
  lp5 (y5.1,y5.2.code,y5.2.«at»,y5.2.seed,y3.1)
 else
 ob (spec_l00Src_size.m N y1.2 (60:Int)) fun y6=>
 ob (spec_l00Src_next_.m N y1.2 (w64 (y6+(8:Int)))) fun y7=>
 lp5 (y7.1,y7.2.code,y7.2.«at»,y7.2.seed,([]:List GroupAct))
@[reducible] noncomputable def m (N:Nat) (a0:l00Src) (a1:Int):Option R:=m0 N a0 a1 (lp5 N a0 a1)
@[reducible] noncomputable def sp (N:Nat):Spec E:=⟨[.box false 61 61,.val (.int .i64)],[(.slice 46 (.st 46))],true,false,R,fun x=>m N x.1 x.2.1,fun r=>(r.1,()),fun r=>(r.2,(),()),fun a b=>(a.1,b.1),fun _ _=>rfl,fun _ _=>rfl⟩
end spec_l00Src_groupActs
namespace spec_GroupActsOf
abbrev R:=(List GroupAct)
noncomputable def m (N:Nat) (a0:List Int) (a1:Int):Option R:=
 ob (spec_l00Source.m N a0) fun y1=>
 ob (spec_l00Src_groupActs.m N y1 a1) fun y2=>
 some y2.1
@[reducible] noncomputable def sp (N:Nat):Spec E:=⟨[.val (.slice 5 (.int .u8)),.val (.int .i64)],[(.slice 46 (.st 46))],true,false,R,fun x=>m N x.1 x.2.1,fun r=>(r,()),fun r=>((),(),()),fun a b=>a.1,fun _ _=>rfl,fun _ _=>rfl⟩
end spec_GroupActsOf
namespace impl_isList_impl_GroupAct
abbrev R:=Bool
noncomputable def m (N:Nat) (a0:List GroupAct):Option R:=
 some (decide ((a0.length:Int)≤(4096:Int)))
@[reducible] noncomputable def sp (N:Nat):Spec E:=⟨[.val (.slice 46 (.st 46))],[.bool],true,false,R,fun x=>m N x.1,fun r=>(r,()),fun r=>((),()),fun a b=>a.1,fun _ _=>rfl,fun _ _=>rfl⟩
end impl_isList_impl_GroupAct
namespace impl_within
abbrev R:=Bool
noncomputable def m (N:Nat) (a0:Int) (a1:Int) (a2:Int):Option R:=
 bif (decide (a0≥a1)) then
  some (bif true then (decide (a0≤a2)) else false)
 else
 some false
@[reducible] noncomputable def sp (N:Nat):Spec E:=⟨[.val (.int .i64),.val (.int .i64),.val (.int .i64)],[.bool],true,false,R,fun x=>m N x.1 x.2.1 x.2.2.1,fun r=>(r,()),fun r=>((),(),(),()),fun a b=>a.1,fun _ _=>rfl,fun _ _=>rfl⟩
end impl_within
namespace slices_Clone_int_int
abbrev R:=(List Int)
noncomputable def m (N:Nat) (a0:List Int):Option R:=
 amb (a0.isEmpty) true
  (some ([]:List Int))
  (bif (room (([]:List Int).length+a0.length) 8) then
  some (([]:List Int)++a0)
  else none)
@[reducible] noncomputable def sp (N:Nat):Spec E:=⟨[.val (.slice 3 (.int .i64))],[(.slice 3 (.int .i64))],true,false,R,fun x=>m N x.1,fun r=>(r,()),fun r=>((),()),fun a b=>a.1,fun _ _=>rfl,fun _ _=>rfl⟩
end slices_Clone_int_int
namespace math_bits_Mul64
abbrev R:=Int×Int
noncomputable def m (N:Nat) (a0:Int) (a1:Int):Option R:=
 bif (!decide ((32:Int)<0)) then
 bif (!decide ((32:Int)<0)) then
 bif (!decide ((32:Int)<0)) then
 (let w1:Int:=(wu64 ((wu64 ((Int.fdiv a0 (2 ^ (min (Int.toNat (32:Int)) 64))) * (ibit .and .u64 a1 (4294967295:Int))))+(Int.fdiv (wu64 ((ibit .and .u64 a0 (4294967295:Int)) * (ibit .and .u64 a1 (4294967295:Int)))) (2 ^ (min (Int.toNat (32:Int)) 64)))))
 bif (!decide ((32:Int)<0)) then
 (let w2:Int:=(wu64 ((ibit .and .u64 w1 (4294967295:Int))+(wu64 ((ibit .and .u64 a0 (4294967295:Int)) * (Int.fdiv a1 (2 ^ (min (Int.toNat (32:Int)) 64)))))))
 (let w3:Int:=(wu64 ((wu64 ((Int.fdiv a0 (2 ^ (min (Int.toNat (32:Int)) 64))) * (Int.fdiv a1 (2 ^ (min (Int.toNat (32:Int)) 64)))))+(Int.fdiv w1 (2 ^ (min (Int.toNat (32:Int)) 64)))))
 bif (!decide ((32:Int)<0)) then
 some ((wu64 (w3+(Int.fdiv w2 (2 ^ (min (Int.toNat (32:Int)) 64))))),(wu64 (a0 * a1)))
 else none))
 else none)
 else none
 else none
 else none
@[reducible] noncomputable def sp (N:Nat):Spec E:=⟨[.val (.int .u64),.val (.int .u64)],[(.int .u64),(.int .u64)],true,false,R,fun x=>m N x.1 x.2.1,fun r=>(r.1,r.2,()),fun r=>((),(),()),fun a b=>(a.1,a.2.1),fun _ _=>rfl,fun _ _=>rfl⟩
end math_bits_Mul64
namespace math_bits_Mul
abbrev R:=Int×Int
noncomputable def m (N:Nat) (a0:Int) (a1:Int):Option R:=
 ob (math_bits_Mul64.m N a0 a1) fun y1=>
 some (y1.1,y1.2)
@[reducible] noncomputable def sp (N:Nat):Spec E:=⟨[.val (.int .u64),.val (.int .u64)],[(.int .u64),(.int .u64)],true,false,R,fun x=>m N x.1 x.2.1,fun r=>(r.1,r.2,()),fun r=>((),(),()),fun a b=>(a.1,a.2.1),fun _ _=>rfl,fun _ _=>rfl⟩
end math_bits_Mul
namespace slices_Repeat_int_int
abbrev R:=(List Int)
noncomputable def step8 (N:Nat) (a0:List Int) (a1:Int) (rec:(Int×(List Int))→Option R):(Int×(List Int))→Option R
 | (v0,v1)=>
  bif (decide (v0<(v1.length:Int))) then
   bif (decide (0≤v0)) then
   bif (decide (v0≤(((v1.length):Nat):Int))) then
   bif (decide (0≤v0)) then
   bif (decide (v0≤((v1.length:Nat):Int))) then
   bif (decide ((Int.toNat v0)+((v1.length) - (Int.toNat v0))≤v1.length)) then
   bif (decide (0+((Int.toNat v0) - 0)≤v1.length)) then
   (let w3:List Int:=(v1.take (Int.toNat v0)++(((v1.drop 0).take ((Int.toNat v0) - 0)).take ((v1.length) - (Int.toNat v0))++v1.drop ((Int.toNat v0)+(min ((v1.drop 0).take ((Int.toNat v0) - 0)).length ((v1.length) - (Int.toNat v0)):Nat))))
   rec ((w64 (v0+((min ((v1.drop 0).take ((Int.toNat v0) - 0)).length ((v1.length) - (Int.toNat v0)):Nat):Int))),w3))
   else none
   else none
   else none
   else none
   else none
   else none
  else
  some v1
noncomputable def lp8 (N:Nat) (a0:List Int) (a1:Int):(Int×(List Int))→Option R:=
 miter (fun rec=>step8 N a0 a1 rec) N
noncomputable def m0 (N:Nat) (a0:List Int) (a1:Int) (lp8:Int×(List Int)→Option R):Option R:=
 bif (decide (a1<(0:Int))) then
  none
 else
 ob (math_bits_Mul.m N (wu64 (a0.length:Int)) (wu64 a1)) fun y1=>
 bif (decide (y1.1 > (0:Int))) then
  none
 else
 bif (bif false then true else (decide (y1.2 > (9223372036854775807:Int)))) then
  none
 else
 bif (decide (0≤(w64 y1.2))) then
 bif (room (Int.toNat (w64 y1.2)) 8) then
 (let w2:List Int:=((List.replicate (Int.toNat (w64 y1.2)) (0:Int)).take 0++(a0.take ((List.replicate (Int.toNat (w64 y1.2)) (0:Int)).length)++(List.replicate (Int.toNat (w64 y1.2)) (0:Int)).drop (0+(min a0.length ((List.replicate (Int.toNat (w64 y1.2)) (0:Int)).length):Nat))))
 lp8 (((min a0.length ((List.replicate (Int.toNat (w64 y1.2)) (0:Int)).length):Nat):Int),w2))
 else none
 else none
@[reducible] noncomputable def m (N:Nat) (a0:List Int) (a1:Int):Option R:=m0 N a0 a1 (lp8 N a0 a1)
@[reducible] noncomputable def sp (N:Nat):Spec E:=⟨[.val (.slice 3 (.int .i64)),.val (.int .i64)],[(.slice 3 (.int .i64))],true,false,R,fun x=>m N x.1 x.2.1,fun r=>(r,()),fun r=>((),(),()),fun a b=>a.1,fun _ _=>rfl,fun _ _=>rfl⟩
end slices_Repeat_int_int
namespace impl_Node_follow
abbrev R:=Node
noncomputable def m (N:Nat) (a0:Node):Option R:=
 ob (slices_Repeat_int_int.m N ([(1:Int)]) (7:Int)) fun y1=>
 bif (decide (0≤(7:Int))) then
 bif (room 7 8) then
 some (Node.mk a0.Id a0.Term a0.Vote a0.Log a0.Start (0:Int) ([]:List Int) y1 (List.replicate 7 (0:Int)) a0.Commit a0.Elapsed a0.Wait a0.Up)
 else none
 else none
@[reducible] noncomputable def sp (N:Nat):Spec E:=⟨[.box false 39 39],[],true,false,R,fun x=>m N x.1,fun r=>(),fun r=>(r,()),fun a b=>b.1,fun _ _=>rfl,fun _ _=>rfl⟩
end impl_Node_follow
namespace impl_newNode
abbrev R:=Node
noncomputable def m (N:Nat) (a0:Int) (a1:List Int):Option R:=
 ob (slices_Clone_int_int.m N a1) fun y1=>
 ob (impl_Node_follow.m N (Node.mk a0 (0:Int) (-1:Int) ([]:List Entry) y1 (0:Int) ([]:List Int) ([]:List Int) ([]:List Int) (0:Int) (0:Int) (w64 ((5:Int)+a0)) true)) fun y2=>
 some y2
@[reducible] noncomputable def sp (N:Nat):Spec E:=⟨[.val (.int .i64),.val (.slice 3 (.int .i64))],[(.st 39)],true,false,R,fun x=>m N x.1 x.2.1,fun r=>(r,()),fun r=>((),(),()),fun a b=>a.1,fun _ _=>rfl,fun _ _=>rfl⟩
end impl_newNode
namespace impl_NewGroup
abbrev R:=Group×Int
inductive A10 where
 | s0 (v1:Int) (v2:List Int)
 | s1 (v1:Int) (v2:List Node) (v3:List Int)
noncomputable def step5 (N:Nat) (a0:Int) (lp10:A10→Option R) (rec:(Int×Int×(List Int))→Option R):(Int×Int×(List Int))→Option R
 | (v1,v2,v3)=>
  bif (decide (v2<v1)) then
   bif (room (v3.length+([v2]).length) 8) then
   rec (v1,(w64 (v2+(1:Int))),(v3++[v2]))
   else none
  else
  lp10 (.s0 (0:Int) v3)
noncomputable def step10 (N:Nat) (a0:Int) (rec:A10→Option R):A10→Option R
 | .s0 v1 v2=>
  bif (decide (v1<a0)) then
   ob (impl_newNode.m N v1 v2) fun y2=>
   bif (room ([y2]).length 184) then
   rec (.s1 (w64 (v1+(1:Int))) ([y2]) v2)
   else none
  else
  some ((Group.mk ([]:List Node) ([]:List Message) ([]:List Lead) ([]:List Done)),(0:Int))
 | .s1 v1 v2 v3=>
  bif (decide (v1<a0)) then
   ob (impl_newNode.m N v1 v3) fun y3=>
   bif (room (v2.length+([y3]).length) 184) then
   rec (.s1 (w64 (v1+(1:Int))) (v2++[y3]) v3)
   else none
  else
  some ((Group.mk v2 ([]:List Message) ([]:List Lead) ([]:List Done)),(0:Int))
noncomputable def lp10 (N:Nat) (a0:Int):A10→Option R:=
 miter (fun rec=>step10 N a0 rec) N
noncomputable def lp5 (N:Nat) (a0:Int):(Int×Int×(List Int))→Option R:=
 miter (fun rec=>step5 N a0 (lp10 N a0) rec) N
noncomputable def m0 (N:Nat) (a0:Int) (lp5:Int×Int×(List Int)→Option R):Option R:=
 ob (impl_within.m N a0 (1:Int) (5:Int)) fun y1=>
 bif (!y1) then
  some ((Group.mk ([]:List Node) ([]:List Message) ([]:List Lead) ([]:List Done)),(4:Int))
 else
 lp5 ((if a0<(3:Int) then a0 else (3:Int)),(0:Int),([]:List Int))
@[reducible] noncomputable def m (N:Nat) (a0:Int):Option R:=m0 N a0 (lp5 N a0)
@[reducible] noncomputable def sp (N:Nat):Spec E:=⟨[.val (.int .i64)],[(.st 29),(.int .i64)],true,false,R,fun x=>m N x.1,fun r=>(r.1,r.2,()),fun r=>((),()),fun a b=>(a.1,a.2.1),fun _ _=>rfl,fun _ _=>rfl⟩
end impl_NewGroup
namespace slices_Clone_impl_Done_impl_Done
abbrev R:=(List Done)
noncomputable def m (N:Nat) (a0:List Done):Option R:=
 amb (a0.isEmpty) true
  (some ([]:List Done))
  (bif (room (([]:List Done).length+a0.length) 56) then
  some (([]:List Done)++a0)
  else none)
@[reducible] noncomputable def sp (N:Nat):Spec E:=⟨[.val (.slice 70 (.st 70))],[(.slice 70 (.st 70))],true,false,R,fun x=>m N x.1,fun r=>(r,()),fun r=>((),()),fun a b=>a.1,fun _ _=>rfl,fun _ _=>rfl⟩
end slices_Clone_impl_Done_impl_Done
namespace slices_Clone_impl_Entry_impl_Entry
abbrev R:=(List Entry)
noncomputable def m (N:Nat) (a0:List Entry):Option R:=
 amb (a0.isEmpty) true
  (some ([]:List Entry))
  (bif (room (([]:List Entry).length+a0.length) 32) then
  some (([]:List Entry)++a0)
  else none)
@[reducible] noncomputable def sp (N:Nat):Spec E:=⟨[.val (.slice 41 (.st 41))],[(.slice 41 (.st 41))],true,false,R,fun x=>m N x.1,fun r=>(r,()),fun r=>((),()),fun a b=>a.1,fun _ _=>rfl,fun _ _=>rfl⟩
end slices_Clone_impl_Entry_impl_Entry
namespace impl_copyNode
abbrev R:=Node
noncomputable def m (N:Nat) (a0:Node):Option R:=
 ob (slices_Clone_impl_Entry_impl_Entry.m N a0.Log) fun y1=>
 ob (slices_Clone_int_int.m N a0.Start) fun y2=>
 ob (slices_Clone_int_int.m N a0.Votes) fun y3=>
 ob (slices_Clone_int_int.m N a0.Next) fun y4=>
 ob (slices_Clone_int_int.m N a0.Match) fun y5=>
 some (Node.mk a0.Id a0.Term a0.Vote y1 y2 a0.Role y3 y4 y5 a0.Commit a0.Elapsed a0.Wait a0.Up)
@[reducible] noncomputable def sp (N:Nat):Spec E:=⟨[.val (.st 39)],[(.st 39)],true,false,R,fun x=>m N x.1,fun r=>(r,()),fun r=>((),()),fun a b=>a.1,fun _ _=>rfl,fun _ _=>rfl⟩
end impl_copyNode
namespace impl_copyMessage
abbrev R:=Message
noncomputable def m (N:Nat) (a0:Message):Option R:=
 ob (slices_Clone_impl_Entry_impl_Entry.m N a0.Entries) fun y1=>
 some (Message.mk a0.Kind a0.From a0.To a0.Term a0.Index a0.LogTerm a0.Commit y1 a0.Ok)
@[reducible] noncomputable def sp (N:Nat):Spec E:=⟨[.val (.st 74)],[(.st 74)],true,false,R,fun x=>m N x.1,fun r=>(r,()),fun r=>((),()),fun a b=>a.1,fun _ _=>rfl,fun _ _=>rfl⟩
end impl_copyMessage
namespace impl_copyGroup
abbrev R:=Group
inductive A3 where
 | s0 (v1:Int) (v2:Int) (v7:List Done)
 | s1 (v1:Int) (v2:Int) (v7:List Node) (v8:List Done)
inductive A8 where
 | s0 (v1:Int) (v2:Int) (v7:List Done)
 | s1 (v1:Int) (v2:Int) (v7:List Node) (v8:List Done)
 | s2 (v1:Int) (v2:Int) (v7:List Message) (v8:List Done)
 | s3 (v1:Int) (v2:Int) (v7:List Node) (v8:List Message) (v9:List Done)
inductive A13 where
 | s0 (v1:Int) (v2:Int) (v3:List Done)
 | s1 (v1:Int) (v2:Int) (v3:List Node) (v4:List Done)
 | s2 (v1:Int) (v2:Int) (v3:List Message) (v4:List Done)
 | s3 (v1:Int) (v2:Int) (v3:List Lead) (v4:List Done)
 | s4 (v1:Int) (v2:Int) (v3:List Node) (v4:List Message) (v5:List Done)
 | s5 (v1:Int) (v2:Int) (v3:List Node) (v4:List Lead) (v5:List Done)
 | s6 (v1:Int) (v2:Int) (v3:List Message) (v4:List Lead) (v5:List Done)
 | s7 (v1:Int) (v2:Int) (v3:List Node) (v4:List Message) (v5:List Lead) (v6:List Done)
noncomputable def step3 (N:Nat) (a0:Group) (lp8:A8→Option R) (rec:A3→Option R):A3→Option R
 | .s0 v1 v2 v7=>
  bif (decide (v2<v1)) then
   bif (decide (0≤v2)) then
   bif (decide (v2<(a0.Nodes.length:Int))) then
   ob (impl_copyNode.m N (a0.Nodes.getD (Int.toNat v2) Node.dz)) fun y2=>
   bif (room ([y2]).length 184) then
   rec (.s1 v1 (w64 (v2+(1:Int))) ([y2]) v7)
   else none
   else none
   else none
  else
  lp8 (.s0 (a0.Wire.length:Int) (0:Int) v7)
 | .s1 v1 v2 v7 v8=>
  bif (decide (v2<v1)) then
   bif (decide (0≤v2)) then
   bif (decide (v2<(a0.Nodes.length:Int))) then
   ob (impl_copyNode.m N (a0.Nodes.getD (Int.toNat v2) Node.dz)) fun y3=>
   bif (room (v7.length+([y3]).length) 184) then
   rec (.s1 v1 (w64 (v2+(1:Int))) (v7++[y3]) v8)
   else none
   else none
   else none
  else
  lp8 (.s1 (a0.Wire.length:Int) (0:Int) v7 v8)
noncomputable def step8 (N:Nat) (a0:Group) (lp13:A13→Option R) (rec:A8→Option R):A8→Option R
 | .s0 v1 v2 v7=>
  bif (decide (v2<v1)) then
   bif (decide (0≤v2)) then
   bif (decide (v2<(a0.Wire.length:Int))) then
   ob (impl_copyMessage.m N (a0.Wire.getD (Int.toNat v2) Message.dz)) fun y4=>
   bif (room ([y4]).length 88) then
   rec (.s2 v1 (w64 (v2+(1:Int))) ([y4]) v7)
   else none
   else none
   else none
  else
  lp13 (.s0 (a0.Leads.length:Int) (0:Int) v7)
 | .s1 v1 v2 v7 v8=>
  bif (decide (v2<v1)) then
   bif (decide (0≤v2)) then
   bif (decide (v2<(a0.Wire.length:Int))) then
   ob (impl_copyMessage.m N (a0.Wire.getD (Int.toNat v2) Message.dz)) fun y5=>
   bif (room ([y5]).length 88) then
   rec (.s3 v1 (w64 (v2+(1:Int))) v7 ([y5]) v8)
   else none
   else none
   else none
  else
  lp13 (.s1 (a0.Leads.length:Int) (0:Int) v7 v8)
 | .s2 v1 v2 v7 v8=>
  bif (decide (v2<v1)) then
   bif (decide (0≤v2)) then
   bif (decide (v2<(a0.Wire.length:Int))) then
   ob (impl_copyMessage.m N (a0.Wire.getD (Int.toNat v2) Message.dz)) fun y6=>
   bif (room (v7.length+([y6]).length) 88) then
   rec (.s2 v1 (w64 (v2+(1:Int))) (v7++[y6]) v8)
   else none
   else none
   else none
  else
  lp13 (.s2 (a0.Leads.length:Int) (0:Int) v7 v8)
 | .s3 v1 v2 v7 v8 v9=>
  bif (decide (v2<v1)) then
   bif (decide (0≤v2)) then
   bif (decide (v2<(a0.Wire.length:Int))) then
   ob (impl_copyMessage.m N (a0.Wire.getD (Int.toNat v2) Message.dz)) fun y8=>
   bif (room (v8.length+([y8]).length) 88) then
   rec (.s3 v1 (w64 (v2+(1:Int))) v7 (v8++[y8]) v9)
   else none
   else none
   else none
  else
  lp13 (.s4 (a0.Leads.length:Int) (0:Int) v7 v8 v9)
noncomputable def step13 (N:Nat) (a0:Group) (rec:A13→Option R):A13→Option R
 | .s0 v1 v2 v3=>
  bif (decide (v2<v1)) then
   bif (decide (0≤v2)) then
   bif (decide (v2<(a0.Leads.length:Int))) then
   ob (slices_Clone_impl_Entry_impl_Entry.m N ((a0.Leads.getD (Int.toNat v2) Lead.dz).Log)) fun y7=>
   bif (room ([(Lead.mk ((a0.Leads.getD (Int.toNat v2) Lead.dz).Term) ((a0.Leads.getD (Int.toNat v2) Lead.dz).Id) y7)]).length 40) then
   rec (.s3 v1 (w64 (v2+(1:Int))) ([(Lead.mk ((a0.Leads.getD (Int.toNat v2) Lead.dz).Term) ((a0.Leads.getD (Int.toNat v2) Lead.dz).Id) y7)]) v3)
   else none
   else none
   else none
  else
  some (Group.mk ([]:List Node) ([]:List Message) ([]:List Lead) v3)
 | .s1 v1 v2 v3 v4=>
  bif (decide (v2<v1)) then
   bif (decide (0≤v2)) then
   bif (decide (v2<(a0.Leads.length:Int))) then
   ob (slices_Clone_impl_Entry_impl_Entry.m N ((a0.Leads.getD (Int.toNat v2) Lead.dz).Log)) fun y9=>
   bif (room ([(Lead.mk ((a0.Leads.getD (Int.toNat v2) Lead.dz).Term) ((a0.Leads.getD (Int.toNat v2) Lead.dz).Id) y9)]).length 40) then
   rec (.s5 v1 (w64 (v2+(1:Int))) v3 ([(Lead.mk ((a0.Leads.getD (Int.toNat v2) Lead.dz).Term) ((a0.Leads.getD (Int.toNat v2) Lead.dz).Id) y9)]) v4)
   else none
   else none
   else none
  else
  some (Group.mk v3 ([]:List Message) ([]:List Lead) v4)
 | .s2 v1 v2 v3 v4=>
  bif (decide (v2<v1)) then
   bif (decide (0≤v2)) then
   bif (decide (v2<(a0.Leads.length:Int))) then
   ob (slices_Clone_impl_Entry_impl_Entry.m N ((a0.Leads.getD (Int.toNat v2) Lead.dz).Log)) fun y10=>
   bif (room ([(Lead.mk ((a0.Leads.getD (Int.toNat v2) Lead.dz).Term) ((a0.Leads.getD (Int.toNat v2) Lead.dz).Id) y10)]).length 40) then
   rec (.s6 v1 (w64 (v2+(1:Int))) v3 ([(Lead.mk ((a0.Leads.getD (Int.toNat v2) Lead.dz).Term) ((a0.Leads.getD (Int.toNat v2) Lead.dz).Id) y10)]) v4)
   else none
   else none
   else none
  else
  some (Group.mk ([]:List Node) v3 ([]:List Lead) v4)
 | .s3 v1 v2 v3 v4=>
  bif (decide (v2<v1)) then
   bif (decide (0≤v2)) then
   bif (decide (v2<(a0.Leads.length:Int))) then
   ob (slices_Clone_impl_Entry_impl_Entry.m N ((a0.Leads.getD (Int.toNat v2) Lead.dz).Log)) fun y11=>
   bif (room (v3.length+([(Lead.mk ((a0.Leads.getD (Int.toNat v2) Lead.dz).Term) ((a0.Leads.getD (Int.toNat v2) Lead.dz).Id) y11)]).length) 40) then
   rec (.s3 v1 (w64 (v2+(1:Int))) (v3++[(Lead.mk ((a0.Leads.getD (Int.toNat v2) Lead.dz).Term) ((a0.Leads.getD (Int.toNat v2) Lead.dz).Id) y11)]) v4)
   else none
   else none
   else none
  else
  some (Group.mk ([]:List Node) ([]:List Message) v3 v4)
 | .s4 v1 v2 v3 v4 v5=>
  bif (decide (v2<v1)) then
   bif (decide (0≤v2)) then
   bif (decide (v2<(a0.Leads.length:Int))) then
   ob (slices_Clone_impl_Entry_impl_Entry.m N ((a0.Leads.getD (Int.toNat v2) Lead.dz).Log)) fun y12=>
   bif (room ([(Lead.mk ((a0.Leads.getD (Int.toNat v2) Lead.dz).Term) ((a0.Leads.getD (Int.toNat v2) Lead.dz).Id) y12)]).length 40) then
   rec (.s7 v1 (w64 (v2+(1:Int))) v3 v4 ([(Lead.mk ((a0.Leads.getD (Int.toNat v2) Lead.dz).Term) ((a0.Leads.getD (Int.toNat v2) Lead.dz).Id) y12)]) v5)
   else none
   else none
   else none
  else
  some (Group.mk v3 v4 ([]:List Lead) v5)
 | .s5 v1 v2 v3 v4 v5=>
  bif (decide (v2<v1)) then
   bif (decide (0≤v2)) then
   bif (decide (v2<(a0.Leads.length:Int))) then
   ob (slices_Clone_impl_Entry_impl_Entry.m N ((a0.Leads.getD (Int.toNat v2) Lead.dz).Log)) fun y13=>
   bif (room (v4.length+([(Lead.mk ((a0.Leads.getD (Int.toNat v2) Lead.dz).Term) ((a0.Leads.getD (Int.toNat v2) Lead.dz).Id) y13)]).length) 40) then
   rec (.s5 v1 (w64 (v2+(1:Int))) v3 (v4++[(Lead.mk ((a0.Leads.getD (Int.toNat v2) Lead.dz).Term) ((a0.Leads.getD (Int.toNat v2) Lead.dz).Id) y13)]) v5)
   else none
   else none
   else none
  else
  some (Group.mk v3 ([]:List Message) v4 v5)
 | .s6 v1 v2 v3 v4 v5=>
  bif (decide (v2<v1)) then
   bif (decide (0≤v2)) then
   bif (decide (v2<(a0.Leads.length:Int))) then
   ob (slices_Clone_impl_Entry_impl_Entry.m N ((a0.Leads.getD (Int.toNat v2) Lead.dz).Log)) fun y14=>
   bif (room (v4.length+([(Lead.mk ((a0.Leads.getD (Int.toNat v2) Lead.dz).Term) ((a0.Leads.getD (Int.toNat v2) Lead.dz).Id) y14)]).length) 40) then
   rec (.s6 v1 (w64 (v2+(1:Int))) v3 (v4++[(Lead.mk ((a0.Leads.getD (Int.toNat v2) Lead.dz).Term) ((a0.Leads.getD (Int.toNat v2) Lead.dz).Id) y14)]) v5)
   else none
   else none
   else none
  else
  some (Group.mk ([]:List Node) v3 v4 v5)
 | .s7 v1 v2 v3 v4 v5 v6=>
  bif (decide (v2<v1)) then
   bif (decide (0≤v2)) then
   bif (decide (v2<(a0.Leads.length:Int))) then
   ob (slices_Clone_impl_Entry_impl_Entry.m N ((a0.Leads.getD (Int.toNat v2) Lead.dz).Log)) fun y15=>
   bif (room (v5.length+([(Lead.mk ((a0.Leads.getD (Int.toNat v2) Lead.dz).Term) ((a0.Leads.getD (Int.toNat v2) Lead.dz).Id) y15)]).length) 40) then
   rec (.s7 v1 (w64 (v2+(1:Int))) v3 v4 (v5++[(Lead.mk ((a0.Leads.getD (Int.toNat v2) Lead.dz).Term) ((a0.Leads.getD (Int.toNat v2) Lead.dz).Id) y15)]) v6)
   else none
   else none
   else none
  else
  some (Group.mk v3 v4 v5 v6)
noncomputable def lp13 (N:Nat) (a0:Group):A13→Option R:=
 miter (fun rec=>step13 N a0 rec) N
noncomputable def lp8 (N:Nat) (a0:Group):A8→Option R:=
 miter (fun rec=>step8 N a0 (lp13 N a0) rec) N
noncomputable def lp3 (N:Nat) (a0:Group):A3→Option R:=
 miter (fun rec=>step3 N a0 (lp8 N a0) rec) N
noncomputable def m0 (N:Nat) (a0:Group) (lp3:A3→Option R):Option R:=
 ob (slices_Clone_impl_Done_impl_Done.m N a0.Dones) fun y1=>
 lp3 (.s0 (a0.Nodes.length:Int) (0:Int) y1)
@[reducible] noncomputable def m (N:Nat) (a0:Group):Option R:=m0 N a0 (lp3 N a0)
@[reducible] noncomputable def sp (N:Nat):Spec E:=⟨[.val (.st 29)],[(.st 29)],true,false,R,fun x=>m N x.1,fun r=>(r,()),fun r=>((),()),fun a b=>a.1,fun _ _=>rfl,fun _ _=>rfl⟩
end impl_copyGroup
namespace slices_Delete_impl_Message
abbrev R:=List Message
def m (N:Nat) (a0:List Message) (a1:Int) (a2:Int):Option R:=delM a0 a1 a2
@[reducible] noncomputable def sp (N:Nat):Spec E:={ ps:=[.mov false (.slice 74 (.st 74)),.val (.int .i64),.val (.int .i64)],rs:=[(.slice 74 (.st 74))],own:=true,dp:=false,R:=R,fn:=fun x=>m N x.1 x.2.1 x.2.2.1,res:=fun r=>(r,()),out:=fun r=>((),(),(),()),shut:=fun a b=>a.1,res_shut:=fun _ _=>rfl,out_shut:=fun _ _=>rfl }
end slices_Delete_impl_Message
namespace impl_isNumber
abbrev R:=Bool
noncomputable def m (N:Nat) (a0:Int):Option R:=
 ob (impl_within.m N a0 (0:Int) (6:Int)) fun y1=>
 some y1
@[reducible] noncomputable def sp (N:Nat):Spec E:=⟨[.val (.int .i64)],[.bool],true,false,R,fun x=>m N x.1,fun r=>(r,()),fun r=>((),()),fun a b=>a.1,fun _ _=>rfl,fun _ _=>rfl⟩
end impl_isNumber
namespace impl_areNumbers_1
abbrev R:=Bool
noncomputable def m (N:Nat) (a0:Int):Option R:=
 ob (impl_within.m N a0 (0:Int) (6:Int)) fun y1=>
 some (!y1)
@[reducible] noncomputable def sp (N:Nat):Spec E:=⟨[.val (.int .i64)],[.bool],true,false,R,fun x=>m N x.1,fun r=>(r,()),fun r=>((),()),fun a b=>a.1,fun _ _=>rfl,fun _ _=>rfl⟩
end impl_areNumbers_1
namespace slices_IndexFunc_int_int__impl_areNumbers_1
abbrev R:=Int
noncomputable def step2 (N:Nat) (a0:List Int) (rec:(Int×Int)→Option R):(Int×Int)→Option R
 | (v1,v2)=>
  bif (decide (v2<v1)) then
   bif (decide (0≤v2)) then
   bif (decide (v2<(a0.length:Int))) then
   ob (impl_areNumbers_1.m N (a0.getD (Int.toNat v2) (0:Int))) fun y1=>
   bif y1 then
    some v2
   else
   rec (v1,(w64 (v2+(1:Int))))
   else none
   else none
  else
  some (-1:Int)
noncomputable def lp2 (N:Nat) (a0:List Int):(Int×Int)→Option R:=
 miter (fun rec=>step2 N a0 rec) N
noncomputable def m0 (N:Nat) (a0:List Int) (lp2:Int×Int→Option R):Option R:=
 lp2 ((a0.length:Int),(0:Int))
@[reducible] noncomputable def m (N:Nat) (a0:List Int):Option R:=m0 N a0 (lp2 N a0)
@[reducible] noncomputable def sp (N:Nat):Spec E:=⟨[.val (.slice 3 (.int .i64)),.clo 66 []],[(.int .i64)],true,false,R,fun x=>m N x.1,fun r=>(r,()),fun r=>((),(),()),fun a b=>a.1,fun _ _=>rfl,fun _ _=>rfl⟩
end slices_IndexFunc_int_int__impl_areNumbers_1
namespace slices_ContainsFunc_int_int__impl_areNumbers_1
abbrev R:=Bool
noncomputable def m (N:Nat) (a0:List Int):Option R:=
 ob (slices_IndexFunc_int_int__impl_areNumbers_1.m N a0) fun y1=>
 some (decide (y1≥(0:Int)))
@[reducible] noncomputable def sp (N:Nat):Spec E:=⟨[.val (.slice 3 (.int .i64)),.clo 66 []],[.bool],true,false,R,fun x=>m N x.1,fun r=>(r,()),fun r=>((),(),()),fun a b=>a.1,fun _ _=>rfl,fun _ _=>rfl⟩
end slices_ContainsFunc_int_int__impl_areNumbers_1
namespace impl_areNumbers
abbrev R:=Bool
noncomputable def m (N:Nat) (a0:List Int):Option R:=
 ob (slices_ContainsFunc_int_int__impl_areNumbers_1.m N a0) fun y1=>
 some (!y1)
@[reducible] noncomputable def sp (N:Nat):Spec E:=⟨[.val (.slice 3 (.int .i64))],[.bool],true,false,R,fun x=>m N x.1,fun r=>(r,()),fun r=>((),()),fun a b=>a.1,fun _ _=>rfl,fun _ _=>rfl⟩
end impl_areNumbers
namespace impl_areRising
abbrev R:=Bool
noncomputable def step2 (N:Nat) (a0:List Int) (rec:Int→Option R):Int→Option R
 | v1=>
  bif (decide (v1<(a0.length:Int))) then
   bif (decide (0≤(w64 (v1 - (1:Int))))) then
   bif (decide ((w64 (v1 - (1:Int)))<(a0.length:Int))) then
   bif (decide (0≤v1)) then
   bif (decide (v1<(a0.length:Int))) then
   bif (decide ((a0.getD (Int.toNat (w64 (v1 - (1:Int)))) (0:Int))≥(a0.getD (Int.toNat v1) (0:Int)))) then
    some false
   else
   rec (w64 (v1+(1:Int)))
   else none
   else none
   else none
   else none
  else
  some true
noncomputable def lp2 (N:Nat) (a0:List Int):Int→Option R:=
 miter (fun rec=>step2 N a0 rec) N
noncomputable def m0 (N:Nat) (a0:List Int) (lp2:Int→Option R):Option R:=
 lp2 (1:Int)
@[reducible] noncomputable def m (N:Nat) (a0:List Int):Option R:=m0 N a0 (lp2 N a0)
@[reducible] noncomputable def sp (N:Nat):Spec E:=⟨[.val (.slice 3 (.int .i64))],[.bool],true,false,R,fun x=>m N x.1,fun r=>(r,()),fun r=>((),()),fun a b=>a.1,fun _ _=>rfl,fun _ _=>rfl⟩
end impl_areRising
namespace impl_membersOK
abbrev R:=Bool
noncomputable def m (N:Nat) (a0:List Int):Option R:=
 bif (decide ((a0.length:Int) > (0:Int))) then
  ob (impl_areNumbers.m N a0) fun y1=>
  bif (bif true then y1 else false) then
   ob (impl_areRising.m N a0) fun y2=>
   some (bif true then y2 else false)
  else
  some false
 else
 some false
@[reducible] noncomputable def sp (N:Nat):Spec E:=⟨[.val (.slice 3 (.int .i64))],[.bool],true,false,R,fun x=>m N x.1,fun r=>(r,()),fun r=>((),()),fun a b=>a.1,fun _ _=>rfl,fun _ _=>rfl⟩
end impl_membersOK
namespace impl_readMembers
abbrev R:=(List Int)×Bool
noncomputable def step3 (N:Nat) (a0:ByteArray) (rec:(Int×Int×(List Int))→Option R):(Int×Int×(List Int))→Option R
 | (v1,v2,v3)=>
  bif (decide (v2<v1)) then
   bif (decide (0≤v2)) then
   bif (decide (v2<(a0.size:Int))) then
   bif (room (v3.length+([(w64 (sb a0 v2))]).length) 8) then
   rec (v1,(w64 (v2+(1:Int))),(v3++[(w64 (sb a0 v2))]))
   else none
   else none
   else none
  else
  ob (impl_membersOK.m N v3) fun y1=>
  some (v3,y1)
noncomputable def lp3 (N:Nat) (a0:ByteArray):(Int×Int×(List Int))→Option R:=
 miter (fun rec=>step3 N a0 rec) N
noncomputable def m0 (N:Nat) (a0:ByteArray) (lp3:Int×Int×(List Int)→Option R):Option R:=
 lp3 ((a0.size:Int),(0:Int),([]:List Int))
@[reducible] noncomputable def m (N:Nat) (a0:ByteArray):Option R:=m0 N a0 (lp3 N a0)
@[reducible] noncomputable def sp (N:Nat):Spec E:=⟨[.val .str],[(.slice 3 (.int .i64)),.bool],true,false,R,fun x=>m N x.1,fun r=>(r.1,r.2,()),fun r=>((),()),fun a b=>(a.1,a.2.1),fun _ _=>rfl,fun _ _=>rfl⟩
end impl_readMembers
namespace impl_entryOK
abbrev R:=Bool
noncomputable def m (N:Nat) (a0:Entry):Option R:=
 ob (impl_within.m N a0.Term (1:Int) (1000000:Int)) fun y1=>
 bif (!y1) then
  some false
 else
 bif (a0.Kind==(0:Int)) then
  some (seq a0.Data ByteArray.empty)
 else
 bif (a0.Kind==(1:Int)) then
  ob (impl_within.m N (a0.Data.size:Int) (1:Int) (100:Int)) fun y2=>
  some y2
 else
 bif (a0.Kind==(2:Int)) then
  ob (impl_readMembers.m N a0.Data) fun y3=>
  some y3.2
 else
 some false
@[reducible] noncomputable def sp (N:Nat):Spec E:=⟨[.val (.st 41)],[.bool],true,false,R,fun x=>m N x.1,fun r=>(r,()),fun r=>((),()),fun a b=>a.1,fun _ _=>rfl,fun _ _=>rfl⟩
end impl_entryOK
namespace impl_logOK
abbrev R:=Bool
noncomputable def step2 (N:Nat) (a0:List Entry) (a1:Int) (rec:(Int×Int)→Option R):(Int×Int)→Option R
 | (v3,v4)=>
  bif (decide (v4<v3)) then
   bif (decide (0≤v4)) then
   bif (decide (v4<(a0.length:Int))) then
   ob (impl_entryOK.m N (a0.getD (Int.toNat v4) Entry.dz)) fun y1=>
   bif (!y1) then
    some false
   else
   bif (bif false then true else (decide ((a0.getD (Int.toNat v4) Entry.dz).Term > a1))) then
    some false
   else
   bif (decide (v4 > (0:Int))) then
    bif (decide (0≤(w64 (v4 - (1:Int))))) then
    bif (decide ((w64 (v4 - (1:Int)))<(a0.length:Int))) then
    (let w2:Bool:=(bif false then true else (bif true then (decide ((a0.getD (Int.toNat (w64 (v4 - (1:Int)))) Entry.dz).Term > (a0.getD (Int.toNat v4) Entry.dz).Term)) else false))
    bif w2 then
     some false
    else
    rec (v3,(w64 (v4+(1:Int)))))
    else none
    else none
   else
   bif (bif false then true else false) then
    some false
   else
   rec (v3,(w64 (v4+(1:Int))))
   else none
   else none
  else
  some (decide ((a0.length:Int)≤(60:Int)))
noncomputable def lp2 (N:Nat) (a0:List Entry) (a1:Int):(Int×Int)→Option R:=
 miter (fun rec=>step2 N a0 a1 rec) N
noncomputable def m0 (N:Nat) (a0:List Entry) (a1:Int) (lp2:Int×Int→Option R):Option R:=
 lp2 ((a0.length:Int),(0:Int))
@[reducible] noncomputable def m (N:Nat) (a0:List Entry) (a1:Int):Option R:=m0 N a0 a1 (lp2 N a0 a1)
@[reducible] noncomputable def sp (N:Nat):Spec E:=⟨[.val (.slice 41 (.st 41)),.val (.int .i64)],[.bool],true,false,R,fun x=>m N x.1 x.2.1,fun r=>(r,()),fun r=>((),(),()),fun a b=>a.1,fun _ _=>rfl,fun _ _=>rfl⟩
end impl_logOK
namespace impl_StateOK
abbrev R:=Bool
noncomputable def m (N:Nat) (a0:State):Option R:=
 ob (impl_within.m N a0.Term (0:Int) (1000000:Int)) fun y1=>
 bif y1 then
  ob (impl_within.m N a0.Vote (-1:Int) (6:Int)) fun y2=>
  bif (bif true then y2 else false) then
   ob (impl_logOK.m N a0.Log a0.Term) fun y3=>
   some (bif true then y3 else false)
  else
  some false
 else
 some false
@[reducible] noncomputable def sp (N:Nat):Spec E:=⟨[.val (.st 92)],[.bool],true,false,R,fun x=>m N x.1,fun r=>(r,()),fun r=>((),()),fun a b=>a.1,fun _ _=>rfl,fun _ _=>rfl⟩
end impl_StateOK
namespace impl_reachOK
abbrev R:=Bool
noncomputable def step4 (N:Nat) (a0:List Int) (a1:List Int) (a2:Int) (rec:(Int×Int)→Option R):(Int×Int)→Option R
 | (v3,v4)=>
  bif (decide (v4<v3)) then
   bif (decide (0≤v4)) then
   bif (decide (v4<(a0.length:Int))) then
   ob (impl_within.m N (a0.getD (Int.toNat v4) (0:Int)) (1:Int) (w64 (a2+(1:Int)))) fun y1=>
   bif (!y1) then
    some false
   else
   bif (decide (0≤v4)) then
   bif (decide (v4<(a1.length:Int))) then
   bif (decide (0≤v4)) then
   bif (decide (v4<(a0.length:Int))) then
   ob (impl_within.m N (a1.getD (Int.toNat v4) (0:Int)) (0:Int) (w64 ((a0.getD (Int.toNat v4) (0:Int)) - (1:Int)))) fun y2=>
   bif (bif false then true else (!y2)) then
    some false
   else
   rec (v3,(w64 (v4+(1:Int))))
   else none
   else none
   else none
   else none
   else none
   else none
  else
  some true
noncomputable def lp4 (N:Nat) (a0:List Int) (a1:List Int) (a2:Int):(Int×Int)→Option R:=
 miter (fun rec=>step4 N a0 a1 a2 rec) N
noncomputable def m0 (N:Nat) (a0:List Int) (a1:List Int) (a2:Int) (lp4:Int×Int→Option R):Option R:=
 bif ((a0.length:Int) != (7:Int)) then
  some false
 else
 bif (bif false then true else ((a1.length:Int) != (7:Int))) then
  some false
 else
 lp4 ((a0.length:Int),(0:Int))
@[reducible] noncomputable def m (N:Nat) (a0:List Int) (a1:List Int) (a2:Int):Option R:=m0 N a0 a1 a2 (lp4 N a0 a1 a2)
@[reducible] noncomputable def sp (N:Nat):Spec E:=⟨[.val (.slice 3 (.int .i64)),.val (.slice 3 (.int .i64)),.val (.int .i64)],[.bool],true,false,R,fun x=>m N x.1 x.2.1 x.2.2.1,fun r=>(r,()),fun r=>((),(),(),()),fun a b=>a.1,fun _ _=>rfl,fun _ _=>rfl⟩
end impl_reachOK
namespace impl_NodeOK
abbrev R:=Bool
noncomputable def m (N:Nat) (a0:Node):Option R:=
 ob (impl_isNumber.m N a0.Id) fun y1=>
 bif (!y1) then
  some false
 else
 ob (impl_StateOK.m N (State.mk a0.Term a0.Vote a0.Log)) fun y2=>
 bif (bif false then true else (!y2)) then
  some false
 else
 ob (impl_membersOK.m N a0.Start) fun y3=>
 bif (bif false then true else (!y3)) then
  some false
 else
 ob (impl_areNumbers.m N a0.Votes) fun y4=>
 bif (bif false then true else (!y4)) then
  some false
 else
 ob (impl_areRising.m N a0.Votes) fun y5=>
 bif (bif false then true else (!y5)) then
  some false
 else
 ob (impl_within.m N a0.Role (0:Int) (2:Int)) fun y6=>
 bif (!y6) then
  some false
 else
 bif (!a0.Up) then
  bif (bif false then true else (bif true then (a0.Role != (0:Int)) else false)) then
   some false
  else
  ob (impl_reachOK.m N a0.Next a0.Match (a0.Log.length:Int)) fun y7=>
  bif (bif false then true else (!y7)) then
   some false
  else
  ob (impl_within.m N a0.Commit (0:Int) (a0.Log.length:Int)) fun y8=>
  bif y8 then
   ob (impl_within.m N a0.Elapsed (0:Int) (1000:Int)) fun y9=>
   bif (bif true then y9 else false) then
    ob (impl_within.m N a0.Wait (5:Int) (100:Int)) fun y10=>
    some (bif true then y10 else false)
   else
   some false
  else
  some false
 else
 bif (bif false then true else false) then
  some false
 else
 ob (impl_reachOK.m N a0.Next a0.Match (a0.Log.length:Int)) fun y11=>
 bif (bif false then true else (!y11)) then
  some false
 else
 ob (impl_within.m N a0.Commit (0:Int) (a0.Log.length:Int)) fun y12=>
 bif y12 then
  ob (impl_within.m N a0.Elapsed (0:Int) (1000:Int)) fun y13=>
  bif (bif true then y13 else false) then
   ob (impl_within.m N a0.Wait (5:Int) (100:Int)) fun y14=>
   some (bif true then y14 else false)
  else
  some false
 else
 some false
@[reducible] noncomputable def sp (N:Nat):Spec E:=⟨[.val (.st 39)],[.bool],true,false,R,fun x=>m N x.1,fun r=>(r,()),fun r=>((),()),fun a b=>a.1,fun _ _=>rfl,fun _ _=>rfl⟩
end impl_NodeOK
namespace impl_Message_entriesOK
abbrev R:=Bool
noncomputable def step3 (N:Nat) (a0:Message) (rec:(Int×Int×Int)→Option R):(Int×Int×Int)→Option R
 | (v0,v2,v3)=>
  bif (decide (v3<v2)) then
   bif (decide (0≤v3)) then
   bif (decide (v3<(a0.Entries.length:Int))) then
   ob (impl_entryOK.m N (a0.Entries.getD (Int.toNat v3) Entry.dz)) fun y1=>
   bif (!y1) then
    some false
   else
   ob (impl_within.m N ((a0.Entries.getD (Int.toNat v3) Entry.dz).Term) v0 a0.Term) fun y2=>
   bif (bif false then true else (!y2)) then
    some false
   else
   rec ((a0.Entries.getD (Int.toNat v3) Entry.dz).Term,v2,(w64 (v3+(1:Int))))
   else none
   else none
  else
  bif (decide ((w64 (a0.Index+(a0.Entries.length:Int)))≤(60:Int))) then
   bif (decide (a0.Index > (0:Int))) then
    some (bif true then true else false)
   else
   some (bif true then (bif false then true else (a0.LogTerm==(0:Int))) else false)
  else
  some false
noncomputable def lp3 (N:Nat) (a0:Message):(Int×Int×Int)→Option R:=
 miter (fun rec=>step3 N a0 rec) N
noncomputable def m0 (N:Nat) (a0:Message) (lp3:Int×Int×Int→Option R):Option R:=
 lp3 (a0.LogTerm,(a0.Entries.length:Int),(0:Int))
@[reducible] noncomputable def m (N:Nat) (a0:Message):Option R:=m0 N a0 (lp3 N a0)
@[reducible] noncomputable def sp (N:Nat):Spec E:=⟨[.val (.st 74)],[.bool],true,false,R,fun x=>m N x.1,fun r=>(r,()),fun r=>((),()),fun a b=>a.1,fun _ _=>rfl,fun _ _=>rfl⟩
end impl_Message_entriesOK
namespace impl_messageOK
abbrev R:=Bool
noncomputable def m (N:Nat) (a0:Message):Option R:=
 ob (impl_within.m N a0.Kind (1:Int) (4:Int)) fun y1=>
 bif (!y1) then
  some false
 else
 ob (impl_isNumber.m N a0.From) fun y2=>
 bif (bif false then true else (!y2)) then
  some false
 else
 ob (impl_isNumber.m N a0.To) fun y3=>
 bif (bif false then true else (!y3)) then
  some false
 else
 bif (bif false then true else (a0.From==a0.To)) then
  some false
 else
 ob (impl_within.m N a0.Term (1:Int) (1000000:Int)) fun y4=>
 bif (bif false then true else (!y4)) then
  some false
 else
 ob (impl_within.m N a0.LogTerm (0:Int) a0.Term) fun y5=>
 bif (!y5) then
  some false
 else
 ob (impl_within.m N a0.Index (0:Int) (60:Int)) fun y6=>
 bif (bif false then true else (!y6)) then
  some false
 else
 ob (impl_within.m N a0.Commit (0:Int) (60:Int)) fun y7=>
 bif (bif false then true else (!y7)) then
  some false
 else
 bif (a0.Kind != (3:Int)) then
  some ((a0.Entries.length:Int)==(0:Int))
 else
 bif (decide ((a0.Entries.length:Int)≤(60:Int))) then
  ob (impl_Message_entriesOK.m N a0) fun y8=>
  some (bif true then y8 else false)
 else
 some false
@[reducible] noncomputable def sp (N:Nat):Spec E:=⟨[.val (.st 74)],[.bool],true,false,R,fun x=>m N x.1,fun r=>(r,()),fun r=>((),()),fun a b=>a.1,fun _ _=>rfl,fun _ _=>rfl⟩
end impl_messageOK
namespace impl_Node_follow_
abbrev R:=worker
noncomputable def m (N:Nat) (a0:worker):Option R:=
 ob (slices_Repeat_int_int.m N ([(1:Int)]) (7:Int)) fun y1=>
 bif (decide (0≤(7:Int))) then
 bif (room 7 8) then
 some (worker.mk (Node.mk a0.Node.Id a0.Node.Term a0.Node.Vote a0.Node.Log a0.Node.Start (0:Int) ([]:List Int) y1 (List.replicate 7 (0:Int)) a0.Node.Commit a0.Node.Elapsed a0.Node.Wait a0.Node.Up) a0.sent)
 else none
 else none
@[reducible] noncomputable def sp (N:Nat):Spec E:=⟨[.box false 119 119],[],true,false,R,fun x=>m N x.1,fun r=>(),fun r=>(r,()),fun a b=>b.1,fun _ _=>rfl,fun _ _=>rfl⟩
end impl_Node_follow_
namespace impl_Node_termAt
abbrev R:=Int
noncomputable def m (N:Nat) (a0:Node) (a1:Int):Option R:=
 bif (a1==(0:Int)) then
  some (0:Int)
 else
 bif (decide (0≤(w64 (a1 - (1:Int))))) then
 bif (decide ((w64 (a1 - (1:Int)))<(a0.Log.length:Int))) then
 some ((a0.Log.getD (Int.toNat (w64 (a1 - (1:Int)))) Entry.dz).Term)
 else none
 else none
@[reducible] noncomputable def sp (N:Nat):Spec E:=⟨[.val (.st 39),.val (.int .i64)],[(.int .i64)],true,false,R,fun x=>m N x.1 x.2.1,fun r=>(r,()),fun r=>((),(),()),fun a b=>a.1,fun _ _=>rfl,fun _ _=>rfl⟩
end impl_Node_termAt
end Mir.Y
