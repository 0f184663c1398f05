/- Models of functions. -/
import Derived.Test.YtcgniikapdcfmaaRCE
namespace Mir.Y
set_option linter.unusedVariables false
set_option maxRecDepth 10000
open Go Go.Proofs Mir
namespace spec_l00Source
abbrev R:=l00Src
noncomputable def m (N:Nat) (a0:List Int):Option R:=
 bif (!decide ((1000:Int)=0)) then
 some (l00Src.mk a0 (0:Int) (Int.tmod (a0.length:Int) (1000:Int)))
 else none
@[reducible] noncomputable def sp (N:Nat):Spec E:=⟨[.val (.slice 5 (.int .u8))],[(.pbx 46 46)],true,false,R,fun x=>m N x.1,fun r=>(r,()),fun r=>((),()),fun a b=>a.1,fun _ _=>rfl,fun _ _=>rfl⟩
end spec_l00Source
namespace spec_l00Src_byte_
abbrev R:=Int×l00Src
noncomputable def m (N:Nat) (a0:l00Src):Option R:=
 bif (decide ((w64 (a0.«at» + (1:Int)))≤(a0.code.length:Int))) then
  bif (decide (0≤(w64 ((w64 (a0.«at» + (1:Int))) - (1:Int))))) then
  bif (decide ((w64 ((w64 (a0.«at» + (1:Int))) - (1:Int)))<(a0.code.length:Int))) then
  bif (!decide ((2147483648:Int)=0)) then
  (let w1:Int:=(Int.tmod (w64 ((w64 ((w64 (a0.seed * (31:Int)))+(w64 (a0.code.getD (Int.toNat (w64 ((w64 (a0.«at» + (1:Int))) - (1:Int)))) (0:Int)))))+(7:Int))) (2147483648:Int))
  bif (decide (0≤(w64 ((w64 (a0.«at» + (1:Int))) - (1:Int))))) then
  bif (decide ((w64 ((w64 (a0.«at» + (1:Int))) - (1:Int)))<(a0.code.length:Int))) then
  some ((w64 (a0.code.getD (Int.toNat (w64 ((w64 (a0.«at» + (1:Int))) - (1:Int)))) (0:Int))),(l00Src.mk a0.code (w64 (a0.«at» + (1:Int))) w1))
  else none
  else none)
  else none
  else none
  else none
 else
 bif (decide ((w64 (a0.«at» + (1:Int))) > (3000:Int))) then
  some ((0:Int),(l00Src.mk a0.code (w64 (a0.«at» + (1:Int))) a0.seed))
 else
 bif (!decide ((2147483648:Int)=0)) then
 bif (!decide ((65536:Int)=0)) then
 bif (!decide ((256:Int)=0)) then
 some ((Int.tmod (w64 (Int.tdiv (Int.tmod (w64 ((w64 (a0.seed * (1103515245:Int)))+(12345:Int))) (2147483648:Int)) (65536:Int))) (256:Int)),(l00Src.mk a0.code (w64 (a0.«at» + (1:Int))) (Int.tmod (w64 ((w64 (a0.seed * (1103515245:Int)))+(12345:Int))) (2147483648:Int))))
 else none
 else none
 else none
@[reducible] noncomputable def sp (N:Nat):Spec E:=⟨[.box false 46 46],[(.int .i64)],true,false,R,fun x=>m N x.1,fun r=>(r.1,()),fun r=>(r.2,()),fun a b=>(a.1,b.1),fun _ _=>rfl,fun _ _=>rfl⟩
end spec_l00Src_byte_
namespace spec_l00Src_next_
abbrev R:=Int×l00Src
noncomputable def m (N:Nat) (a0:l00Src) (a1:Int):Option R:=
 bif (decide (a1≤(1:Int))) then
  some ((0:Int),a0)
 else
 bif (decide (a1≤(256:Int))) then
  ob (spec_l00Src_byte_.m N a0) fun y1=>
  bif (!decide (a1=0)) then
  some ((Int.tmod y1.1 a1),y1.2)
  else none
 else
 ob (spec_l00Src_byte_.m N a0) fun y2=>
 ob (spec_l00Src_byte_.m N y2.2) fun y3=>
 ob (spec_l00Src_byte_.m N y3.2) fun y4=>
 bif (!decide (a1=0)) then
 some ((Int.tmod (w64 ((w64 ((w64 (y2.1 * (65536:Int)))+(w64 (y3.1 * (256:Int)))))+y4.1)) a1),y4.2)
 else none
@[reducible] noncomputable def sp (N:Nat):Spec E:=⟨[.box false 46 46,.val (.int .i64)],[(.int .i64)],true,false,R,fun x=>m N x.1 x.2.1,fun r=>(r.1,()),fun r=>(r.2,(),()),fun a b=>(a.1,b.1),fun _ _=>rfl,fun _ _=>rfl⟩
end spec_l00Src_next_
namespace spec_l00Src_chance_
abbrev R:=Bool×l00Src
noncomputable def m (N:Nat) (a0:l00Src) (a1:Int):Option R:=
 ob (spec_l00Src_next_.m N a0 a1) fun y1=>
 some ((y1.1==(w64 (a1 - (1:Int)))),y1.2)
@[reducible] noncomputable def sp (N:Nat):Spec E:=⟨[.box false 46 46,.val (.int .i64)],[.bool],true,false,R,fun x=>m N x.1 x.2.1,fun r=>(r.1,()),fun r=>(r.2,(),()),fun a b=>(a.1,b.1),fun _ _=>rfl,fun _ _=>rfl⟩
end spec_l00Src_chance_
namespace spec_l00Src_elected
abbrev R:=(List GroupAct)×l00Src
noncomputable def step3 (N:Nat) (a0:l00Src) (a1:Int) (lp7:Int×(List Int)×Int×Int×(List GroupAct)→Option R) (rec:(Int×(List Int)×Int×Int×(List GroupAct))→Option R):(Int×(List Int)×Int×Int×(List GroupAct))→Option R
 | (v1,v2,v3,v4,v5)=>
  bif (decide (v1<(13:Int))) then
   ob (spec_l00Src_next_.m N (l00Src.mk v2 v3 v4) (4:Int)) fun y1=>
   bif (room (v5.length+([(GroupAct.mk (1:Int) a1 y1.1 ByteArray.empty)]).length) 40) then
   rec ((w64 (v1+(1:Int))),y1.2.code,y1.2.«at»,y1.2.seed,(v5++[(GroupAct.mk (1:Int) a1 y1.1 ByteArray.empty)]))
   else none
  else
  ob (spec_l00Src_next_.m N (l00Src.mk v2 v3 v4) (12:Int)) fun y2=>
  lp7 ((w64 ((4:Int)+y2.1)),y2.2.code,y2.2.«at»,y2.2.seed,v5)
noncomputable def step7 (N:Nat) (a0:l00Src) (a1:Int) (rec:(Int×(List Int)×Int×Int×(List GroupAct))→Option R):(Int×(List Int)×Int×Int×(List GroupAct))→Option R
 | (v0,v1,v2,v3,v4)=>
  bif (decide (v0 > (0:Int))) then
   bif (room (v4.length+([(GroupAct.mk (2:Int) (0:Int) (0:Int) ByteArray.empty)]).length) 40) then
   rec ((w64 (v0 - (1:Int))),v1,v2,v3,(v4++[(GroupAct.mk (2:Int) (0:Int) (0:Int) ByteArray.empty)]))
   else none
  else
  some (v4,(l00Src.mk v1 v2 v3))
noncomputable def lp7 (N:Nat) (a0:l00Src) (a1:Int):(Int×(List Int)×Int×Int×(List GroupAct))→Option R:=
 miter (fun rec=>step7 N a0 a1 rec) N
noncomputable def lp3 (N:Nat) (a0:l00Src) (a1:Int):(Int×(List Int)×Int×Int×(List GroupAct))→Option R:=
 miter (fun rec=>step3 N a0 a1 (lp7 N a0 a1) rec) N
noncomputable def m0 (N:Nat) (a0:l00Src) (a1:Int) (lp3:Int×(List Int)×Int×Int×(List GroupAct)→Option R):Option R:=
 lp3 ((0:Int),a0.code,a0.«at»,a0.seed,([]:List GroupAct))
@[reducible] noncomputable def m (N:Nat) (a0:l00Src) (a1:Int):Option R:=m0 N a0 a1 (lp3 N a0 a1)
@[reducible] noncomputable def sp (N:Nat):Spec E:=⟨[.box false 46 46,.val (.int .i64)],[(.slice 84 (.st 84))],true,false,R,fun x=>m N x.1 x.2.1,fun r=>(r.1,()),fun r=>(r.2,(),()),fun a b=>(a.1,b.1),fun _ _=>rfl,fun _ _=>rfl⟩
end spec_l00Src_elected
namespace spec_l00Src_size
abbrev R:=Int
noncomputable def m (N:Nat) (a0:l00Src) (a1:Int):Option R:=
 bif (!decide ((12:Int)=0)) then
 (let w1:Int:=(if a1<(w64 ((1:Int)+(w64 (Int.tdiv (a0.code.length:Int) (12:Int))))) then a1 else (w64 ((1:Int)+(w64 (Int.tdiv (a0.code.length:Int) (12:Int))))))
 some w1)
 else none
@[reducible] noncomputable def sp (N:Nat):Spec E:=⟨[.cap (.rb (.st 46)),.val (.int .i64)],[(.int .i64)],true,false,R,fun x=>m N x.1 x.2.1,fun r=>(r,()),fun r=>((),(),()),fun a b=>a.1,fun _ _=>rfl,fun _ _=>rfl⟩
end spec_l00Src_size
namespace spec_l00Src_pick_
abbrev R:=ByteArray×l00Src
noncomputable def m (N:Nat) (a0:l00Src) (a1:List ByteArray):Option R:=
 bif ((a1.length:Int)==(0:Int)) then
  some (ByteArray.empty,a0)
 else
 ob (spec_l00Src_next_.m N a0 (a1.length:Int)) fun y1=>
 bif (decide (0≤y1.1)) then
 bif (decide (y1.1<(a1.length:Int))) then
 some ((a1.getD (Int.toNat y1.1) ByteArray.empty),y1.2)
 else none
 else none
@[reducible] noncomputable def sp (N:Nat):Spec E:=⟨[.box false 46 46,.val (.slice 9 .str)],[.str],true,false,R,fun x=>m N x.1 x.2.1,fun r=>(r.1,()),fun r=>(r.2,(),()),fun a b=>(a.1,b.1),fun _ _=>rfl,fun _ _=>rfl⟩
end spec_l00Src_pick_
namespace spec_l00Src_key
abbrev R:=ByteArray×l00Src
noncomputable def m (N:Nat) (a0:l00Src):Option R:=
 (let w1:List ByteArray:=[(⟨#[97]⟩:ByteArray),(⟨#[98]⟩:ByteArray),(⟨#[99]⟩:ByteArray),(⟨#[97,108,112,104,97]⟩:ByteArray),(⟨#[98,101,116,97]⟩:ByteArray)]
 ob (spec_l00Src_pick_.m N a0 w1) fun y2=>
 some (y2.1,y2.2))
@[reducible] noncomputable def sp (N:Nat):Spec E:=⟨[.box false 46 46],[.str],true,false,R,fun x=>m N x.1,fun r=>(r.1,()),fun r=>(r.2,()),fun a b=>(a.1,b.1),fun _ _=>rfl,fun _ _=>rfl⟩
end spec_l00Src_key
namespace spec_l00Src_datum
abbrev R:=ByteArray×l00Src
noncomputable def m (N:Nat) (a0:l00Src):Option R:=
 (let w1:List ByteArray:=[ByteArray.empty,(⟨#[49]⟩:ByteArray),(⟨#[50]⟩:ByteArray),(⟨#[120]⟩:ByteArray),(⟨#[108,111,110,103,101,114,32,118,97,108,117,101]⟩:ByteArray)]
 ob (spec_l00Src_pick_.m N a0 w1) fun y2=>
 some (y2.1,y2.2))
@[reducible] noncomputable def sp (N:Nat):Spec E:=⟨[.box false 46 46],[.str],true,false,R,fun x=>m N x.1,fun r=>(r.1,()),fun r=>(r.2,()),fun a b=>(a.1,b.1),fun _ _=>rfl,fun _ _=>rfl⟩
end spec_l00Src_datum
namespace spec_l00Src_command
abbrev R:=Command×l00Src
noncomputable def m (N:Nat) (a0:l00Src):Option R:=
 ob (spec_l00Src_next_.m N a0 (5:Int)) fun y1=>
 bif (decide (0≤y1.1)) then
 bif (decide (y1.1<(([(1:Int),(1:Int),(2:Int),(2:Int),(3:Int)]).length:Int))) then
 ob (spec_l00Src_next_.m N y1.2 (3:Int)) fun y2=>
 ob (spec_l00Src_next_.m N y2.2 (5:Int)) fun y3=>
 ob (spec_l00Src_key.m N y3.2) fun y4=>
 ob (spec_l00Src_datum.m N y4.2) fun y5=>
 bif ((([(1:Int),(1:Int),(2:Int),(2:Int),(3:Int)]).getD (Int.toNat y1.1) (0:Int))==(3:Int)) then
  ob (spec_l00Src_chance_.m N y5.2 (4:Int)) fun y6=>
  bif y6.1 then
   ob (spec_l00Src_next_.m N y6.2 (2:Int)) fun y7=>
   ob (spec_l00Src_next_.m N y7.2 (3:Int)) fun y8=>
   some ((Command.mk (w64 ((4:Int)+y7.1)) (w64 ((1:Int)+y8.1)) (0:Int) ByteArray.empty ByteArray.empty),y8.2)
  else
  some ((Command.mk (([(1:Int),(1:Int),(2:Int),(2:Int),(3:Int)]).getD (Int.toNat y1.1) (0:Int)) (w64 ((1:Int)+y2.1)) (w64 ((1:Int)+y3.1)) y4.1 ByteArray.empty),y6.2)
 else
 ob (spec_l00Src_chance_.m N y5.2 (4:Int)) fun y9=>
 bif y9.1 then
  ob (spec_l00Src_next_.m N y9.2 (2:Int)) fun y10=>
  ob (spec_l00Src_next_.m N y10.2 (3:Int)) fun y11=>
  some ((Command.mk (w64 ((4:Int)+y10.1)) (w64 ((1:Int)+y11.1)) (0:Int) ByteArray.empty ByteArray.empty),y11.2)
 else
 some ((Command.mk (([(1:Int),(1:Int),(2:Int),(2:Int),(3:Int)]).getD (Int.toNat y1.1) (0:Int)) (w64 ((1:Int)+y2.1)) (w64 ((1:Int)+y3.1)) y4.1 y5.1),y9.2)
 else none
 else none
@[reducible] noncomputable def sp (N:Nat):Spec E:=⟨[.box false 46 46],[(.st 102)],true,false,R,fun x=>m N x.1,fun r=>(r.1,()),fun r=>(r.2,()),fun a b=>(a.1,b.1),fun _ _=>rfl,fun _ _=>rfl⟩
end spec_l00Src_command
namespace spec_l02Two
abbrev R:=(List Int)
noncomputable def m (N:Nat) (a0:Int):Option R:=
 bif (!decide ((256:Int)=0)) then
 some ([(wu8 (w64 (Int.tdiv a0 (256:Int)))),(wu8 a0)])
 else none
@[reducible] noncomputable def sp (N:Nat):Spec E:=⟨[.val (.int .i64)],[(.slice 5 (.int .u8))],true,false,R,fun x=>m N x.1,fun r=>(r,()),fun r=>((),()),fun a b=>a.1,fun _ _=>rfl,fun _ _=>rfl⟩
end spec_l02Two
namespace spec_l02Bytes
abbrev R:=(List Int)
noncomputable def m (N:Nat) (a0:Command):Option R:=
 ob (spec_l02Two.m N a0.Session) fun y1=>
 bif (room (([(wu8 a0.Kind)]).length+y1.length) 1) then
 ob (spec_l02Two.m N a0.Seq) fun y2=>
 bif (room (([(wu8 a0.Kind)]++y1).length+y2.length) 1) then
 bif (room ((([(wu8 a0.Kind)]++y1)++y2).length+([(wu8 (a0.Key.size:Int))]).length) 1) then
 bif (room (((([(wu8 a0.Kind)]++y1)++y2)++[(wu8 (a0.Key.size:Int))]).length+(bytesOf a0.Key).length) 1) then
 bif (room ((((([(wu8 a0.Kind)]++y1)++y2)++[(wu8 (a0.Key.size:Int))])++(bytesOf a0.Key)).length+([(wu8 (a0.Value.size:Int))]).length) 1) then
 bif (room (((((([(wu8 a0.Kind)]++y1)++y2)++[(wu8 (a0.Key.size:Int))])++(bytesOf a0.Key))++[(wu8 (a0.Value.size:Int))]).length+(bytesOf a0.Value).length) 1) then
 (let w3:List Int:=(((((([(wu8 a0.Kind)]++y1)++y2)++[(wu8 (a0.Key.size:Int))])++(bytesOf a0.Key))++[(wu8 (a0.Value.size:Int))])++(bytesOf a0.Value))
 some w3)
 else none
 else none
 else none
 else none
 else none
 else none
@[reducible] noncomputable def sp (N:Nat):Spec E:=⟨[.val (.st 102)],[(.slice 5 (.int .u8))],true,false,R,fun x=>m N x.1,fun r=>(r,()),fun r=>((),()),fun a b=>a.1,fun _ _=>rfl,fun _ _=>rfl⟩
end spec_l02Bytes
namespace spec_l00Src_groupAct
abbrev R:=GroupAct×l00Src
noncomputable def m (N:Nat) (a0:l00Src) (a1:Int):Option R:=
 ob (spec_l00Src_next_.m N a0 (4:Int)) fun y1=>
 ob (spec_l00Src_next_.m N y1.2 (12:Int)) fun y2=>
 ob (spec_l00Src_next_.m N y2.2 (5:Int)) fun y3=>
 bif (decide (0≤y3.1)) then
 bif (decide (y3.1<(([(0:Int),(0:Int),(0:Int),y1.1,y2.1]).length:Int))) then
 ob (spec_l00Src_next_.m N y3.2 (16:Int)) fun y4=>
 bif (y4.1==(0:Int)) then
  ob (spec_l00Src_next_.m N y4.2 a1) fun y5=>
  ob (spec_l00Src_next_.m N y5.2 (8:Int)) fun y6=>
  some ((GroupAct.mk (1:Int) y5.1 y6.1 ByteArray.empty),y6.2)
 else
 bif (y4.1==(1:Int)) then
  ob (spec_l00Src_next_.m N y4.2 a1) fun y7=>
  ob (spec_l00Src_next_.m N y7.2 (8:Int)) fun y8=>
  some ((GroupAct.mk (1:Int) y7.1 y8.1 ByteArray.empty),y8.2)
 else
 bif (y4.1==(2:Int)) then
  ob (spec_l00Src_next_.m N y4.2 a1) fun y9=>
  ob (spec_l00Src_next_.m N y9.2 (8:Int)) fun y10=>
  some ((GroupAct.mk (1:Int) y9.1 y10.1 ByteArray.empty),y10.2)
 else
 bif (y4.1==(3:Int)) then
  ob (spec_l00Src_next_.m N y4.2 (2:Int)) fun y11=>
  bif (decide (0≤y11.1)) then
  bif (decide (y11.1<(([(3:Int),(4:Int)]).length:Int))) then
  ob (spec_l00Src_next_.m N y11.2 (5:Int)) fun y12=>
  some ((GroupAct.mk (([(3:Int),(4:Int)]).getD (Int.toNat y11.1) (0:Int)) y12.1 (0:Int) ByteArray.empty),y12.2)
  else none
  else none
 else
 bif (y4.1==(4:Int)) then
  ob (spec_l00Src_next_.m N y4.2 a1) fun y13=>
  ob (spec_l00Src_command.m N y13.2) fun y14=>
  ob (spec_l02Bytes.m N y14.1) fun y15=>
  some ((GroupAct.mk (5:Int) y13.1 (0:Int) (strOf y15)),y14.2)
 else
 bif (y4.1==(5:Int)) then
  ob (spec_l00Src_next_.m N y4.2 a1) fun y16=>
  ob (spec_l00Src_command.m N y16.2) fun y17=>
  ob (spec_l02Bytes.m N y17.1) fun y18=>
  some ((GroupAct.mk (5:Int) y16.1 (0:Int) (strOf y18)),y17.2)
 else
 bif (y4.1==(6:Int)) then
  ob (spec_l00Src_chance_.m N y4.2 (2:Int)) fun y19=>
  bif y19.1 then
   ob (spec_l00Src_next_.m N y19.2 (2:Int)) fun y20=>
   bif (decide (0≤y20.1)) then
   bif (decide (y20.1<(([(7:Int),(8:Int)]).length:Int))) then
   ob (spec_l00Src_next_.m N y20.2 a1) fun y21=>
   some ((GroupAct.mk (([(7:Int),(8:Int)]).getD (Int.toNat y20.1) (0:Int)) y21.1 (0:Int) ByteArray.empty),y21.2)
   else none
   else none
  else
  some ((GroupAct.mk (2:Int) (([(0:Int),(0:Int),(0:Int),y1.1,y2.1]).getD (Int.toNat y3.1) (0:Int)) (0:Int) ByteArray.empty),y19.2)
 else
 bif (y4.1==(7:Int)) then
  ob (spec_l00Src_chance_.m N y4.2 (2:Int)) fun y22=>
  bif y22.1 then
   ob (spec_l00Src_next_.m N y22.2 a1) fun y23=>
   ob (spec_l00Src_pick_.m N y23.2 ([(⟨#[0,1]⟩:ByteArray),(⟨#[0,1,2]⟩:ByteArray),(⟨#[0,1,2,3]⟩:ByteArray),(⟨#[1,2]⟩:ByteArray),(⟨#[0,2,3]⟩:ByteArray)])) fun y24=>
   some ((GroupAct.mk (6:Int) y23.1 (0:Int) y24.1),y24.2)
  else
  some ((GroupAct.mk (2:Int) (([(0:Int),(0:Int),(0:Int),y1.1,y2.1]).getD (Int.toNat y3.1) (0:Int)) (0:Int) ByteArray.empty),y22.2)
 else
 some ((GroupAct.mk (2:Int) (([(0:Int),(0:Int),(0:Int),y1.1,y2.1]).getD (Int.toNat y3.1) (0:Int)) (0:Int) ByteArray.empty),y4.2)
 else none
 else none
@[reducible] noncomputable def sp (N:Nat):Spec E:=⟨[.box false 46 46,.val (.int .i64)],[(.st 84)],true,false,R,fun x=>m N x.1 x.2.1,fun r=>(r.1,()),fun r=>(r.2,(),()),fun a b=>(a.1,b.1),fun _ _=>rfl,fun _ _=>rfl⟩
end spec_l00Src_groupAct
namespace spec_l00Src_groupActs
abbrev R:=(List GroupAct)×l00Src
noncomputable def step5 (N:Nat) (a0:l00Src) (a1:Int) (rec:(Int×(List Int)×Int×Int×(List GroupAct))→Option R):(Int×(List Int)×Int×Int×(List GroupAct))→Option R
 | (v1,v2,v3,v4,v5)=>
  bif (decide (v1 > (0:Int))) then
   bif (bif true then (decide ((v5.length:Int)<(230:Int))) else false) then
    ob (spec_l00Src_groupAct.m N (l00Src.mk v2 v3 v4) a1) fun y8=>
    bif (room (v5.length+([y8.1]).length) 40) then
    ob (spec_l00Src_chance_.m N y8.2 (30:Int)) fun y9=>
    bif y9.1 then
     ob (spec_l00Src_next_.m N y9.2 a1) fun y10=>
     ob (spec_l00Src_elected.m N y10.2 y10.1) fun y11=>
     bif (room ((v5++[y8.1]).length+y11.1.length) 40) then
     rec ((w64 (v1 - (1:Int))),y11.2.code,y11.2.«at»,y11.2.seed,((v5++[y8.1])++y11.1))
     else none
    else
    rec ((w64 (v1 - (1:Int))),y9.2.code,y9.2.«at»,y9.2.seed,(v5++[y8.1]))
    else none
   else
   some (v5,(l00Src.mk v2 v3 v4))
  else
  some (v5,(l00Src.mk v2 v3 v4))
noncomputable def lp5 (N:Nat) (a0:l00Src) (a1:Int):(Int×(List Int)×Int×Int×(List GroupAct))→Option R:=
 miter (fun rec=>step5 N a0 a1 rec) N
noncomputable def m0 (N:Nat) (a0:l00Src) (a1:Int) (lp5:Int×(List Int)×Int×Int×(List GroupAct)→Option R):Option R:=
 ob (spec_l00Src_chance_.m N a0 (5:Int)) fun y1=>
 bif (!y1.1) then
  ob (spec_l00Src_next_.m N y1.2 a1) fun y2=>
  ob (spec_l00Src_elected.m N y2.2 y2.1) fun y3=>
  ob (spec_l00Src_size.m N y3.2 (60:Int)) fun y4=>
  ob (spec_l00Src_next_.m N y3.2 (w64 (y4+(8:Int)))) fun y5=>
  lp5 (y5.1,y5.2.code,y5.2.«at»,y5.2.seed,y3.1)
 else
 ob (spec_l00Src_size.m N y1.2 (60:Int)) fun y6=>
 ob (spec_l00Src_next_.m N y1.2 (w64 (y6+(8:Int)))) fun y7=>
 lp5 (y7.1,y7.2.code,y7.2.«at»,y7.2.seed,([]:List GroupAct))
@[reducible] noncomputable def m (N:Nat) (a0:l00Src) (a1:Int):Option R:=m0 N a0 a1 (lp5 N a0 a1)
@[reducible] noncomputable def sp (N:Nat):Spec E:=⟨[.box false 46 46,.val (.int .i64)],[(.slice 84 (.st 84))],true,false,R,fun x=>m N x.1 x.2.1,fun r=>(r.1,()),fun r=>(r.2,(),()),fun a b=>(a.1,b.1),fun _ _=>rfl,fun _ _=>rfl⟩
end spec_l00Src_groupActs
namespace spec_l01In
abbrev R:=Bool
noncomputable def m (N:Nat) (a0:Int) (a1:Int) (a2:Int):Option R:=
 bif (decide (a0≥a1)) then
  some (bif true then (decide (a0≤a2)) else false)
 else
 some false
@[reducible] noncomputable def sp (N:Nat):Spec E:=⟨[.val (.int .i64),.val (.int .i64),.val (.int .i64)],[.bool],true,false,R,fun x=>m N x.1 x.2.1 x.2.2.1,fun r=>(r,()),fun r=>((),(),(),()),fun a b=>a.1,fun _ _=>rfl,fun _ _=>rfl⟩
end spec_l01In
namespace spec_l10New
abbrev R:=Node
inductive A3 where
 | s0 (v0:Int) (v1:Int) (v2:Int) (v3:Int) (v4:Int) (v5:Int) (v6:Int) (v7:Int) (v9:Int) (v10:Int) (v11:Int) (v12:Int) (v13:Int) (v14:Int) (v15:List Entry) (v16:List Int) (v17:List Int) (v18:List Int)
 | s1 (v0:Int) (v1:Int) (v2:Int) (v3:Int) (v4:Int) (v5:Int) (v6:Int) (v7:Int) (v9:Int) (v10:Int) (v11:Int) (v12:Int) (v13:Int) (v14:Int) (v15:List Entry) (v16:List Int) (v17:List Int) (v18:List Int) (v19:List Int)
noncomputable def step3 (N:Nat) (a0:Int) (a1:List Int) (rec:A3→Option R):A3→Option R
 | .s0 v0 v1 v2 v3 v4 v5 v6 v7 v9 v10 v11 v12 v13 v14 v15 v16 v17 v18=>
  bif (decide (v0<(7:Int))) then
   bif (room ([(1:Int)]).length 8) then
   rec (.s1 (w64 (v0+(1:Int))) v1 v2 v3 v4 v5 v6 v7 v9 v10 v11 v12 v13 v14 v15 v16 v17 ([(1:Int)]) v18)
   else none
  else
  some (Node.mk a0 v9 v10 v15 v16 v11 v17 ([]:List Int) v18 v12 v13 v14 true)
 | .s1 v0 v1 v2 v3 v4 v5 v6 v7 v9 v10 v11 v12 v13 v14 v15 v16 v17 v18 v19=>
  bif (decide (v0<(7:Int))) then
   bif (room (v18.length+([(1:Int)]).length) 8) then
   rec (.s1 (w64 (v0+(1:Int))) v1 v2 v3 v4 v5 v6 v7 v9 v10 v11 v12 v13 v14 v15 v16 v17 (v18++[(1:Int)]) v19)
   else none
  else
  some (Node.mk a0 v9 v10 v15 v16 v11 v17 v18 v19 v12 v13 v14 true)
noncomputable def lp3 (N:Nat) (a0:Int) (a1:List Int):A3→Option R:=
 miter (fun rec=>step3 N a0 a1 rec) N
noncomputable def m0 (N:Nat) (a0:Int) (a1:List Int) (lp3:A3→Option R):Option R:=
 bif (room (([]:List Int).length+a1.length) 8) then
 bif (decide (0≤(7:Int))) then
 bif (room 7 8) then
 lp3 (.s0 (0:Int) (0:Int) (0:Int) (0:Int) (0:Int) (0:Int) (0:Int) (0:Int) (0:Int) (-1:Int) (0:Int) (0:Int) (0:Int) (w64 ((5:Int)+a0)) ([]:List Entry) (([]:List Int)++a1) ([]:List Int) (List.replicate 7 (0:Int)))
 else none
 else none
 else none
@[reducible] noncomputable def m (N:Nat) (a0:Int) (a1:List Int):Option R:=m0 N a0 a1 (lp3 N a0 a1)
@[reducible] noncomputable def sp (N:Nat):Spec E:=⟨[.val (.int .i64),.val (.slice 3 (.int .i64))],[(.st 26)],true,false,R,fun x=>m N x.1 x.2.1,fun r=>(r,()),fun r=>((),(),()),fun a b=>a.1,fun _ _=>rfl,fun _ _=>rfl⟩
end spec_l10New
namespace spec_l11New
abbrev R:=Group
inductive A8 where
 | s0 (v1:Int) (v2:List Int) (v3:List Message) (v4:List Lead) (v5:List Done)
 | s1 (v1:Int) (v2:List Int) (v3:List Node) (v4:List Message) (v5:List Lead) (v6:List Done)
noncomputable def step3 (N:Nat) (a0:Int) (lp8:A8→Option R) (rec:(Int×(List Int))→Option R):(Int×(List Int))→Option R
 | (v1,v2)=>
  bif (decide (v1<(if (3:Int)<a0 then (3:Int) else a0))) then
   bif (room (v2.length+([v1]).length) 8) then
   rec ((w64 (v1+(1:Int))),(v2++[v1]))
   else none
  else
  lp8 (.s0 (0:Int) v2 ([]:List Message) ([]:List Lead) ([]:List Done))
noncomputable def step8 (N:Nat) (a0:Int) (rec:A8→Option R):A8→Option R
 | .s0 v1 v2 v3 v4 v5=>
  bif (decide (v1<a0)) then
   ob (spec_l10New.m N v1 v2) fun y1=>
   bif (room ([y1]).length 184) then
   rec (.s1 (w64 (v1+(1:Int))) v2 ([y1]) v3 v4 v5)
   else none
  else
  some (Group.mk ([]:List Node) v3 v4 v5)
 | .s1 v1 v2 v3 v4 v5 v6=>
  bif (decide (v1<a0)) then
   ob (spec_l10New.m N v1 v2) fun y2=>
   bif (room (v3.length+([y2]).length) 184) then
   rec (.s1 (w64 (v1+(1:Int))) v2 (v3++[y2]) v4 v5 v6)
   else none
  else
  some (Group.mk v3 v4 v5 v6)
noncomputable def lp8 (N:Nat) (a0:Int):A8→Option R:=
 miter (fun rec=>step8 N a0 rec) N
noncomputable def lp3 (N:Nat) (a0:Int):(Int×(List Int))→Option R:=
 miter (fun rec=>step3 N a0 (lp8 N a0) rec) N
noncomputable def m0 (N:Nat) (a0:Int) (lp3:Int×(List Int)→Option R):Option R:=
 lp3 ((0:Int),([]:List Int))
@[reducible] noncomputable def m (N:Nat) (a0:Int):Option R:=m0 N a0 (lp3 N a0)
@[reducible] noncomputable def sp (N:Nat):Spec E:=⟨[.val (.int .i64)],[(.st 52)],true,false,R,fun x=>m N x.1,fun r=>(r,()),fun r=>((),()),fun a b=>a.1,fun _ _=>rfl,fun _ _=>rfl⟩
end spec_l11New
namespace spec_NewGroup
abbrev R:=Group×Int
noncomputable def m (N:Nat) (a0:Int):Option R:=
 ob (spec_l01In.m N a0 (1:Int) (5:Int)) fun y1=>
 bif (!y1) then
  some ((Group.mk ([]:List Node) ([]:List Message) ([]:List Lead) ([]:List Done)),(4:Int))
 else
 ob (spec_l11New.m N a0) fun y2=>
 some (y2,(0:Int))
@[reducible] noncomputable def sp (N:Nat):Spec E:=⟨[.val (.int .i64)],[(.st 52),(.int .i64)],true,false,R,fun x=>m N x.1,fun r=>(r.1,r.2,()),fun r=>((),()),fun a b=>(a.1,a.2.1),fun _ _=>rfl,fun _ _=>rfl⟩
end spec_NewGroup
namespace spec_l10Own
abbrev R:=Node
noncomputable def m (N:Nat) (a0:Node):Option R:=
 bif (room (([]:List Entry).length+a0.Log.length) 32) then
 bif (room (([]:List Int).length+a0.Start.length) 8) then
 bif (room (([]:List Int).length+a0.Votes.length) 8) then
 bif (room (([]:List Int).length+a0.Next.length) 8) then
 bif (room (([]:List Int).length+a0.Match.length) 8) then
 some (Node.mk a0.Id a0.Term a0.Vote (([]:List Entry)++a0.Log) (([]:List Int)++a0.Start) a0.Role (([]:List Int)++a0.Votes) (([]:List Int)++a0.Next) (([]:List Int)++a0.Match) a0.Commit a0.Elapsed a0.Wait a0.Up)
 else none
 else none
 else none
 else none
 else none
@[reducible] noncomputable def sp (N:Nat):Spec E:=⟨[.val (.st 26)],[(.st 26)],true,false,R,fun x=>m N x.1,fun r=>(r,()),fun r=>((),()),fun a b=>a.1,fun _ _=>rfl,fun _ _=>rfl⟩
end spec_l10Own
namespace spec_l10Down
abbrev R:=Node
noncomputable def step4 (N:Nat) (a0:Node) (rec:(Int×Int×(List Int)×(List Int)×(List Int)×Int×Int×Int×Int×Int×Int×Int)→Option R):(Int×Int×(List Int)×(List Int)×(List Int)×Int×Int×Int×Int×Int×Int×Int)→Option R
 | (v0,v4,v11,v12,v13,v14,v15,v16,v17,v18,v19,v20)=>
  bif (decide (v0<(7:Int))) then
   bif (decide (0≤v0)) then
   bif (decide (v0<(v12.length:Int))) then
   bif (decide (0≤v0)) then
   bif (decide (v0<(v13.length:Int))) then
   rec ((w64 (v0+(1:Int))),v4,v11,(v12.set (Int.toNat v0) (1:Int)),(v13.set (Int.toNat v0) (0:Int)),v14,v15,v16,v17,v18,v19,v20)
   else none
   else none
   else none
   else none
  else
  some (Node.mk a0.Id a0.Term a0.Vote a0.Log a0.Start v4 v11 v12 v13 a0.Commit a0.Elapsed a0.Wait a0.Up)
noncomputable def lp4 (N:Nat) (a0:Node):(Int×Int×(List Int)×(List Int)×(List Int)×Int×Int×Int×Int×Int×Int×Int)→Option R:=
 miter (fun rec=>step4 N a0 rec) N
noncomputable def m0 (N:Nat) (a0:Node) (lp4:Int×Int×(List Int)×(List Int)×(List Int)×Int×Int×Int×Int×Int×Int×Int→Option R):Option R:=
 lp4 ((0:Int),(0:Int),([]:List Int),a0.Next,a0.Match,(0:Int),(0:Int),(0:Int),(0:Int),(0:Int),(0:Int),(0:Int))
@[reducible] noncomputable def m (N:Nat) (a0:Node):Option R:=m0 N a0 (lp4 N a0)
@[reducible] noncomputable def sp (N:Nat):Spec E:=⟨[.mov false (.st 26)],[(.st 26)],true,false,R,fun x=>m N x.1,fun r=>(r,()),fun r=>((),()),fun a b=>a.1,fun _ _=>rfl,fun _ _=>rfl⟩
end spec_l10Down
namespace spec_l10Term
abbrev R:=Int
noncomputable def m (N:Nat) (a0:Node) (a1:Int):Option R:=
 bif (a1==(0:Int)) then
  some (0:Int)
 else
 bif (decide (0≤(w64 (a1 - (1:Int))))) then
 bif (decide ((w64 (a1 - (1:Int)))<(a0.Log.length:Int))) then
 some ((a0.Log.getD (Int.toNat (w64 (a1 - (1:Int)))) Entry.dz).Term)
 else none
 else none
@[reducible] noncomputable def sp (N:Nat):Spec E:=⟨[.val (.st 26),.val (.int .i64)],[(.int .i64)],true,false,R,fun x=>m N x.1 x.2.1,fun r=>(r,()),fun r=>((),(),()),fun a b=>a.1,fun _ _=>rfl,fun _ _=>rfl⟩
end spec_l10Term
namespace spec_l10UpToDate
abbrev R:=Bool
noncomputable def m (N:Nat) (a0:Node) (a1:Int) (a2:Int):Option R:=
 ob (spec_l10Term.m N a0 (a0.Log.length:Int)) fun y1=>
 bif (decide (a2 > y1)) then
  some true
 else
 bif (a2==y1) then
  some (bif false then true else (bif true then (decide (a1≥(a0.Log.length:Int))) else false))
 else
 some (bif false then true else false)
@[reducible] noncomputable def sp (N:Nat):Spec E:=⟨[.val (.st 26),.val (.int .i64),.val (.int .i64)],[.bool],true,false,R,fun x=>m N x.1 x.2.1 x.2.2.1,fun r=>(r,()),fun r=>((),(),(),()),fun a b=>a.1,fun _ _=>rfl,fun _ _=>rfl⟩
end spec_l10UpToDate
namespace spec_l10Vote
abbrev R:=Node×(List Message)
noncomputable def m (N:Nat) (a0:Node) (a1:Message):Option R:=
 bif (a1.Term==a0.Term) then
  bif (a0.Vote==(-1:Int)) then
   bif (bif true then true else false) then
    ob (spec_l10UpToDate.m N a0 a1.Index a1.LogTerm) fun y1=>
    bif (bif true then y1 else false) then
     some ((Node.mk a0.Id a0.Term a1.From a0.Log a0.Start a0.Role a0.Votes a0.Next a0.Match a0.Commit (0:Int) a0.Wait a0.Up),[(Message.mk (2:Int) a0.Id a1.From a0.Term (0:Int) (0:Int) (0:Int) ([]:List Entry) (bif true then y1 else false))])
    else
    some (a0,[(Message.mk (2:Int) a0.Id a1.From a0.Term (0:Int) (0:Int) (0:Int) ([]:List Entry) (bif true then y1 else false))])
   else
   some (a0,[(Message.mk (2:Int) a0.Id a1.From a0.Term (0:Int) (0:Int) (0:Int) ([]:List Entry) false)])
  else
  bif (bif true then (bif false then true else (a0.Vote==a1.From)) else false) then
   ob (spec_l10UpToDate.m N a0 a1.Index a1.LogTerm) fun y2=>
   bif (bif true then y2 else false) then
    some ((Node.mk a0.Id a0.Term a1.From a0.Log a0.Start a0.Role a0.Votes a0.Next a0.Match a0.Commit (0:Int) a0.Wait a0.Up),[(Message.mk (2:Int) a0.Id a1.From a0.Term (0:Int) (0:Int) (0:Int) ([]:List Entry) (bif true then y2 else false))])
   else
   some (a0,[(Message.mk (2:Int) a0.Id a1.From a0.Term (0:Int) (0:Int) (0:Int) ([]:List Entry) (bif true then y2 else false))])
  else
  some (a0,[(Message.mk (2:Int) a0.Id a1.From a0.Term (0:Int) (0:Int) (0:Int) ([]:List Entry) false)])
 else
 some (a0,[(Message.mk (2:Int) a0.Id a1.From a0.Term (0:Int) (0:Int) (0:Int) ([]:List Entry) false)])
@[reducible] noncomputable def sp (N:Nat):Spec E:=⟨[.val (.st 26),.val (.st 97)],[(.st 26),(.slice 97 (.st 97))],false,false,R,fun x=>m N x.1 x.2.1,fun r=>(r.1,r.2,()),fun r=>((),(),()),fun a b=>(a.1,a.2.1),fun _ _=>rfl,fun _ _=>rfl⟩
end spec_l10Vote
namespace spec_l10Has
abbrev R:=Bool
noncomputable def step2 (N:Nat) (a0:List Int) (a1:Int) (rec:Int→Option R):Int→Option R
 | v2=>
  bif (decide (v2<(a0.length:Int))) then
   bif (decide (0≤v2)) then
   bif (decide (v2<(a0.length:Int))) then
   bif ((a0.getD (Int.toNat v2) (0:Int))==a1) then
    some true
   else
   rec (w64 (v2+(1:Int)))
   else none
   else none
  else
  some false
noncomputable def lp2 (N:Nat) (a0:List Int) (a1:Int):Int→Option R:=
 miter (fun rec=>step2 N a0 a1 rec) N
noncomputable def m0 (N:Nat) (a0:List Int) (a1:Int) (lp2:Int→Option R):Option R:=
 lp2 (0:Int)
@[reducible] noncomputable def m (N:Nat) (a0:List Int) (a1:Int):Option R:=m0 N a0 a1 (lp2 N a0 a1)
@[reducible] noncomputable def sp (N:Nat):Spec E:=⟨[.val (.slice 3 (.int .i64)),.val (.int .i64)],[.bool],true,false,R,fun x=>m N x.1 x.2.1,fun r=>(r,()),fun r=>((),(),()),fun a b=>a.1,fun _ _=>rfl,fun _ _=>rfl⟩
end spec_l10Has
namespace spec_l02Members
abbrev R:=(List Int)×Bool
noncomputable def step3 (N:Nat) (a0:ByteArray) (rec:(Int×(List Int))→Option R):(Int×(List Int))→Option R
 | (v1,v2)=>
  bif (decide (v1<(a0.size:Int))) then
   bif (decide (0≤v1)) then
   bif (decide (v1<(a0.size:Int))) then
   ob (spec_l01In.m N (w64 (sb a0 v1)) (0:Int) (6:Int)) fun y1=>
   bif (!y1) then
    some (([]:List Int),false)
   else
   bif (decide (v1 > (0:Int))) then
    bif (decide (0≤(w64 (v1 - (1:Int))))) then
    bif (decide ((w64 (v1 - (1:Int)))<(a0.size:Int))) then
    bif (decide (0≤v1)) then
    bif (decide (v1<(a0.size:Int))) then
    bif (bif false then true else (bif true then (decide ((sb a0 (w64 (v1 - (1:Int))))≥(sb a0 v1))) else false)) then
     some (([]:List Int),false)
    else
    bif (decide (0≤v1)) then
    bif (decide (v1<(a0.size:Int))) then
    bif (room (v2.length+([(w64 (sb a0 v1))]).length) 8) then
    rec ((w64 (v1+(1:Int))),(v2++[(w64 (sb a0 v1))]))
    else none
    else none
    else none
    else none
    else none
    else none
    else none
   else
   bif (bif false then true else false) then
    some (([]:List Int),false)
   else
   bif (decide (0≤v1)) then
   bif (decide (v1<(a0.size:Int))) then
   bif (room (v2.length+([(w64 (sb a0 v1))]).length) 8) then
   rec ((w64 (v1+(1:Int))),(v2++[(w64 (sb a0 v1))]))
   else none
   else none
   else none
   else none
   else none
  else
  some (v2,(decide ((v2.length:Int) > (0:Int))))
noncomputable def lp3 (N:Nat) (a0:ByteArray):(Int×(List Int))→Option R:=
 miter (fun rec=>step3 N a0 rec) N
noncomputable def m0 (N:Nat) (a0:ByteArray) (lp3:Int×(List Int)→Option R):Option R:=
 lp3 ((0:Int),([]:List Int))
@[reducible] noncomputable def m (N:Nat) (a0:ByteArray):Option R:=m0 N a0 (lp3 N a0)
@[reducible] noncomputable def sp (N:Nat):Spec E:=⟨[.val .str],[(.slice 3 (.int .i64)),.bool],true,false,R,fun x=>m N x.1,fun r=>(r.1,r.2,()),fun r=>((),()),fun a b=>(a.1,a.2.1),fun _ _=>rfl,fun _ _=>rfl⟩
end spec_l02Members
namespace spec_l10Members
abbrev R:=(List Int)×Node
noncomputable def step2 (N:Nat) (a0:Node) (rec:Int→Option R):Int→Option R
 | v9=>
  bif (decide (v9≥(0:Int))) then
   bif (decide (0≤v9)) then
   bif (decide (v9<(a0.Log.length:Int))) then
   bif ((a0.Log.getD (Int.toNat v9) Entry.dz).Kind==(2:Int)) then
    bif (decide (0≤v9)) then
    bif (decide (v9<(a0.Log.length:Int))) then
    ob (spec_l02Members.m N ((a0.Log.getD (Int.toNat v9) Entry.dz).Data)) fun y1=>
    some (y1.1,a0)
    else none
    else none
   else
   rec (w64 (v9 - (1:Int)))
   else none
   else none
  else
  some (a0.Start,a0)
noncomputable def lp2 (N:Nat) (a0:Node):Int→Option R:=
 miter (fun rec=>step2 N a0 rec) N
noncomputable def m0 (N:Nat) (a0:Node) (lp2:Int→Option R):Option R:=
 lp2 (w64 ((a0.Log.length:Int) - (1:Int)))
@[reducible] noncomputable def m (N:Nat) (a0:Node):Option R:=m0 N a0 (lp2 N a0)
@[reducible] noncomputable def sp (N:Nat):Spec E:=⟨[.mut false (.st 25)],[(.slice 3 (.int .i64))],false,false,R,fun x=>m N x.1,fun r=>(r.1,()),fun r=>(r.2,()),fun a b=>(a.1,b.1),fun _ _=>rfl,fun _ _=>rfl⟩
end spec_l10Members
namespace spec_l01Bit
abbrev R:=Int
noncomputable def m (N:Nat) (a0:Bool):Option R:=
 bif a0 then
  some (1:Int)
 else
 some (0:Int)
@[reducible] noncomputable def sp (N:Nat):Spec E:=⟨[.val .bool],[(.int .i64)],true,false,R,fun x=>m N x.1,fun r=>(r,()),fun r=>((),()),fun a b=>a.1,fun _ _=>rfl,fun _ _=>rfl⟩
end spec_l01Bit
namespace spec_l10Most
abbrev R:=Bool
noncomputable def step3 (N:Nat) (a0:List Int) (a1:List Int) (rec:(Int×Int)→Option R):(Int×Int)→Option R
 | (v2,v3)=>
  bif (decide (v3<(a1.length:Int))) then
   bif (decide (0≤v3)) then
   bif (decide (v3<(a1.length:Int))) then
   ob (spec_l10Has.m N a0 (a1.getD (Int.toNat v3) (0:Int))) fun y1=>
   ob (spec_l01Bit.m N y1) fun y2=>
   rec ((w64 (v2+y2)),(w64 (v3+(1:Int))))
   else none
   else none
  else
  some (decide ((w64 ((2:Int) * v2)) > (a1.length:Int)))
noncomputable def lp3 (N:Nat) (a0:List Int) (a1:List Int):(Int×Int)→Option R:=
 miter (fun rec=>step3 N a0 a1 rec) N
noncomputable def m0 (N:Nat) (a0:List Int) (a1:List Int) (lp3:Int×Int→Option R):Option R:=
 lp3 ((0:Int),(0:Int))
@[reducible] noncomputable def m (N:Nat) (a0:List Int) (a1:List Int):Option R:=m0 N a0 a1 (lp3 N a0 a1)
@[reducible] noncomputable def sp (N:Nat):Spec E:=⟨[.val (.slice 3 (.int .i64)),.val (.slice 3 (.int .i64))],[.bool],true,false,R,fun x=>m N x.1 x.2.1,fun r=>(r,()),fun r=>((),(),()),fun a b=>a.1,fun _ _=>rfl,fun _ _=>rfl⟩
end spec_l10Most
namespace spec_l10Members_
abbrev R:=(List Int)
noncomputable def step2 (N:Nat) (a0:Node) (rec:Int→Option R):Int→Option R
 | v0=>
  bif (decide (v0≥(0:Int))) then
   bif (decide (0≤v0)) then
   bif (decide (v0<(a0.Log.length:Int))) then
   bif ((a0.Log.getD (Int.toNat v0) Entry.dz).Kind==(2:Int)) then
    bif (decide (0≤v0)) then
    bif (decide (v0<(a0.Log.length:Int))) then
    ob (spec_l02Members.m N ((a0.Log.getD (Int.toNat v0) Entry.dz).Data)) fun y1=>
    some y1.1
    else none
    else none
   else
   rec (w64 (v0 - (1:Int)))
   else none
   else none
  else
  some a0.Start
noncomputable def lp2 (N:Nat) (a0:Node):Int→Option R:=
 miter (fun rec=>step2 N a0 rec) N
noncomputable def m0 (N:Nat) (a0:Node) (lp2:Int→Option R):Option R:=
 lp2 (w64 ((a0.Log.length:Int) - (1:Int)))
@[reducible] noncomputable def m (N:Nat) (a0:Node):Option R:=m0 N a0 (lp2 N a0)
@[reducible] noncomputable def sp (N:Nat):Spec E:=⟨[.val (.st 26)],[(.slice 3 (.int .i64))],false,false,R,fun x=>m N x.1,fun r=>(r,()),fun r=>((),()),fun a b=>a.1,fun _ _=>rfl,fun _ _=>rfl⟩
end spec_l10Members_
namespace spec_l10Advance
abbrev R:=Node
noncomputable def step3 (N:Nat) (a0:Node) (lp7:(List Int)×Int×Int×Int×Int×Int×(List Entry)×(List Int)×Int×(List Int)×(List Int)×(List Int)×Int×Int×Int×Bool×Int×Int×Int×Int×Int×Int×Int×(List Int)→Option R) (rec:((List Int)×Int×Int×Int×Int×(List Entry)×(List Int)×Int×(List Int)×(List Int)×(List Int)×Int×Int×Int×Bool×Int×Int×Int×Int×Int×Int×Int)→Option R):((List Int)×Int×Int×Int×Int×(List Entry)×(List Int)×Int×(List Int)×(List Int)×(List Int)×Int×Int×Int×Bool×Int×Int×Int×Int×Int×Int×Int)→Option R
 | (v0,v1,v2,v3,v4,v5,v6,v7,v8,v9,v10,v11,v12,v13,v14,v15,v16,v17,v18,v19,v20,v21)=>
  bif (decide (v1 > v11)) then
   bif (decide (0≤(w64 (v1 - (1:Int))))) then
   bif (decide ((w64 (v1 - (1:Int)))<(v5.length:Int))) then
   bif (bif true then ((v5.getD (Int.toNat (w64 (v1 - (1:Int)))) Entry.dz).Term==v3) else false) then
    lp7 (v0,v1,(0:Int),v2,v3,v4,v5,v6,v7,v8,v9,v10,v11,v12,v13,v14,v15,v16,v17,v18,v19,v20,v21,[v2])
   else
   some (Node.mk v2 v3 v4 v5 v6 v7 v8 v9 v10 v11 v12 v13 v14)
   else none
   else none
  else
  some (Node.mk v2 v3 v4 v5 v6 v7 v8 v9 v10 v11 v12 v13 v14)
noncomputable def step7 (N:Nat) (a0:Node) (lp3:(List Int)×Int×Int×Int×Int×(List Entry)×(List Int)×Int×(List Int)×(List Int)×(List Int)×Int×Int×Int×Bool×Int×Int×Int×Int×Int×Int×Int→Option R) (rec:((List Int)×Int×Int×Int×Int×Int×(List Entry)×(List Int)×Int×(List Int)×(List Int)×(List Int)×Int×Int×Int×Bool×Int×Int×Int×Int×Int×Int×Int×(List Int))→Option R):((List Int)×Int×Int×Int×Int×Int×(List Entry)×(List Int)×Int×(List Int)×(List Int)×(List Int)×Int×Int×Int×Bool×Int×Int×Int×Int×Int×Int×Int×(List Int))→Option R
 | (v0,v1,v2,v3,v4,v5,v6,v7,v8,v9,v10,v11,v12,v13,v14,v15,v16,v17,v18,v19,v20,v21,v22,v23)=>
  bif (decide (v2<(7:Int))) then
   bif (decide (0≤v2)) then
   bif (decide (v2<(v11.length:Int))) then
   bif (decide ((v11.getD (Int.toNat v2) (0:Int))≥v1)) then
    bif (bif true then (v2 != v3) else false) then
     bif (room (v23.length+([v2]).length) 8) then
     rec (v0,v1,(w64 (v2+(1:Int))),v3,v4,v5,v6,v7,v8,v9,v10,v11,v12,v13,v14,v15,v16,v17,v18,v19,v20,v21,v22,(v23++[v2]))
     else none
    else
    rec (v0,v1,(w64 (v2+(1:Int))),v3,v4,v5,v6,v7,v8,v9,v10,v11,v12,v13,v14,v15,v16,v17,v18,v19,v20,v21,v22,v23)
   else
   rec (v0,v1,(w64 (v2+(1:Int))),v3,v4,v5,v6,v7,v8,v9,v10,v11,v12,v13,v14,v15,v16,v17,v18,v19,v20,v21,v22,v23)
   else none
   else none
  else
  ob (spec_l10Most.m N v23 v0) fun y2=>
  bif y2 then
   some (Node.mk v3 v4 v5 v6 v7 v8 v9 v10 v11 v1 v13 v14 v15)
  else
  lp3 (v0,(w64 (v1 - (1:Int))),v3,v4,v5,v6,v7,v8,v9,v10,v11,v12,v13,v14,v15,v16,v17,v18,v19,v20,v21,v22)
noncomputable def lp7 (N:Nat) (a0:Node) (r3:(List Int)×Int×Int×Int×Int×(List Entry)×(List Int)×Int×(List Int)×(List Int)×(List Int)×Int×Int×Int×Bool×Int×Int×Int×Int×Int×Int×Int→Option R):((List Int)×Int×Int×Int×Int×Int×(List Entry)×(List Int)×Int×(List Int)×(List Int)×(List Int)×Int×Int×Int×Bool×Int×Int×Int×Int×Int×Int×Int×(List Int))→Option R:=
 miter (fun rec=>step7 N a0 r3 rec) N
noncomputable def lp3 (N:Nat) (a0:Node):((List Int)×Int×Int×Int×Int×(List Entry)×(List Int)×Int×(List Int)×(List Int)×(List Int)×Int×Int×Int×Bool×Int×Int×Int×Int×Int×Int×Int)→Option R:=
 miter (fun rec=>step3 N a0 (lp7 N a0 rec) rec) N
noncomputable def m0 (N:Nat) (a0:Node) (lp3:(List Int)×Int×Int×Int×Int×(List Entry)×(List Int)×Int×(List Int)×(List Int)×(List Int)×Int×Int×Int×Bool×Int×Int×Int×Int×Int×Int×Int→Option R):Option R:=
 ob (spec_l10Members_.m N a0) fun y1=>
 lp3 (y1,(a0.Log.length:Int),a0.Id,a0.Term,a0.Vote,a0.Log,a0.Start,a0.Role,a0.Votes,a0.Next,a0.Match,a0.Commit,a0.Elapsed,a0.Wait,a0.Up,(0:Int),(0:Int),(0:Int),(0:Int),(0:Int),(0:Int),(0:Int))
@[reducible] noncomputable def m (N:Nat) (a0:Node):Option R:=m0 N a0 (lp3 N a0)
@[reducible] noncomputable def sp (N:Nat):Spec E:=⟨[.val (.st 26)],[(.st 26)],false,false,R,fun x=>m N x.1,fun r=>(r,()),fun r=>((),()),fun a b=>a.1,fun _ _=>rfl,fun _ _=>rfl⟩
end spec_l10Advance
namespace spec_l10Append
abbrev R:=Message
noncomputable def m (N:Nat) (a0:Node) (a1:Int):Option R:=
 bif (decide (0≤a1)) then
 bif (decide (a1<(a0.Next.length:Int))) then
 ob (spec_l10Term.m N a0 (w64 ((a0.Next.getD (Int.toNat a1) (0:Int)) - (1:Int)))) fun y1=>
 bif (decide (0≤(w64 ((a0.Next.getD (Int.toNat a1) (0:Int)) - (1:Int))))) then
 bif (decide ((w64 ((a0.Next.getD (Int.toNat a1) (0:Int)) - (1:Int)))≤((a0.Log.length:Nat):Int))) then
 bif (room (([]:List Entry).length+(a0.Log.drop (Int.toNat (w64 ((a0.Next.getD (Int.toNat a1) (0:Int)) - (1:Int))))).length) 32) then
 some (Message.mk (3:Int) a0.Id a1 a0.Term (w64 ((a0.Next.getD (Int.toNat a1) (0:Int)) - (1:Int))) y1 a0.Commit (([]:List Entry)++(a0.Log.drop (Int.toNat (w64 ((a0.Next.getD (Int.toNat a1) (0:Int)) - (1:Int)))))) false)
 else none
 else none
 else none
 else none
 else none
@[reducible] noncomputable def sp (N:Nat):Spec E:=⟨[.val (.st 26),.val (.int .i64)],[(.st 97)],true,false,R,fun x=>m N x.1 x.2.1,fun r=>(r,()),fun r=>((),(),()),fun a b=>a.1,fun _ _=>rfl,fun _ _=>rfl⟩
end spec_l10Append
namespace spec_l10Tell
abbrev R:=(List Message)
noncomputable def step4 (N:Nat) (a0:Node) (rec:((List Int)×Int×(List Message))→Option R):((List Int)×Int×(List Message))→Option R
 | (v0,v1,v15)=>
  bif (decide (v1<(v0.length:Int))) then
   bif (decide (0≤v1)) then
   bif (decide (v1<(v0.length:Int))) then
   bif ((v0.getD (Int.toNat v1) (0:Int)) != a0.Id) then
    bif (decide (0≤v1)) then
    bif (decide (v1<(v0.length:Int))) then
    ob (spec_l10Append.m N a0 (v0.getD (Int.toNat v1) (0:Int))) fun y2=>
    bif (room (v15.length+([y2]).length) 88) then
    rec (v0,(w64 (v1+(1:Int))),(v15++[y2]))
    else none
    else none
    else none
   else
   rec (v0,(w64 (v1+(1:Int))),v15)
   else none
   else none
  else
  some v15
noncomputable def lp4 (N:Nat) (a0:Node):((List Int)×Int×(List Message))→Option R:=
 miter (fun rec=>step4 N a0 rec) N
noncomputable def m0 (N:Nat) (a0:Node) (lp4:(List Int)×Int×(List Message)→Option R):Option R:=
 ob (spec_l10Members_.m N a0) fun y1=>
 lp4 (y1,(0:Int),([]:List Message))
@[reducible] noncomputable def m (N:Nat) (a0:Node):Option R:=m0 N a0 (lp4 N a0)
@[reducible] noncomputable def sp (N:Nat):Spec E:=⟨[.val (.st 26)],[(.slice 97 (.st 97))],true,false,R,fun x=>m N x.1,fun r=>(r,()),fun r=>((),()),fun a b=>a.1,fun _ _=>rfl,fun _ _=>rfl⟩
end spec_l10Tell
namespace spec_l10Lead
abbrev R:=Node×(List Message)
noncomputable def step4 (N:Nat) (a0:Node) (rec:(Int×Int×Int×(List Int)×(List Int)×Int×Int×Int×Int×Int×Int×Int)→Option R):(Int×Int×Int×(List Int)×(List Int)×Int×Int×Int×Int×Int×Int×Int)→Option R
 | (v0,v5,v7,v12,v13,v14,v15,v16,v17,v18,v19,v20)=>
  bif (decide (v0<(7:Int))) then
   bif (decide (0≤v0)) then
   bif (decide (v0<(v12.length:Int))) then
   bif (decide (0≤v0)) then
   bif (decide (v0<(v13.length:Int))) then
   rec ((w64 (v0+(1:Int))),v5,v7,(v12.set (Int.toNat v0) (w64 ((a0.Log.length:Int)+(1:Int)))),(v13.set (Int.toNat v0) (0:Int)),v14,v15,v16,v17,v18,v19,v20)
   else none
   else none
   else none
   else none
  else
  bif (decide ((a0.Log.length:Int)<(60:Int))) then
   bif (room (a0.Log.length+([(Entry.mk a0.Term (0:Int) ByteArray.empty)]).length) 32) then
   ob (spec_l10Advance.m N (Node.mk a0.Id a0.Term a0.Vote (a0.Log++[(Entry.mk a0.Term (0:Int) ByteArray.empty)]) a0.Start v5 a0.Votes v12 v13 a0.Commit v7 a0.Wait a0.Up)) fun y1=>
   ob (spec_l10Tell.m N (Node.mk a0.Id a0.Term a0.Vote (a0.Log++[(Entry.mk a0.Term (0:Int) ByteArray.empty)]) a0.Start v5 a0.Votes v12 v13 a0.Commit v7 a0.Wait a0.Up)) fun y2=>
   some (y1,y2)
   else none
  else
  ob (spec_l10Advance.m N (Node.mk a0.Id a0.Term a0.Vote a0.Log a0.Start v5 a0.Votes v12 v13 a0.Commit v7 a0.Wait a0.Up)) fun y3=>
  ob (spec_l10Tell.m N (Node.mk a0.Id a0.Term a0.Vote a0.Log a0.Start v5 a0.Votes v12 v13 a0.Commit v7 a0.Wait a0.Up)) fun y4=>
  some (y3,y4)
noncomputable def lp4 (N:Nat) (a0:Node):(Int×Int×Int×(List Int)×(List Int)×Int×Int×Int×Int×Int×Int×Int)→Option R:=
 miter (fun rec=>step4 N a0 rec) N
noncomputable def m0 (N:Nat) (a0:Node) (lp4:Int×Int×Int×(List Int)×(List Int)×Int×Int×Int×Int×Int×Int×Int→Option R):Option R:=
 lp4 ((0:Int),(2:Int),(0:Int),a0.Next,a0.Match,(0:Int),(0:Int),(0:Int),(0:Int),(0:Int),(0:Int),(0:Int))
@[reducible] noncomputable def m (N:Nat) (a0:Node):Option R:=m0 N a0 (lp4 N a0)
@[reducible] noncomputable def sp (N:Nat):Spec E:=⟨[.mov false (.st 25)],[(.st 26),(.slice 97 (.st 97))],false,false,R,fun x=>m N x.1,fun r=>(r.1,r.2,()),fun r=>((),()),fun a b=>(a.1,a.2.1),fun _ _=>rfl,fun _ _=>rfl⟩
end spec_l10Lead
namespace spec_l10Voted
abbrev R:=Node×(List Message)
noncomputable def step5 (N:Nat) (a0:Node) (a1:Message) (rec:(Int×Int×Int×Int×Int×Int×Int×Int)→Option R):(Int×Int×Int×Int×Int×Int×Int×Int)→Option R
 | (v0,v23,v24,v25,v26,v27,v28,v29)=>
  bif (decide (v0<(a0.Votes.length:Int))) then
   bif (decide (0≤v0)) then
   bif (decide (v0<(a0.Votes.length:Int))) then
   bif (bif true then (decide ((a0.Votes.getD (Int.toNat v0) (0:Int))<a1.From)) else false) then
    rec ((w64 (v0+(1:Int))),v23,v24,v25,v26,v27,v28,v29)
   else
   bif (decide (0≤v0)) then
   bif (decide (v0≤((a0.Votes.length:Nat):Int))) then
   bif (decide (0+((Int.toNat v0) - 0)≤a0.Votes.length)) then
   bif (room (([]:List Int).length+((a0.Votes.drop 0).take ((Int.toNat v0) - 0)).length) 8) then
   bif (room ((([]:List Int)++((a0.Votes.drop 0).take ((Int.toNat v0) - 0))).length+([a1.From]).length) 8) then
   bif (decide (0≤v0)) then
   bif (decide (v0≤(((a0.Votes.length):Nat):Int))) then
   bif (decide ((Int.toNat v0)+((a0.Votes.length) - (Int.toNat v0))≤a0.Votes.length)) then
   bif (room (((([]:List Int)++((a0.Votes.drop 0).take ((Int.toNat v0) - 0)))++[a1.From]).length+((a0.Votes.drop (Int.toNat v0)).take ((a0.Votes.length) - (Int.toNat v0))).length) 8) then
   (let w5:List Int:=(((([]:List Int)++((a0.Votes.drop 0).take ((Int.toNat v0) - 0)))++[a1.From])++((a0.Votes.drop (Int.toNat v0)).take ((a0.Votes.length) - (Int.toNat v0))))
   ob (spec_l10Members.m N (Node.mk a0.Id a0.Term a0.Vote a0.Log a0.Start a0.Role w5 a0.Next a0.Match a0.Commit a0.Elapsed a0.Wait a0.Up)) fun y6=>
   ob (spec_l10Most.m N y6.2.Votes y6.1) fun y7=>
   bif y7 then
    ob (spec_l10Lead.m N (Node.mk a0.Id a0.Term a0.Vote y6.2.Log a0.Start a0.Role y6.2.Votes y6.2.Next y6.2.Match a0.Commit a0.Elapsed a0.Wait a0.Up)) fun y8=>
    some (y8.1,y8.2)
   else
   some ((Node.mk a0.Id a0.Term a0.Vote y6.2.Log a0.Start a0.Role y6.2.Votes y6.2.Next y6.2.Match a0.Commit a0.Elapsed a0.Wait a0.Up),([]:List Message)))
   else none
   else none
   else none
   else none
   else none
   else none
   else none
   else none
   else none
   else none
   else none
  else
  bif (decide (0≤v0)) then
  bif (decide (v0≤((a0.Votes.length:Nat):Int))) then
  bif (decide (0+((Int.toNat v0) - 0)≤a0.Votes.length)) then
  bif (room (([]:List Int).length+((a0.Votes.drop 0).take ((Int.toNat v0) - 0)).length) 8) then
  bif (room ((([]:List Int)++((a0.Votes.drop 0).take ((Int.toNat v0) - 0))).length+([a1.From]).length) 8) then
  bif (decide (0≤v0)) then
  bif (decide (v0≤(((a0.Votes.length):Nat):Int))) then
  bif (decide ((Int.toNat v0)+((a0.Votes.length) - (Int.toNat v0))≤a0.Votes.length)) then
  bif (room (((([]:List Int)++((a0.Votes.drop 0).take ((Int.toNat v0) - 0)))++[a1.From]).length+((a0.Votes.drop (Int.toNat v0)).take ((a0.Votes.length) - (Int.toNat v0))).length) 8) then
  (let w9:List Int:=(((([]:List Int)++((a0.Votes.drop 0).take ((Int.toNat v0) - 0)))++[a1.From])++((a0.Votes.drop (Int.toNat v0)).take ((a0.Votes.length) - (Int.toNat v0))))
  ob (spec_l10Members.m N (Node.mk a0.Id a0.Term a0.Vote a0.Log a0.Start a0.Role w9 a0.Next a0.Match a0.Commit a0.Elapsed a0.Wait a0.Up)) fun y10=>
  ob (spec_l10Most.m N y10.2.Votes y10.1) fun y11=>
  bif y11 then
   ob (spec_l10Lead.m N (Node.mk a0.Id a0.Term a0.Vote y10.2.Log a0.Start a0.Role y10.2.Votes y10.2.Next y10.2.Match a0.Commit a0.Elapsed a0.Wait a0.Up)) fun y12=>
   some (y12.1,y12.2)
  else
  some ((Node.mk a0.Id a0.Term a0.Vote y10.2.Log a0.Start a0.Role y10.2.Votes y10.2.Next y10.2.Match a0.Commit a0.Elapsed a0.Wait a0.Up),([]:List Message)))
  else none
  else none
  else none
  else none
  else none
  else none
  else none
  else none
  else none
noncomputable def lp5 (N:Nat) (a0:Node) (a1:Message):(Int×Int×Int×Int×Int×Int×Int×Int)→Option R:=
 miter (fun rec=>step5 N a0 a1 rec) N
noncomputable def m0 (N:Nat) (a0:Node) (a1:Message) (lp5:Int×Int×Int×Int×Int×Int×Int×Int→Option R):Option R:=
 bif (a0.Role != (1:Int)) then
  some (a0,([]:List Message))
 else
 bif (bif false then true else (a1.Term != a0.Term)) then
  some (a0,([]:List Message))
 else
 bif (bif false then true else (!a1.Ok)) then
  some (a0,([]:List Message))
 else
 ob (spec_l10Has.m N a0.Votes a1.From) fun y1=>
 bif (!y1) then
  lp5 ((0:Int),(0:Int),(0:Int),(0:Int),(0:Int),(0:Int),(0:Int),(0:Int))
 else
 ob (spec_l10Members.m N a0) fun y2=>
 ob (spec_l10Most.m N y2.2.Votes y2.1) fun y3=>
 bif y3 then
  ob (spec_l10Lead.m N (Node.mk a0.Id a0.Term a0.Vote y2.2.Log a0.Start a0.Role y2.2.Votes y2.2.Next y2.2.Match a0.Commit a0.Elapsed a0.Wait a0.Up)) fun y4=>
  some (y4.1,y4.2)
 else
 some ((Node.mk a0.Id a0.Term a0.Vote y2.2.Log a0.Start a0.Role y2.2.Votes y2.2.Next y2.2.Match a0.Commit a0.Elapsed a0.Wait a0.Up),([]:List Message))
@[reducible] noncomputable def m (N:Nat) (a0:Node) (a1:Message):Option R:=m0 N a0 a1 (lp5 N a0 a1)
@[reducible] noncomputable def sp (N:Nat):Spec E:=⟨[.mov false (.st 25),.val (.st 97)],[(.st 26),(.slice 97 (.st 97))],false,false,R,fun x=>m N x.1 x.2.1,fun r=>(r.1,r.2,()),fun r=>((),(),()),fun a b=>(a.1,a.2.1),fun _ _=>rfl,fun _ _=>rfl⟩
end spec_l10Voted
namespace spec_l10Entries
abbrev R:=Node×(List Message)
noncomputable def step9 (N:Nat) (a0:Node) (a1:Message) (rec:(Int×Int×Int×Int×Int×Int×Int×Int×Bool×(List Entry)×(List Int)×(List Int)×(List Int)×(List Int)×Int×Int×Int×Int×Int×Int×Int)→Option R):(Int×Int×Int×Int×Int×Int×Int×Int×Bool×(List Entry)×(List Int)×(List Int)×(List Int)×(List Int)×Int×Int×Int×Int×Int×Int×Int)→Option R
 | (v0,v1,v2,v3,v4,v5,v6,v7,v8,v9,v10,v11,v12,v13,v23,v24,v25,v26,v27,v28,v29)=>
  bif (decide (v0<(a1.Entries.length:Int))) then
   bif (decide ((w64 (a1.Index+v0))<(v9.length:Int))) then
    bif (decide (0≤(w64 (a1.Index+v0)))) then
    bif (decide ((w64 (a1.Index+v0))<(v9.length:Int))) then
    bif (decide (0≤v0)) then
    bif (decide (v0<(a1.Entries.length:Int))) then
    bif (bif true then ((v9.getD (Int.toNat (w64 (a1.Index+v0))) Entry.dz).Term==(a1.Entries.getD (Int.toNat v0) Entry.dz).Term) else false) then
     rec ((w64 (v0+(1:Int))),v1,v2,v3,v4,v5,v6,v7,v8,v9,v10,v11,v12,v13,v23,v24,v25,v26,v27,v28,v29)
    else
    bif (decide (0≤(w64 (a1.Index+v0)))) then
    bif (decide ((w64 (a1.Index+v0))≤((v9.length:Nat):Int))) then
    bif (decide (0+((Int.toNat (w64 (a1.Index+v0))) - 0)≤v9.length)) then
    bif (room (([]:List Entry).length+((v9.drop 0).take ((Int.toNat (w64 (a1.Index+v0))) - 0)).length) 32) then
    bif (decide (0≤v0)) then
    bif (decide (v0≤((a1.Entries.length:Nat):Int))) then
    bif (room ((([]:List Entry)++((v9.drop 0).take ((Int.toNat (w64 (a1.Index+v0))) - 0))).length+(a1.Entries.drop (Int.toNat v0)).length) 32) then
    (let w4:Int:=(if v5<(if (w64 (a1.Index+(a1.Entries.length:Int)))<a1.Commit then (w64 (a1.Index+(a1.Entries.length:Int))) else a1.Commit) then (if (w64 (a1.Index+(a1.Entries.length:Int)))<a1.Commit then (w64 (a1.Index+(a1.Entries.length:Int))) else a1.Commit) else v5)
    some ((Node.mk v1 v2 v3 ((([]:List Entry)++((v9.drop 0).take ((Int.toNat (w64 (a1.Index+v0))) - 0)))++(a1.Entries.drop (Int.toNat v0))) v10 v4 v11 v12 v13 w4 v6 v7 v8),[(Message.mk (4:Int) v1 a1.From v2 (w64 (a1.Index+(a1.Entries.length:Int))) (0:Int) (0:Int) ([]:List Entry) true)]))
    else none
    else none
    else none
    else none
    else none
    else none
    else none
    else none
    else none
    else none
    else none
   else
   bif (decide (0≤(w64 (a1.Index+v0)))) then
   bif (decide ((w64 (a1.Index+v0))≤((v9.length:Nat):Int))) then
   bif (decide (0+((Int.toNat (w64 (a1.Index+v0))) - 0)≤v9.length)) then
   bif (room (([]:List Entry).length+((v9.drop 0).take ((Int.toNat (w64 (a1.Index+v0))) - 0)).length) 32) then
   bif (decide (0≤v0)) then
   bif (decide (v0≤((a1.Entries.length:Nat):Int))) then
   bif (room ((([]:List Entry)++((v9.drop 0).take ((Int.toNat (w64 (a1.Index+v0))) - 0))).length+(a1.Entries.drop (Int.toNat v0)).length) 32) then
   (let w5:Int:=(if v5<(if (w64 (a1.Index+(a1.Entries.length:Int)))<a1.Commit then (w64 (a1.Index+(a1.Entries.length:Int))) else a1.Commit) then (if (w64 (a1.Index+(a1.Entries.length:Int)))<a1.Commit then (w64 (a1.Index+(a1.Entries.length:Int))) else a1.Commit) else v5)
   some ((Node.mk v1 v2 v3 ((([]:List Entry)++((v9.drop 0).take ((Int.toNat (w64 (a1.Index+v0))) - 0)))++(a1.Entries.drop (Int.toNat v0))) v10 v4 v11 v12 v13 w5 v6 v7 v8),[(Message.mk (4:Int) v1 a1.From v2 (w64 (a1.Index+(a1.Entries.length:Int))) (0:Int) (0:Int) ([]:List Entry) true)]))
   else none
   else none
   else none
   else none
   else none
   else none
   else none
  else
  (let w6:Int:=(if v5<(if (w64 (a1.Index+(a1.Entries.length:Int)))<a1.Commit then (w64 (a1.Index+(a1.Entries.length:Int))) else a1.Commit) then (if (w64 (a1.Index+(a1.Entries.length:Int)))<a1.Commit then (w64 (a1.Index+(a1.Entries.length:Int))) else a1.Commit) else v5)
  some ((Node.mk v1 v2 v3 v9 v10 v4 v11 v12 v13 w6 v6 v7 v8),[(Message.mk (4:Int) v1 a1.From v2 (w64 (a1.Index+(a1.Entries.length:Int))) (0:Int) (0:Int) ([]:List Entry) true)]))
noncomputable def lp9 (N:Nat) (a0:Node) (a1:Message):(Int×Int×Int×Int×Int×Int×Int×Int×Bool×(List Entry)×(List Int)×(List Int)×(List Int)×(List Int)×Int×Int×Int×Int×Int×Int×Int)→Option R:=
 miter (fun rec=>step9 N a0 a1 rec) N
noncomputable def m0 (N:Nat) (a0:Node) (a1:Message) (lp9:Int×Int×Int×Int×Int×Int×Int×Int×Bool×(List Entry)×(List Int)×(List Int)×(List Int)×(List Int)×Int×Int×Int×Int×Int×Int×Int→Option R):Option R:=
 (let w1:Int:=(if (if (0:Int)<(w64 (a1.Index - (1:Int))) then (w64 (a1.Index - (1:Int))) else (0:Int))<(a0.Log.length:Int) then (if (0:Int)<(w64 (a1.Index - (1:Int))) then (w64 (a1.Index - (1:Int))) else (0:Int)) else (a0.Log.length:Int))
 bif (decide (a1.Term<a0.Term)) then
  some (a0,[(Message.mk (4:Int) a0.Id a1.From a0.Term w1 (0:Int) (0:Int) ([]:List Entry) false)])
 else
 ob (spec_l10Down.m N a0) fun y2=>
 bif (decide (a1.Index > (y2.Log.length:Int))) then
  some ((Node.mk y2.Id y2.Term y2.Vote y2.Log y2.Start y2.Role y2.Votes y2.Next y2.Match y2.Commit (0:Int) y2.Wait y2.Up),[(Message.mk (4:Int) a0.Id a1.From a0.Term w1 (0:Int) (0:Int) ([]:List Entry) false)])
 else
 ob (spec_l10Term.m N (Node.mk y2.Id y2.Term y2.Vote y2.Log y2.Start y2.Role y2.Votes y2.Next y2.Match y2.Commit (0:Int) y2.Wait y2.Up) a1.Index) fun y3=>
 bif (bif false then true else (y3 != a1.LogTerm)) then
  some ((Node.mk y2.Id y2.Term y2.Vote y2.Log y2.Start y2.Role y2.Votes y2.Next y2.Match y2.Commit (0:Int) y2.Wait y2.Up),[(Message.mk (4:Int) a0.Id a1.From a0.Term w1 (0:Int) (0:Int) ([]:List Entry) false)])
 else
 lp9 ((0:Int),y2.Id,y2.Term,y2.Vote,y2.Role,y2.Commit,(0:Int),y2.Wait,y2.Up,y2.Log,y2.Start,y2.Votes,y2.Next,y2.Match,(0:Int),(0:Int),(0:Int),(0:Int),(0:Int),(0:Int),(0:Int)))
@[reducible] noncomputable def m (N:Nat) (a0:Node) (a1:Message):Option R:=m0 N a0 a1 (lp9 N a0 a1)
@[reducible] noncomputable def sp (N:Nat):Spec E:=⟨[.mov false (.st 26),.val (.st 97)],[(.st 26),(.slice 97 (.st 97))],true,false,R,fun x=>m N x.1 x.2.1,fun r=>(r.1,r.2,()),fun r=>((),(),()),fun a b=>(a.1,a.2.1),fun _ _=>rfl,fun _ _=>rfl⟩
end spec_l10Entries
end Mir.Y
