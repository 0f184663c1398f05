/- Models of functions. -/
import Derived.Lib.Bytealg
import Derived.Test.YtmjmhkpkmejbnaaGreatEngD
import Derived.Test.YtmjmhkpkmejbnaaGreatQLE
namespace Mir.Y
set_option linter.unusedVariables false
set_option maxRecDepth 10000
open Go Go.Proofs Mir
set_option linter.unusedSectionVars false
variable [UU]
namespace spec_l00Source
abbrev R:=l00Src
noncomputable def m (N:Nat) (a0:List Int):Option R:=
  bif (!decide ((1000:Int)=0)) then
  some (l00Src.mk a0 (0:Int) (Int.tmod (a0.length:Int) (1000:Int)))
  else none
@[reducible] noncomputable def sp (N:Nat):Spec E:=⟨[.val (.slice 5 (.int .u8))],[(.pbx 84 84)],true,false,R,fun x=>m N x.1,fun r=>(r,()),fun r=>((),()),fun a b=>a.1,fun _ _=>rfl,fun _ _=>rfl⟩
end spec_l00Source
namespace spec_l00Src_size_
abbrev R:=Int
noncomputable def m (N:Nat) (a0:l00Src) (a1:Int):Option R:=
  bif (!decide ((12:Int)=0)) then
  (let w1:Int:=(if a1<(w64 ((1:Int)+(w64 (Int.tdiv (a0.code.length:Int) (12:Int))))) then a1 else (w64 ((1:Int)+(w64 (Int.tdiv (a0.code.length:Int) (12:Int))))))
  some w1)
  else none
@[reducible] noncomputable def sp (N:Nat):Spec E:=⟨[.cap (.rb (.st 84)),.val (.int .i64)],[(.int .i64)],true,false,R,fun x=>m N x.1 x.2.1,fun r=>(r,()),fun r=>((),(),()),fun a b=>a.1,fun _ _=>rfl,fun _ _=>rfl⟩
end spec_l00Src_size_
namespace spec_l00Src_byte_
abbrev R:=Int×l00Src
noncomputable def m (N:Nat) (a0:l00Src):Option R:=
  bif (decide ((w64 (a0.«at» + (1:Int)))≤(a0.code.length:Int))) then
    bif (decide (0≤(w64 ((w64 (a0.«at» + (1:Int))) - (1:Int))))) then
    bif (decide ((w64 ((w64 (a0.«at» + (1:Int))) - (1:Int)))<(a0.code.length:Int))) then
    bif (!decide ((2147483648:Int)=0)) then
    (let w1:Int:=(Int.tmod (w64 ((w64 ((w64 (a0.seed * (31:Int)))+(w64 (a0.code.getD (Int.toNat (w64 ((w64 (a0.«at» + (1:Int))) - (1:Int)))) (0:Int)))))+(7:Int))) (2147483648:Int))
    bif (decide (0≤(w64 ((w64 (a0.«at» + (1:Int))) - (1:Int))))) then
    bif (decide ((w64 ((w64 (a0.«at» + (1:Int))) - (1:Int)))<(a0.code.length:Int))) then
    some ((w64 (a0.code.getD (Int.toNat (w64 ((w64 (a0.«at» + (1:Int))) - (1:Int)))) (0:Int))),(l00Src.mk a0.code (w64 (a0.«at» + (1:Int))) w1))
    else none
    else none)
    else none
    else none
    else none
  else
  bif (decide ((w64 (a0.«at» + (1:Int))) > (3000:Int))) then
    some ((0:Int),(l00Src.mk a0.code (w64 (a0.«at» + (1:Int))) a0.seed))
  else
  bif (!decide ((2147483648:Int)=0)) then
  bif (!decide ((65536:Int)=0)) then
  bif (!decide ((256:Int)=0)) then
  some ((Int.tmod (w64 (Int.tdiv (Int.tmod (w64 ((w64 (a0.seed * (1103515245:Int)))+(12345:Int))) (2147483648:Int)) (65536:Int))) (256:Int)),(l00Src.mk a0.code (w64 (a0.«at» + (1:Int))) (Int.tmod (w64 ((w64 (a0.seed * (1103515245:Int)))+(12345:Int))) (2147483648:Int))))
  else none
  else none
  else none
@[reducible] noncomputable def sp (N:Nat):Spec E:=⟨[.box false 84 84],[(.int .i64)],true,false,R,fun x=>m N x.1,fun r=>(r.1,()),fun r=>(r.2,()),fun a b=>(a.1,b.1),fun _ _=>rfl,fun _ _=>rfl⟩
end spec_l00Src_byte_
namespace spec_l00Src_next_
abbrev R:=Int×l00Src
noncomputable def m (N:Nat) (a0:l00Src) (a1:Int):Option R:=
  bif (decide (a1≤(1:Int))) then
    some ((0:Int),a0)
  else
  bif (decide (a1≤(256:Int))) then
    ob (spec_l00Src_byte_.m N a0) fun y1=>
    bif (!decide (a1=0)) then
    some ((Int.tmod y1.1 a1),y1.2)
    else none
  else
  ob (spec_l00Src_byte_.m N a0) fun y2=>
  ob (spec_l00Src_byte_.m N y2.2) fun y3=>
  ob (spec_l00Src_byte_.m N y3.2) fun y4=>
  bif (!decide (a1=0)) then
  some ((Int.tmod (w64 ((w64 ((w64 (y2.1 * (65536:Int)))+(w64 (y3.1 * (256:Int)))))+y4.1)) a1),y4.2)
  else none
@[reducible] noncomputable def sp (N:Nat):Spec E:=⟨[.box false 84 84,.val (.int .i64)],[(.int .i64)],true,false,R,fun x=>m N x.1 x.2.1,fun r=>(r.1,()),fun r=>(r.2,(),()),fun a b=>(a.1,b.1),fun _ _=>rfl,fun _ _=>rfl⟩
end spec_l00Src_next_
namespace spec_l00Src_pick_
abbrev R:=ByteArray×l00Src
noncomputable def m (N:Nat) (a0:l00Src) (a1:List ByteArray):Option R:=
  bif ((a1.length:Int)==(0:Int)) then
    some (ByteArray.empty,a0)
  else
  ob (spec_l00Src_next_.m N a0 (a1.length:Int)) fun y1=>
  bif (decide (0≤y1.1)) then
  bif (decide (y1.1<(a1.length:Int))) then
  some ((a1.getD (Int.toNat y1.1) ByteArray.empty),y1.2)
  else none
  else none
@[reducible] noncomputable def sp (N:Nat):Spec E:=⟨[.box false 84 84,.val (.slice 9 .str)],[.str],true,false,R,fun x=>m N x.1 x.2.1,fun r=>(r.1,()),fun r=>(r.2,(),()),fun a b=>(a.1,b.1),fun _ _=>rfl,fun _ _=>rfl⟩
end spec_l00Src_pick_
namespace spec_l00Src_key
abbrev R:=ByteArray×l00Src
noncomputable def m (N:Nat) (a0:l00Src):Option R:=
  (let w1:List ByteArray:=[(⟨#[97]⟩:ByteArray),(⟨#[98]⟩:ByteArray),(⟨#[99]⟩:ByteArray),(⟨#[97,108,112,104,97]⟩:ByteArray),(⟨#[98,101,116,97]⟩:ByteArray)]
  ob (spec_l00Src_pick_.m N a0 w1) fun y2=>
  some (y2.1,y2.2))
@[reducible] noncomputable def sp (N:Nat):Spec E:=⟨[.box false 84 84],[.str],true,false,R,fun x=>m N x.1,fun r=>(r.1,()),fun r=>(r.2,()),fun a b=>(a.1,b.1),fun _ _=>rfl,fun _ _=>rfl⟩
end spec_l00Src_key
namespace spec_l00Src_datum
abbrev R:=ByteArray×l00Src
noncomputable def m (N:Nat) (a0:l00Src):Option R:=
  (let w1:List ByteArray:=[ByteArray.empty,(⟨#[49]⟩:ByteArray),(⟨#[50]⟩:ByteArray),(⟨#[120]⟩:ByteArray),(⟨#[108,111,110,103,101,114,32,118,97,108,117,101]⟩:ByteArray)]
  ob (spec_l00Src_pick_.m N a0 w1) fun y2=>
  some (y2.1,y2.2))
@[reducible] noncomputable def sp (N:Nat):Spec E:=⟨[.box false 84 84],[.str],true,false,R,fun x=>m N x.1,fun r=>(r.1,()),fun r=>(r.2,()),fun a b=>(a.1,b.1),fun _ _=>rfl,fun _ _=>rfl⟩
end spec_l00Src_datum
namespace spec_l00Src_chance
abbrev R:=Bool×l00Src
noncomputable def m (N:Nat) (a0:l00Src) (a1:Int):Option R:=
  ob (spec_l00Src_next_.m N a0 a1) fun y1=>
  some ((y1.1==(w64 (a1 - (1:Int)))),y1.2)
@[reducible] noncomputable def sp (N:Nat):Spec E:=⟨[.box false 84 84,.val (.int .i64)],[.bool],true,false,R,fun x=>m N x.1 x.2.1,fun r=>(r.1,()),fun r=>(r.2,(),()),fun a b=>(a.1,b.1),fun _ _=>rfl,fun _ _=>rfl⟩
end spec_l00Src_chance
namespace spec_l00Src_command
abbrev R:=Command×l00Src
noncomputable def m (N:Nat) (a0:l00Src):Option R:=
  ob (spec_l00Src_next_.m N a0 (5:Int)) fun y1=>
  bif (decide (0≤y1.1)) then
  bif (decide (y1.1<(([(1:Int),(1:Int),(2:Int),(2:Int),(3:Int)]).length:Int))) then
  ob (spec_l00Src_next_.m N y1.2 (3:Int)) fun y2=>
  ob (spec_l00Src_next_.m N y2.2 (5:Int)) fun y3=>
  ob (spec_l00Src_key.m N y3.2) fun y4=>
  ob (spec_l00Src_datum.m N y4.2) fun y5=>
  bif ((([(1:Int),(1:Int),(2:Int),(2:Int),(3:Int)]).getD (Int.toNat y1.1) (0:Int))==(3:Int)) then
    ob (spec_l00Src_chance.m N y5.2 (4:Int)) fun y6=>
    bif y6.1 then
      ob (spec_l00Src_next_.m N y6.2 (2:Int)) fun y7=>
      ob (spec_l00Src_next_.m N y7.2 (3:Int)) fun y8=>
      some ((Command.mk (w64 ((4:Int)+y7.1)) (w64 ((1:Int)+y8.1)) (0:Int) ByteArray.empty ByteArray.empty),y8.2)
    else
    some ((Command.mk (([(1:Int),(1:Int),(2:Int),(2:Int),(3:Int)]).getD (Int.toNat y1.1) (0:Int)) (w64 ((1:Int)+y2.1)) (w64 ((1:Int)+y3.1)) y4.1 ByteArray.empty),y6.2)
  else
  ob (spec_l00Src_chance.m N y5.2 (4:Int)) fun y9=>
  bif y9.1 then
    ob (spec_l00Src_next_.m N y9.2 (2:Int)) fun y10=>
    ob (spec_l00Src_next_.m N y10.2 (3:Int)) fun y11=>
    some ((Command.mk (w64 ((4:Int)+y10.1)) (w64 ((1:Int)+y11.1)) (0:Int) ByteArray.empty ByteArray.empty),y11.2)
  else
  some ((Command.mk (([(1:Int),(1:Int),(2:Int),(2:Int),(3:Int)]).getD (Int.toNat y1.1) (0:Int)) (w64 ((1:Int)+y2.1)) (w64 ((1:Int)+y3.1)) y4.1 y5.1),y9.2)
  else none
  else none
@[reducible] noncomputable def sp (N:Nat):Spec E:=⟨[.box false 84 84],[(.st 31)],true,false,R,fun x=>m N x.1,fun r=>(r.1,()),fun r=>(r.2,()),fun a b=>(a.1,b.1),fun _ _=>rfl,fun _ _=>rfl⟩
end spec_l00Src_command
namespace spec_l00Src_commands
abbrev R:=(List Command)×l00Src
noncomputable def step3 (N:Nat) (a0:l00Src) (rec:(Int×(List Int)×Int×Int×(List Command))→Option R):(Int×(List Int)×Int×Int×(List Command))→Option R
  | (v0,v1,v2,v3,v4)=>
    bif (decide (v0 > (0:Int))) then
      bif (bif true then (decide ((v4.length:Int)<(100:Int))) else false) then
        ob (spec_l00Src_command.m N (l00Src.mk v1 v2 v3)) fun y3=>
        bif (room (v4.length+([y3.1]).length) 56) then
        rec ((w64 (v0 - (1:Int))),y3.2.code,y3.2.«at»,y3.2.seed,(v4++[y3.1]))
        else none
      else
      some (v4,(l00Src.mk v1 v2 v3))
    else
    some (v4,(l00Src.mk v1 v2 v3))
noncomputable def lp3 (N:Nat) (a0:l00Src):(Int×(List Int)×Int×Int×(List Command))→Option R:=
  miter (fun rec=>step3 N a0 rec) N
noncomputable def m0 (N:Nat) (a0:l00Src) (lp3:Int×(List Int)×Int×Int×(List Command)→Option R):Option R:=
  ob (spec_l00Src_size_.m N a0 (20:Int)) fun y1=>
  ob (spec_l00Src_next_.m N a0 (w64 (y1+(4:Int)))) fun y2=>
  lp3 (y2.1,y2.2.code,y2.2.«at»,y2.2.seed,[(Command.mk (4:Int) (1:Int) (0:Int) ByteArray.empty ByteArray.empty),(Command.mk (4:Int) (2:Int) (0:Int) ByteArray.empty ByteArray.empty)])
@[reducible] noncomputable def m (N:Nat) (a0:l00Src):Option R:=m0 N a0 (lp3 N a0)
@[reducible] noncomputable def sp (N:Nat):Spec E:=⟨[.box false 84 84],[(.slice 31 (.st 31))],true,false,R,fun x=>m N x.1,fun r=>(r.1,()),fun r=>(r.2,()),fun a b=>(a.1,b.1),fun _ _=>rfl,fun _ _=>rfl⟩
end spec_l00Src_commands
namespace spec_CommandsOf
abbrev R:=(List Command)
noncomputable def m (N:Nat) (a0:List Int):Option R:=
  ob (spec_l00Source.m N a0) fun y1=>
  ob (spec_l00Src_commands.m N y1) fun y2=>
  some y2.1
@[reducible] noncomputable def sp (N:Nat):Spec E:=⟨[.val (.slice 5 (.int .u8))],[(.slice 31 (.st 31))],true,false,R,fun x=>m N x.1,fun r=>(r,()),fun r=>((),()),fun a b=>a.1,fun _ _=>rfl,fun _ _=>rfl⟩
end spec_CommandsOf
namespace impl_isList_impl_Command
abbrev R:=Bool
noncomputable def m (N:Nat) (a0:List Command):Option R:=
  some (decide ((a0.length:Int)≤(4096:Int)))
@[reducible] noncomputable def sp (N:Nat):Spec E:=⟨[.val (.slice 31 (.st 31))],[.bool],true,false,R,fun x=>m N x.1,fun r=>(r,()),fun r=>((),()),fun a b=>a.1,fun _ _=>rfl,fun _ _=>rfl⟩
end impl_isList_impl_Command
namespace impl_within
abbrev R:=Bool
noncomputable def m (N:Nat) (a0:Int) (a1:Int) (a2:Int):Option R:=
  bif (decide (a0≥a1)) then
    some (bif true then (decide (a0≤a2)) else false)
  else
  some false
@[reducible] noncomputable def sp (N:Nat):Spec E:=⟨[.val (.int .i64),.val (.int .i64),.val (.int .i64)],[.bool],true,false,R,fun x=>m N x.1 x.2.1 x.2.2.1,fun r=>(r,()),fun r=>((),(),(),()),fun a b=>a.1,fun _ _=>rfl,fun _ _=>rfl⟩
end impl_within
namespace impl_isShort
abbrev R:=Bool
noncomputable def m (N:Nat) (a0:Int):Option R:=
  ob (impl_within.m N a0 (0:Int) (65535:Int)) fun y1=>
  some y1
@[reducible] noncomputable def sp (N:Nat):Spec E:=⟨[.val (.int .i64)],[.bool],true,false,R,fun x=>m N x.1,fun r=>(r,()),fun r=>((),()),fun a b=>a.1,fun _ _=>rfl,fun _ _=>rfl⟩
end impl_isShort
namespace impl_isValue
abbrev R:=Bool
noncomputable def m (N:Nat) (a0:ByteArray):Option R:=
  some (decide ((a0.size:Int)≤(60:Int)))
@[reducible] noncomputable def sp (N:Nat):Spec E:=⟨[.val .str],[.bool],true,false,R,fun x=>m N x.1,fun r=>(r,()),fun r=>((),()),fun a b=>a.1,fun _ _=>rfl,fun _ _=>rfl⟩
end impl_isValue
namespace impl_isKey
abbrev R:=Bool
noncomputable def m (N:Nat) (a0:ByteArray):Option R:=
  ob (impl_within.m N (a0.size:Int) (1:Int) (24:Int)) fun y1=>
  some y1
@[reducible] noncomputable def sp (N:Nat):Spec E:=⟨[.val .str],[.bool],true,false,R,fun x=>m N x.1,fun r=>(r,()),fun r=>((),()),fun a b=>a.1,fun _ _=>rfl,fun _ _=>rfl⟩
end impl_isKey
namespace impl_CommandOK
abbrev R:=Bool
noncomputable def m (N:Nat) (a0:Command):Option R:=
  ob (impl_isShort.m N a0.Session) fun y1=>
  bif (!y1) then
    some false
  else
  ob (impl_isShort.m N a0.Seq) fun y2=>
  bif (bif false then true else (!y2)) then
    some false
  else
  ob (impl_isValue.m N a0.Value) fun y3=>
  bif (bif false then true else (!y3)) then
    some false
  else
  bif (a0.Kind==(1:Int)) then
    ob (impl_isKey.m N a0.Key) fun y4=>
    some y4
  else
  bif (a0.Kind==(2:Int)) then
    ob (impl_isKey.m N a0.Key) fun y5=>
    some y5
  else
  bif (a0.Kind==(3:Int)) then
    ob (impl_isKey.m N a0.Key) fun y6=>
    bif y6 then
      some (bif true then (seq a0.Value ByteArray.empty) else false)
    else
    some false
  else
  bif (a0.Kind==(4:Int)) then
    bif (seq a0.Key ByteArray.empty) then
      bif (bif true then (seq a0.Value ByteArray.empty) else false) then
        some (bif true then (a0.Seq==(0:Int)) else false)
      else
      some false
    else
    some false
  else
  bif (a0.Kind==(5:Int)) then
    bif (seq a0.Key ByteArray.empty) then
      bif (bif true then (seq a0.Value ByteArray.empty) else false) then
        some (bif true then (a0.Seq==(0:Int)) else false)
      else
      some false
    else
    some false
  else
  some false
@[reducible] noncomputable def sp (N:Nat):Spec E:=⟨[.val (.st 31)],[.bool],true,false,R,fun x=>m N x.1,fun r=>(r,()),fun r=>((),()),fun a b=>a.1,fun _ _=>rfl,fun _ _=>rfl⟩
end impl_CommandOK
namespace impl_commandsCode_1
abbrev R:=Bool
noncomputable def m (N:Nat) (a0:Command):Option R:=
  ob (impl_CommandOK.m N a0) fun y1=>
  some (!y1)
@[reducible] noncomputable def sp (N:Nat):Spec E:=⟨[.val (.st 31)],[.bool],true,false,R,fun x=>m N x.1,fun r=>(r,()),fun r=>((),()),fun a b=>a.1,fun _ _=>rfl,fun _ _=>rfl⟩
end impl_commandsCode_1
namespace slices_IndexFunc_impl_Command_impl_Command__impl_commandsCode_1
abbrev R:=Int
noncomputable def step2 (N:Nat) (a0:List Command) (rec:(Int×Int)→Option R):(Int×Int)→Option R
  | (v1,v2)=>
    bif (decide (v2<v1)) then
      bif (decide (0≤v2)) then
      bif (decide (v2<(a0.length:Int))) then
      ob (impl_commandsCode_1.m N (a0.getD (Int.toNat v2) Command.dz)) fun y1=>
      bif y1 then
        some v2
      else
      rec (v1,(w64 (v2+(1:Int))))
      else none
      else none
    else
    some (-1:Int)
noncomputable def lp2 (N:Nat) (a0:List Command):(Int×Int)→Option R:=
  miter (fun rec=>step2 N a0 rec) N
noncomputable def m0 (N:Nat) (a0:List Command) (lp2:Int×Int→Option R):Option R:=
  lp2 ((a0.length:Int),(0:Int))
@[reducible] noncomputable def m (N:Nat) (a0:List Command):Option R:=m0 N a0 (lp2 N a0)
@[reducible] noncomputable def sp (N:Nat):Spec E:=⟨[.val (.slice 31 (.st 31)),.clo 47 []],[(.int .i64)],true,false,R,fun x=>m N x.1,fun r=>(r,()),fun r=>((),(),()),fun a b=>a.1,fun _ _=>rfl,fun _ _=>rfl⟩
end slices_IndexFunc_impl_Command_impl_Command__impl_commandsCode_1
namespace slices_ContainsFunc_impl_Command_impl_Command__impl_commandsCode_1
abbrev R:=Bool
noncomputable def m (N:Nat) (a0:List Command):Option R:=
  ob (slices_IndexFunc_impl_Command_impl_Command__impl_commandsCode_1.m N a0) fun y1=>
  some (decide (y1≥(0:Int)))
@[reducible] noncomputable def sp (N:Nat):Spec E:=⟨[.val (.slice 31 (.st 31)),.clo 47 []],[.bool],true,false,R,fun x=>m N x.1,fun r=>(r,()),fun r=>((),(),()),fun a b=>a.1,fun _ _=>rfl,fun _ _=>rfl⟩
end slices_ContainsFunc_impl_Command_impl_Command__impl_commandsCode_1
namespace impl_commandsCode
abbrev R:=Int
noncomputable def m (N:Nat) (a0:List Command):Option R:=
  ob (impl_isList_impl_Command.m N a0) fun y1=>
  bif (!y1) then
    some (2:Int)
  else
  bif (decide ((a0.length:Int) > (120:Int))) then
    some (6:Int)
  else
  ob (slices_ContainsFunc_impl_Command_impl_Command__impl_commandsCode_1.m N a0) fun y2=>
  bif y2 then
    some (1:Int)
  else
  some (0:Int)
@[reducible] noncomputable def sp (N:Nat):Spec E:=⟨[.val (.slice 31 (.st 31))],[(.int .i64)],true,false,R,fun x=>m N x.1,fun r=>(r,()),fun r=>((),()),fun a b=>a.1,fun _ _=>rfl,fun _ _=>rfl⟩
end impl_commandsCode
namespace cmp_isNaN_int
abbrev R:=Bool
noncomputable def m (N:Nat) (a0:Int):Option R:=
  some (a0 != a0)
@[reducible] noncomputable def sp (N:Nat):Spec E:=⟨[.val (.int .i64)],[.bool],true,false,R,fun x=>m N x.1,fun r=>(r,()),fun r=>((),()),fun a b=>a.1,fun _ _=>rfl,fun _ _=>rfl⟩
end cmp_isNaN_int
namespace cmp_Compare_int
abbrev R:=Int
noncomputable def m (N:Nat) (a0:Int) (a1:Int):Option R:=
  ob (cmp_isNaN_int.m N a0) fun y1=>
  ob (cmp_isNaN_int.m N a1) fun y2=>
  bif y1 then
    bif y2 then
      some (0:Int)
    else
    some (-1:Int)
  else
  bif y2 then
    some (1:Int)
  else
  bif (decide (a0<a1)) then
    some (-1:Int)
  else
  bif (decide (a0 > a1)) then
    some (1:Int)
  else
  some (0:Int)
@[reducible] noncomputable def sp (N:Nat):Spec E:=⟨[.val (.int .i64),.val (.int .i64)],[(.int .i64)],true,false,R,fun x=>m N x.1 x.2.1,fun r=>(r,()),fun r=>((),(),()),fun a b=>a.1,fun _ _=>rfl,fun _ _=>rfl⟩
end cmp_Compare_int
namespace impl_books_sessionAt_1
abbrev R:=Int
noncomputable def m (N:Nat) (a0:Session) (a1:Int):Option R:=
  ob (cmp_Compare_int.m N a0.Id a1) fun y1=>
  some y1
@[reducible] noncomputable def sp (N:Nat):Spec E:=⟨[.val (.st 72),.val (.int .i64)],[(.int .i64)],true,false,R,fun x=>m N x.1 x.2.1,fun r=>(r,()),fun r=>((),(),()),fun a b=>a.1,fun _ _=>rfl,fun _ _=>rfl⟩
end impl_books_sessionAt_1
namespace slices_BinarySearchFunc_impl_Session_impl_Session_int__impl_books_sessionAt_1
abbrev R:=Int×Bool
noncomputable def step3 (N:Nat) (a0:List Session) (a1:Int) (rec:(Int×Int×Int)→Option R):(Int×Int×Int)→Option R
  | (v2,v3,v4)=>
    bif (decide (v3<v4)) then
      bif (!decide ((1:Int)<0)) then
      bif (decide (0≤(w64 (Int.fdiv (wu64 (w64 (v3+v4))) (2 ^ (min (Int.toNat (1:Int)) 64)))))) then
      bif (decide ((w64 (Int.fdiv (wu64 (w64 (v3+v4))) (2 ^ (min (Int.toNat (1:Int)) 64))))<(a0.length:Int))) then
      ob (impl_books_sessionAt_1.m N (Session.mk ((a0.getD (Int.toNat (w64 (Int.fdiv (wu64 (w64 (v3+v4))) (2 ^ (min (Int.toNat (1:Int)) 64))))) Session.dz).Id) ((a0.getD (Int.toNat (w64 (Int.fdiv (wu64 (w64 (v3+v4))) (2 ^ (min (Int.toNat (1:Int)) 64))))) Session.dz).Seq) (Reply.mk ((a0.getD (Int.toNat (w64 (Int.fdiv (wu64 (w64 (v3+v4))) (2 ^ (min (Int.toNat (1:Int)) 64))))) Session.dz).Last.Kind) ((a0.getD (Int.toNat (w64 (Int.fdiv (wu64 (w64 (v3+v4))) (2 ^ (min (Int.toNat (1:Int)) 64))))) Session.dz).Last.Place) ((a0.getD (Int.toNat (w64 (Int.fdiv (wu64 (w64 (v3+v4))) (2 ^ (min (Int.toNat (1:Int)) 64))))) Session.dz).Last.Value))) a1) fun y1=>
      bif (decide (y1<(0:Int))) then
        rec (v2,(w64 ((w64 (Int.fdiv (wu64 (w64 (v3+v4))) (2 ^ (min (Int.toNat (1:Int)) 64))))+(1:Int))),v4)
      else
      rec (v2,v3,(w64 (Int.fdiv (wu64 (w64 (v3+v4))) (2 ^ (min (Int.toNat (1:Int)) 64)))))
      else none
      else none
      else none
    else
    bif (decide (v3<v2)) then
      bif (decide (0≤v3)) then
      bif (decide (v3<(a0.length:Int))) then
      ob (impl_books_sessionAt_1.m N (Session.mk ((a0.getD (Int.toNat v3) Session.dz).Id) ((a0.getD (Int.toNat v3) Session.dz).Seq) (Reply.mk ((a0.getD (Int.toNat v3) Session.dz).Last.Kind) ((a0.getD (Int.toNat v3) Session.dz).Last.Place) ((a0.getD (Int.toNat v3) Session.dz).Last.Value))) a1) fun y2=>
      some (v3,(bif true then (y2==(0:Int)) else false))
      else none
      else none
    else
    some (v3,false)
noncomputable def lp3 (N:Nat) (a0:List Session) (a1:Int):(Int×Int×Int)→Option R:=
  miter (fun rec=>step3 N a0 a1 rec) N
noncomputable def m0 (N:Nat) (a0:List Session) (a1:Int) (lp3:Int×Int×Int→Option R):Option R:=
  lp3 ((a0.length:Int),(0:Int),(a0.length:Int))
@[reducible] noncomputable def m (N:Nat) (a0:List Session) (a1:Int):Option R:=m0 N a0 a1 (lp3 N a0 a1)
@[reducible] noncomputable def sp (N:Nat):Spec E:=⟨[.val (.slice 72 (.st 72)),.val (.int .i64),.clo 99 []],[(.int .i64),.bool],true,false,R,fun x=>m N x.1 x.2.1,fun r=>(r.1,r.2,()),fun r=>((),(),(),()),fun a b=>(a.1,a.2.1),fun _ _=>rfl,fun _ _=>rfl⟩
end slices_BinarySearchFunc_impl_Session_impl_Session_int__impl_books_sessionAt_1
namespace impl_books_sessionAt_
abbrev R:=Int×Bool
noncomputable def m (N:Nat) (a0:books) (a1:Int):Option R:=
  ob (slices_BinarySearchFunc_impl_Session_impl_Session_int__impl_books_sessionAt_1.m N a0.sessions a1) fun y1=>
  some (y1.1,y1.2)
@[reducible] noncomputable def sp (N:Nat):Spec E:=⟨[.cap (.rb (.st 93)),.val (.int .i64)],[(.int .i64),.bool],true,false,R,fun x=>m N x.1 x.2.1,fun r=>(r.1,r.2,()),fun r=>((),(),()),fun a b=>(a.1,a.2.1),fun _ _=>rfl,fun _ _=>rfl⟩
end impl_books_sessionAt_
namespace slices_Insert_impl_Session
abbrev R:=List Session
def m (N:Nat) (a0:List Session) (a1:Int) (a2:List Session):Option R:=insM 48 a0 a1 a2
@[reducible] noncomputable def sp (N:Nat):Spec E:={ ps:=[.mov false (.slice 72 (.st 72)),.val (.int .i64),.mov false (.slice 72 (.st 72))],rs:=[(.slice 72 (.st 72))],own:=true,dp:=false,R:=R,fn:=fun x=>m N x.1 x.2.1 x.2.2.1,res:=fun r=>(r,()),out:=fun r=>((),(),(),()),shut:=fun a b=>a.1,res_shut:=fun _ _=>rfl,out_shut:=fun _ _=>rfl }
end slices_Insert_impl_Session
namespace impl_books_open
abbrev R:=Reply×books
noncomputable def m (N:Nat) (a0:books) (a1:Int):Option R:=
  ob (impl_books_sessionAt_.m N a0 a1) fun y1=>
  bif y1.2 then
    some ((Reply.mk (5:Int) (0:Int) ByteArray.empty),a0)
  else
  bif ((a0.sessions.length:Int)==(8:Int)) then
    some ((Reply.mk (6:Int) (0:Int) ByteArray.empty),a0)
  else
  ob (slices_Insert_impl_Session.m N a0.sessions y1.1 ([(Session.mk a1 (0:Int) (Reply.mk (0:Int) (0:Int) ByteArray.empty))])) fun y2=>
  some ((Reply.mk (1:Int) (0:Int) ByteArray.empty),(books.mk a0.leaves a0.pairs y2))
@[reducible] noncomputable def sp (N:Nat):Spec E:=⟨[.box false 93 93,.val (.int .i64)],[(.st 27)],true,false,R,fun x=>m N x.1 x.2.1,fun r=>(r.1,()),fun r=>(r.2,(),()),fun a b=>(a.1,b.1),fun _ _=>rfl,fun _ _=>rfl⟩
end impl_books_open
namespace slices_Delete_impl_Session
abbrev R:=List Session
def m (N:Nat) (a0:List Session) (a1:Int) (a2:Int):Option R:=delM a0 a1 a2
@[reducible] noncomputable def sp (N:Nat):Spec E:={ ps:=[.mov false (.slice 72 (.st 72)),.val (.int .i64),.val (.int .i64)],rs:=[(.slice 72 (.st 72))],own:=true,dp:=false,R:=R,fn:=fun x=>m N x.1 x.2.1 x.2.2.1,res:=fun r=>(r,()),out:=fun r=>((),(),(),()),shut:=fun a b=>a.1,res_shut:=fun _ _=>rfl,out_shut:=fun _ _=>rfl }
end slices_Delete_impl_Session
namespace impl_books_shut
abbrev R:=Reply×books
noncomputable def m (N:Nat) (a0:books) (a1:Int):Option R:=
  ob (impl_books_sessionAt_.m N a0 a1) fun y1=>
  bif (!y1.2) then
    some ((Reply.mk (4:Int) (0:Int) ByteArray.empty),a0)
  else
  ob (slices_Delete_impl_Session.m N a0.sessions y1.1 (w64 (y1.1+(1:Int)))) fun y2=>
  some ((Reply.mk (1:Int) (0:Int) ByteArray.empty),(books.mk a0.leaves a0.pairs y2))
@[reducible] noncomputable def sp (N:Nat):Spec E:=⟨[.box false 93 93,.val (.int .i64)],[(.st 27)],true,false,R,fun x=>m N x.1 x.2.1,fun r=>(r.1,()),fun r=>(r.2,(),()),fun a b=>(a.1,b.1),fun _ _=>rfl,fun _ _=>rfl⟩
end impl_books_shut
namespace strings_Repeat
abbrev R:=ByteArray
def rep (s:ByteArray) (n:Nat):ByteArray:=⟨((List.replicate n s.data.toList).flatten).toArray⟩
noncomputable def m (N:Nat) (a0:ByteArray) (a1:Int):Option R:=
  bif decide (0≤a1)&&decide (a1≤9223372036854775807)&&decide (a0.size * a1.toNat≤140737488355328) then some (rep a0 a1.toNat) else none
@[reducible] noncomputable def sp (N:Nat):Spec E:={ ps:=[.val .str,.val (.int .i64)],rs:=[.str],own:=true,dp:=false,R:=R,fn:=fun x=>m N x.1 x.2.1,res:=fun r=>(r,()),out:=fun r=>((),(),()),shut:=fun a b=>a.1,res_shut:=fun _ _=>rfl,out_shut:=fun _ _=>rfl }
end strings_Repeat
namespace impl_number
abbrev R:=ByteArray
noncomputable def step3 (N:Nat) (a0:Int) (a1:Int) (rec:(Int×Int×(List Int))→Option R):(Int×Int×(List Int))→Option R
  | (v0,v1,v2)=>
    bif (decide (v1≥(0:Int))) then
      bif (decide (0≤v1)) then
      bif (decide (v1<(v2.length:Int))) then
      bif (!decide ((8:Int)<0)) then
      rec ((Int.fdiv v0 (2 ^ (min (Int.toNat (8:Int)) 64))),(w64 (v1 - (1:Int))),(v2.set (Int.toNat v1) (wu8 v0)))
      else none
      else none
      else none
    else
    some (strOf v2)
noncomputable def lp3 (N:Nat) (a0:Int) (a1:Int):(Int×Int×(List Int))→Option R:=
  miter (fun rec=>step3 N a0 a1 rec) N
noncomputable def m0 (N:Nat) (a0:Int) (a1:Int) (lp3:Int×Int×(List Int)→Option R):Option R:=
  bif (decide (0≤a1)) then
  bif (room (Int.toNat a1) 1) then
  lp3 (a0,(w64 (a1 - (1:Int))),(List.replicate (Int.toNat a1) (0:Int)))
  else none
  else none
@[reducible] noncomputable def m (N:Nat) (a0:Int) (a1:Int):Option R:=m0 N a0 a1 (lp3 N a0 a1)
@[reducible] noncomputable def sp (N:Nat):Spec E:=⟨[.val (.int .i64),.val (.int .i64)],[.str],true,false,R,fun x=>m N x.1 x.2.1,fun r=>(r,()),fun r=>((),(),()),fun a b=>a.1,fun _ _=>rfl,fun _ _=>rfl⟩
end impl_number
namespace impl_hashWords
abbrev R:=(List Int)
noncomputable def m (N:Nat):Option R:=
  (let w1:List Int:=[(1779033703:Int),(3144134277:Int),(1013904242:Int),(2773480762:Int),(1359893119:Int),(2600822924:Int),(528734635:Int),(1541459225:Int)]
  some w1)
@[reducible] noncomputable def sp (N:Nat):Spec E:=⟨[],[(.arr .u32 8)],true,false,R,fun x=>m N,fun r=>(r,()),fun r=>(),fun a b=>a.1,fun _ _=>rfl,fun _ _=>rfl⟩
end impl_hashWords
namespace impl_roundWords
abbrev R:=(List Int)
noncomputable def m (N:Nat):Option R:=
  (let w1:List Int:=[(1116352408:Int),(1899447441:Int),(3049323471:Int),(3921009573:Int),(961987163:Int),(1508970993:Int),(2453635748:Int),(2870763221:Int),(3624381080:Int),(310598401:Int),(607225278:Int),(1426881987:Int),(1925078388:Int),(2162078206:Int),(2614888103:Int),(3248222580:Int),(3835390401:Int),(4022224774:Int),(264347078:Int),(604807628:Int),(770255983:Int),(1249150122:Int),(1555081692:Int),(1996064986:Int),(2554220882:Int),(2821834349:Int),(2952996808:Int),(3210313671:Int),(3336571891:Int),(3584528711:Int),(113926993:Int),(338241895:Int),(666307205:Int),(773529912:Int),(1294757372:Int),(1396182291:Int),(1695183700:Int),(1986661051:Int),(2177026350:Int),(2456956037:Int),(2730485921:Int),(2820302411:Int),(3259730800:Int),(3345764771:Int),(3516065817:Int),(3600352804:Int),(4094571909:Int),(275423344:Int),(430227734:Int),(506948616:Int),(659060556:Int),(883997877:Int),(958139571:Int),(1322822218:Int),(1537002063:Int),(1747873779:Int),(1955562222:Int),(2024104815:Int),(2227730452:Int),(2361852424:Int),(2428436474:Int),(2756734187:Int),(3204031479:Int),(3329325298:Int)]
  some w1)
@[reducible] noncomputable def sp (N:Nat):Spec E:=⟨[],[(.arr .u32 64)],true,false,R,fun x=>m N,fun r=>(r,()),fun r=>(),fun a b=>a.1,fun _ _=>rfl,fun _ _=>rfl⟩
end impl_roundWords
namespace math_bits_RotateLeft32
abbrev R:=Int
noncomputable def m (N:Nat) (a0:Int) (a1:Int):Option R:=
  bif (!decide ((ibit .and .u64 (wu64 a1) (31:Int))<0)) then
  bif (!decide ((wu64 ((32:Int) - (ibit .and .u64 (wu64 a1) (31:Int))))<0)) then
  (let w1:Int:=(ibit .or .u32 (wu32 (a0 * 2 ^ (min (Int.toNat (ibit .and .u64 (wu64 a1) (31:Int))) 32))) (Int.fdiv a0 (2 ^ (min (Int.toNat (wu64 ((32:Int) - (ibit .and .u64 (wu64 a1) (31:Int))))) 32))))
  some w1)
  else none
  else none
@[reducible] noncomputable def sp (N:Nat):Spec E:=⟨[.val (.int .u32),.val (.int .i64)],[(.int .u32)],true,false,R,fun x=>m N x.1 x.2.1,fun r=>(r,()),fun r=>((),(),()),fun a b=>a.1,fun _ _=>rfl,fun _ _=>rfl⟩
end math_bits_RotateLeft32
namespace impl_turned
abbrev R:=Int
noncomputable def m (N:Nat) (a0:Int) (a1:Int):Option R:=
  ob (math_bits_RotateLeft32.m N a0 (w64 (0 - a1))) fun y1=>
  some y1
@[reducible] noncomputable def sp (N:Nat):Spec E:=⟨[.val (.int .u32),.val (.int .i64)],[(.int .u32)],true,false,R,fun x=>m N x.1 x.2.1,fun r=>(r,()),fun r=>((),(),()),fun a b=>a.1,fun _ _=>rfl,fun _ _=>rfl⟩
end impl_turned
namespace impl_wordsOf
abbrev R:=(List Int)
noncomputable def step3 (N:Nat) (a0:ByteArray) (rec:(Int×(List Int)×(List Int))→Option R):(Int×(List Int)×(List Int))→Option R
  | (v1,v2,v3)=>
    bif (decide (v1<(64:Int))) then
      bif (decide (v1<(16:Int))) then
        bif (decide (0≤(w64 ((4:Int) * v1)))) then
        bif (decide ((w64 ((4:Int) * v1))<(a0.size:Int))) then
        bif (!decide ((24:Int)<0)) then
        bif (decide (0≤(w64 ((w64 ((4:Int) * v1))+(1:Int))))) then
        bif (decide ((w64 ((w64 ((4:Int) * v1))+(1:Int)))<(a0.size:Int))) then
        bif (!decide ((16:Int)<0)) then
        (let w1:Int:=(ibit .or .u32 (wu32 ((wu32 (sb a0 (w64 ((4:Int) * v1)))) * 2 ^ (min (Int.toNat (24:Int)) 32))) (wu32 ((wu32 (sb a0 (w64 ((w64 ((4:Int) * v1))+(1:Int))))) * 2 ^ (min (Int.toNat (16:Int)) 32))))
        bif (decide (0≤(w64 ((w64 ((4:Int) * v1))+(2:Int))))) then
        bif (decide ((w64 ((w64 ((4:Int) * v1))+(2:Int)))<(a0.size:Int))) then
        bif (!decide ((8:Int)<0)) then
        bif (decide (0≤(w64 ((w64 ((4:Int) * v1))+(3:Int))))) then
        bif (decide ((w64 ((w64 ((4:Int) * v1))+(3:Int)))<(a0.size:Int))) then
        (let w2:Int:=(ibit .or .u32 (ibit .or .u32 w1 (wu32 ((wu32 (sb a0 (w64 ((w64 ((4:Int) * v1))+(2:Int))))) * 2 ^ (min (Int.toNat (8:Int)) 32)))) (wu32 (sb a0 (w64 ((w64 ((4:Int) * v1))+(3:Int))))))
        bif (decide (0≤v1)) then
        bif (decide (v1<(64:Int))) then
        rec ((w64 (v1+(1:Int))),v2,(v3.set (Int.toNat v1) w2))
        else none
        else none)
        else none
        else none
        else none
        else none
        else none)
        else none
        else none
        else none
        else none
        else none
        else none
      else
      bif (decide (0≤(w64 (v1 - (15:Int))))) then
      bif (decide ((w64 (v1 - (15:Int)))<(64:Int))) then
      bif (decide (0≤(w64 (v1 - (2:Int))))) then
      bif (decide ((w64 (v1 - (2:Int)))<(64:Int))) then
      ob (impl_turned.m N (v3.getD (Int.toNat (w64 (v1 - (15:Int)))) 0) (7:Int)) fun y3=>
      ob (impl_turned.m N (v3.getD (Int.toNat (w64 (v1 - (15:Int)))) 0) (18:Int)) fun y4=>
      bif (!decide ((3:Int)<0)) then
      ob (impl_turned.m N (v3.getD (Int.toNat (w64 (v1 - (2:Int)))) 0) (17:Int)) fun y5=>
      ob (impl_turned.m N (v3.getD (Int.toNat (w64 (v1 - (2:Int)))) 0) (19:Int)) fun y6=>
      bif (!decide ((10:Int)<0)) then
      bif (decide (0≤(w64 (v1 - (16:Int))))) then
      bif (decide ((w64 (v1 - (16:Int)))<(64:Int))) then
      (let w7:Int:=(wu32 ((v3.getD (Int.toNat (w64 (v1 - (16:Int)))) 0)+(ibit .xor .u32 (ibit .xor .u32 y3 y4) (Int.fdiv (v3.getD (Int.toNat (w64 (v1 - (15:Int)))) 0) (2 ^ (min (Int.toNat (3:Int)) 32))))))
      bif (decide (0≤(w64 (v1 - (7:Int))))) then
      bif (decide ((w64 (v1 - (7:Int)))<(64:Int))) then
      (let w8:Int:=(wu32 ((wu32 (w7+(v3.getD (Int.toNat (w64 (v1 - (7:Int)))) 0)))+(ibit .xor .u32 (ibit .xor .u32 y5 y6) (Int.fdiv (v3.getD (Int.toNat (w64 (v1 - (2:Int)))) 0) (2 ^ (min (Int.toNat (10:Int)) 32))))))
      bif (decide (0≤v1)) then
      bif (decide (v1<(64:Int))) then
      rec ((w64 (v1+(1:Int))),v2,(v3.set (Int.toNat v1) w8))
      else none
      else none)
      else none
      else none)
      else none
      else none
      else none
      else none
      else none
      else none
      else none
      else none
    else
    some v3
noncomputable def lp3 (N:Nat) (a0:ByteArray):(Int×(List Int)×(List Int))→Option R:=
  miter (fun rec=>step3 N a0 rec) N
noncomputable def m0 (N:Nat) (a0:ByteArray) (lp3:Int×(List Int)×(List Int)→Option R):Option R:=
  lp3 ((0:Int),(List.replicate 64 (0:Int)),(List.replicate 64 (0:Int)))
@[reducible] noncomputable def m (N:Nat) (a0:ByteArray):Option R:=m0 N a0 (lp3 N a0)
@[reducible] noncomputable def sp (N:Nat):Spec E:=⟨[.val .str],[(.arr .u32 64)],true,false,R,fun x=>m N x.1,fun r=>(r,()),fun r=>((),()),fun a b=>a.1,fun _ _=>rfl,fun _ _=>rfl⟩
end impl_wordsOf
namespace impl_blockHash
abbrev R:=(List Int)
noncomputable def step3 (N:Nat) (a0:List Int) (a1:List Int) (a2:ByteArray) (lp11:Int×(List Int)×(List Int)→Option R) (rec:(Int×(List Int)×(List Int)×(List Int))→Option R):(Int×(List Int)×(List Int)×(List Int))→Option R
  | (v0,v3,v4,v5)=>
    bif (decide (v0<(64:Int))) then
      bif (decide (0≤(0:Int))) then
      bif (decide ((0:Int)<(8:Int))) then
      bif (decide (0≤(1:Int))) then
      bif (decide ((1:Int)<(8:Int))) then
      bif (decide (0≤(2:Int))) then
      bif (decide ((2:Int)<(8:Int))) then
      bif (decide (0≤(4:Int))) then
      bif (decide ((4:Int)<(8:Int))) then
      bif (decide (0≤(5:Int))) then
      bif (decide ((5:Int)<(8:Int))) then
      bif (decide (0≤(6:Int))) then
      bif (decide ((6:Int)<(8:Int))) then
      bif (decide (0≤(7:Int))) then
      bif (decide ((7:Int)<(8:Int))) then
      ob (impl_turned.m N (v4.getD 4 0) (6:Int)) fun y2=>
      ob (impl_turned.m N (v4.getD 4 0) (11:Int)) fun y3=>
      ob (impl_turned.m N (v4.getD 4 0) (25:Int)) fun y4=>
      (let w5:Int:=(ibit .or .u32 (ibit .and .u32 (v4.getD 4 0) (v4.getD 5 0)) (ibit .and .u32 (ibit .xor .u32 (if IntKind.signed .u32 then -1 else IntKind.max .u32) (v4.getD 4 0)) (v4.getD 6 0)))
      bif (decide (0≤v0)) then
      bif (decide (v0<(64:Int))) then
      bif (decide (0≤v0)) then
      bif (decide (v0<(64:Int))) then
      (let w6:Int:=(wu32 ((wu32 ((wu32 ((wu32 ((v4.getD 7 0)+(ibit .xor .u32 (ibit .xor .u32 y2 y3) y4)))+w5))+(a1.getD (Int.toNat v0) 0)))+(v5.getD (Int.toNat v0) 0)))
      ob (impl_turned.m N (v4.getD 0 0) (2:Int)) fun y7=>
      ob (impl_turned.m N (v4.getD 0 0) (13:Int)) fun y8=>
      ob (impl_turned.m N (v4.getD 0 0) (22:Int)) fun y9=>
      (let w10:Int:=(ibit .or .u32 (ibit .or .u32 (ibit .and .u32 (v4.getD 0 0) (v4.getD 1 0)) (ibit .and .u32 (v4.getD 0 0) (v4.getD 2 0))) (ibit .and .u32 (v4.getD 1 0) (v4.getD 2 0)))
      bif (decide (0≤(3:Int))) then
      bif (decide ((3:Int)<(8:Int))) then
      (let w11:List Int:=[(wu32 (w6+(wu32 ((ibit .xor .u32 (ibit .xor .u32 y7 y8) y9)+w10)))),(v4.getD 0 0),(v4.getD 1 0),(v4.getD 2 0),(wu32 ((v4.getD 3 0)+w6)),(v4.getD 4 0),(v4.getD 5 0),(v4.getD 6 0)]
      rec ((w64 (v0+(1:Int))),v3,w11,v5))
      else none
      else none))
      else none
      else none
      else none
      else none)
      else none
      else none
      else none
      else none
      else none
      else none
      else none
      else none
      else none
      else none
      else none
      else none
      else none
      else none
    else
    lp11 ((0:Int),v3,v4)
noncomputable def step11 (N:Nat) (a0:List Int) (a1:List Int) (a2:ByteArray) (rec:(Int×(List Int)×(List Int))→Option R):(Int×(List Int)×(List Int))→Option R
  | (v0,v2,v3)=>
    bif (decide (v0<(8:Int))) then
      bif (decide (0≤v0)) then
      bif (decide (v0<(8:Int))) then
      bif (decide (0≤v0)) then
      bif (decide (v0<(8:Int))) then
      bif (decide (0≤v0)) then
      bif (decide (v0<(8:Int))) then
      rec ((w64 (v0+(1:Int))),v2,(v3.set (Int.toNat v0) (wu32 ((v3.getD (Int.toNat v0) 0)+(a0.getD (Int.toNat v0) 0)))))
      else none
      else none
      else none
      else none
      else none
      else none
    else
    some v3
noncomputable def lp11 (N:Nat) (a0:List Int) (a1:List Int) (a2:ByteArray):(Int×(List Int)×(List Int))→Option R:=
  miter (fun rec=>step11 N a0 a1 a2 rec) N
noncomputable def lp3 (N:Nat) (a0:List Int) (a1:List Int) (a2:ByteArray):(Int×(List Int)×(List Int)×(List Int))→Option R:=
  miter (fun rec=>step3 N a0 a1 a2 (lp11 N a0 a1 a2) rec) N
noncomputable def m0 (N:Nat) (a0:List Int) (a1:List Int) (a2:ByteArray) (lp3:Int×(List Int)×(List Int)×(List Int)→Option R):Option R:=
  ob (impl_wordsOf.m N a2) fun y1=>
  lp3 ((0:Int),(List.replicate 8 (0:Int)),a0,y1)
@[reducible] noncomputable def m (N:Nat) (a0:List Int) (a1:List Int) (a2:ByteArray):Option R:=m0 N a0 a1 a2 (lp3 N a0 a1 a2)
@[reducible] noncomputable def sp (N:Nat):Spec E:=⟨[.val (.arr .u32 8),.val (.arr .u32 64),.val .str],[(.arr .u32 8)],true,false,R,fun x=>m N x.1 x.2.1 x.2.2.1,fun r=>(r,()),fun r=>((),(),(),()),fun a b=>a.1,fun _ _=>rfl,fun _ _=>rfl⟩
end impl_blockHash
namespace impl_hash
abbrev R:=ByteArray
noncomputable def step4 (N:Nat) (a0:ByteArray) (lp9:ByteArray×(List Int)×Int→Option R) (rec:(ByteArray×Int×(List Int)×(List Int))→Option R):(ByteArray×Int×(List Int)×(List Int))→Option R
  | (v0,v1,v2,v3)=>
    bif (decide (v1<(v0.size:Int))) then
      bif (decide (0≤(w64 (v1+(64:Int))))) then
      bif (decide ((w64 (v1+(64:Int)))≤((v0.size:Nat):Int))) then
      bif (decide (0≤v1)) then
      bif (decide (v1≤(((Int.toNat (w64 (v1+(64:Int)))):Nat):Int))) then
      ob (impl_blockHash.m N v2 v3 (v0.extract (Int.toNat v1) (Int.toNat (w64 (v1+(64:Int)))))) fun y5=>
      rec (v0,(w64 (v1+(64:Int))),y5,v3)
      else none
      else none
      else none
      else none
    else
    lp9 (ByteArray.empty,v2,(0:Int))
noncomputable def step9 (N:Nat) (a0:ByteArray) (rec:(ByteArray×(List Int)×Int)→Option R):(ByteArray×(List Int)×Int)→Option R
  | (v0,v1,v2)=>
    bif (decide (v2<(8:Int))) then
      bif (decide (0≤v2)) then
      bif (decide (v2<(8:Int))) then
      ob (impl_number.m N (w64 (v1.getD (Int.toNat v2) 0)) (4:Int)) fun y6=>
      bif (decide (v0.size+y6.size≤9223372036854775807)) then
      rec ((v0++y6),v1,(w64 (v2+(1:Int))))
      else none
      else none
      else none
    else
    some v0
noncomputable def lp9 (N:Nat) (a0:ByteArray):(ByteArray×(List Int)×Int)→Option R:=
  miter (fun rec=>step9 N a0 rec) N
noncomputable def lp4 (N:Nat) (a0:ByteArray):(ByteArray×Int×(List Int)×(List Int))→Option R:=
  miter (fun rec=>step4 N a0 (lp9 N a0) rec) N
noncomputable def m0 (N:Nat) (a0:ByteArray) (lp4:ByteArray×Int×(List Int)×(List Int)→Option R):Option R:=
  bif (decide (a0.size+(⟨#[128]⟩:ByteArray).size≤9223372036854775807)) then
  bif (!decide ((64:Int)=0)) then
  bif (!decide ((64:Int)=0)) then
  ob (strings_Repeat.m N (⟨#[0]⟩:ByteArray) (Int.tmod (w64 ((119:Int) - (Int.tmod (a0.size:Int) (64:Int)))) (64:Int))) fun y1=>
  bif (decide ((a0++(⟨#[128]⟩:ByteArray)).size+y1.size≤9223372036854775807)) then
  ob (impl_number.m N (w64 ((8:Int) * (a0.size:Int))) (8:Int)) fun y2=>
  bif (decide (((a0++(⟨#[128]⟩:ByteArray))++y1).size+y2.size≤9223372036854775807)) then
  ob (impl_hashWords.m N) fun y3=>
  ob (impl_roundWords.m N) fun y4=>
  lp4 ((((a0++(⟨#[128]⟩:ByteArray))++y1)++y2),(0:Int),y3,y4)
  else none
  else none
  else none
  else none
  else none
@[reducible] noncomputable def m (N:Nat) (a0:ByteArray):Option R:=m0 N a0 (lp4 N a0)
@[reducible] noncomputable def sp (N:Nat):Spec E:=⟨[.val .str],[.str],true,false,R,fun x=>m N x.1,fun r=>(r,()),fun r=>((),()),fun a b=>a.1,fun _ _=>rfl,fun _ _=>rfl⟩
end impl_hash
namespace strings_Compare
abbrev R:=Int
def m (N:Nat) (a0 a1:ByteArray):Option R:=some (Go.Lib.compareBytes a0.data.toList a1.data.toList)
@[reducible] noncomputable def sp (N:Nat):Spec E:={ ps:=[.val .str,.val .str],rs:=[.int .i64],own:=true,dp:=false,R:=R,fn:=fun x=>m N x.1 x.2.1,res:=fun r=>(r,()),out:=fun r=>((),(),()),shut:=fun a b=>a.1,res_shut:=fun _ _=>rfl,out_shut:=fun _ _=>rfl }
end strings_Compare
namespace impl_pairAt_1
abbrev R:=Int
noncomputable def m (N:Nat) (a0:pairOf) (a1:ByteArray):Option R:=
  ob (strings_Compare.m N a0.hash a1) fun y1=>
  some y1
@[reducible] noncomputable def sp (N:Nat):Spec E:=⟨[.val (.st 98),.val .str],[(.int .i64)],true,false,R,fun x=>m N x.1 x.2.1,fun r=>(r,()),fun r=>((),(),()),fun a b=>a.1,fun _ _=>rfl,fun _ _=>rfl⟩
end impl_pairAt_1
namespace slices_BinarySearchFunc_impl_pairOf_impl_pairOf_string__impl_pairAt_1
abbrev R:=Int×Bool
noncomputable def step3 (N:Nat) (a0:List pairOf) (a1:ByteArray) (rec:(Int×Int×Int)→Option R):(Int×Int×Int)→Option R
  | (v2,v3,v4)=>
    bif (decide (v3<v4)) then
      bif (!decide ((1:Int)<0)) then
      bif (decide (0≤(w64 (Int.fdiv (wu64 (w64 (v3+v4))) (2 ^ (min (Int.toNat (1:Int)) 64)))))) then
      bif (decide ((w64 (Int.fdiv (wu64 (w64 (v3+v4))) (2 ^ (min (Int.toNat (1:Int)) 64))))<(a0.length:Int))) then
      ob (impl_pairAt_1.m N (a0.getD (Int.toNat (w64 (Int.fdiv (wu64 (w64 (v3+v4))) (2 ^ (min (Int.toNat (1:Int)) 64))))) pairOf.dz) a1) fun y1=>
      bif (decide (y1<(0:Int))) then
        rec (v2,(w64 ((w64 (Int.fdiv (wu64 (w64 (v3+v4))) (2 ^ (min (Int.toNat (1:Int)) 64))))+(1:Int))),v4)
      else
      rec (v2,v3,(w64 (Int.fdiv (wu64 (w64 (v3+v4))) (2 ^ (min (Int.toNat (1:Int)) 64)))))
      else none
      else none
      else none
    else
    bif (decide (v3<v2)) then
      bif (decide (0≤v3)) then
      bif (decide (v3<(a0.length:Int))) then
      ob (impl_pairAt_1.m N (a0.getD (Int.toNat v3) pairOf.dz) a1) fun y2=>
      some (v3,(bif true then (y2==(0:Int)) else false))
      else none
      else none
    else
    some (v3,false)
noncomputable def lp3 (N:Nat) (a0:List pairOf) (a1:ByteArray):(Int×Int×Int)→Option R:=
  miter (fun rec=>step3 N a0 a1 rec) N
noncomputable def m0 (N:Nat) (a0:List pairOf) (a1:ByteArray) (lp3:Int×Int×Int→Option R):Option R:=
  lp3 ((a0.length:Int),(0:Int),(a0.length:Int))
@[reducible] noncomputable def m (N:Nat) (a0:List pairOf) (a1:ByteArray):Option R:=m0 N a0 a1 (lp3 N a0 a1)
@[reducible] noncomputable def sp (N:Nat):Spec E:=⟨[.val (.slice 98 (.st 98)),.val .str,.clo 138 []],[(.int .i64),.bool],true,false,R,fun x=>m N x.1 x.2.1,fun r=>(r.1,r.2,()),fun r=>((),(),(),()),fun a b=>(a.1,a.2.1),fun _ _=>rfl,fun _ _=>rfl⟩
end slices_BinarySearchFunc_impl_pairOf_impl_pairOf_string__impl_pairAt_1
namespace impl_pairAt
abbrev R:=Int×Bool
noncomputable def m (N:Nat) (a0:List pairOf) (a1:ByteArray):Option R:=
  ob (impl_hash.m N a1) fun y1=>
  ob (slices_BinarySearchFunc_impl_pairOf_impl_pairOf_string__impl_pairAt_1.m N a0 y1) fun y2=>
  some (y2.1,y2.2)
@[reducible] noncomputable def sp (N:Nat):Spec E:=⟨[.val (.slice 98 (.st 98)),.val .str],[(.int .i64),.bool],true,false,R,fun x=>m N x.1 x.2.1,fun r=>(r.1,r.2,()),fun r=>((),(),()),fun a b=>(a.1,a.2.1),fun _ _=>rfl,fun _ _=>rfl⟩
end impl_pairAt
namespace slices_Delete_impl_pairOf
abbrev R:=List pairOf
def m (N:Nat) (a0:List pairOf) (a1:Int) (a2:Int):Option R:=delM a0 a1 a2
@[reducible] noncomputable def sp (N:Nat):Spec E:={ ps:=[.mov false (.slice 98 (.st 98)),.val (.int .i64),.val (.int .i64)],rs:=[(.slice 98 (.st 98))],own:=true,dp:=false,R:=R,fn:=fun x=>m N x.1 x.2.1 x.2.2.1,res:=fun r=>(r,()),out:=fun r=>((),(),(),()),shut:=fun a b=>a.1,res_shut:=fun _ _=>rfl,out_shut:=fun _ _=>rfl }
end slices_Delete_impl_pairOf
namespace impl_counted
abbrev R:=ByteArray
noncomputable def m (N:Nat) (a0:ByteArray):Option R:=
  ob (impl_number.m N (a0.size:Int) (1:Int)) fun y1=>
  bif (decide (y1.size+a0.size≤9223372036854775807)) then
  some (y1++a0)
  else none
@[reducible] noncomputable def sp (N:Nat):Spec E:=⟨[.val .str],[.str],true,false,R,fun x=>m N x.1,fun r=>(r,()),fun r=>((),()),fun a b=>a.1,fun _ _=>rfl,fun _ _=>rfl⟩
end impl_counted
namespace impl_Command_bytes
abbrev R:=ByteArray
noncomputable def m (N:Nat) (a0:Command):Option R:=
  ob (impl_number.m N a0.Kind (1:Int)) fun y1=>
  ob (impl_number.m N a0.Session (2:Int)) fun y2=>
  bif (decide (y1.size+y2.size≤9223372036854775807)) then
  ob (impl_number.m N a0.Seq (2:Int)) fun y3=>
  bif (decide ((y1++y2).size+y3.size≤9223372036854775807)) then
  ob (impl_counted.m N a0.Key) fun y4=>
  bif (decide (((y1++y2)++y3).size+y4.size≤9223372036854775807)) then
  ob (impl_counted.m N a0.Value) fun y5=>
  bif (decide ((((y1++y2)++y3)++y4).size+y5.size≤9223372036854775807)) then
  some ((((y1++y2)++y3)++y4)++y5)
  else none
  else none
  else none
  else none
@[reducible] noncomputable def sp (N:Nat):Spec E:=⟨[.val (.st 31)],[.str],true,false,R,fun x=>m N x.1,fun r=>(r,()),fun r=>((),()),fun a b=>a.1,fun _ _=>rfl,fun _ _=>rfl⟩
end impl_Command_bytes
namespace impl_leafHash
abbrev R:=ByteArray
noncomputable def m (N:Nat) (a0:ByteArray):Option R:=
  bif (decide ((⟨#[0]⟩:ByteArray).size+a0.size≤9223372036854775807)) then
  ob (impl_hash.m N ((⟨#[0]⟩:ByteArray)++a0)) fun y1=>
  some y1
  else none
@[reducible] noncomputable def sp (N:Nat):Spec E:=⟨[.val .str],[.str],true,false,R,fun x=>m N x.1,fun r=>(r,()),fun r=>((),()),fun a b=>a.1,fun _ _=>rfl,fun _ _=>rfl⟩
end impl_leafHash
namespace slices_Clone_impl_pairOf_impl_pairOf
abbrev R:=(List pairOf)
noncomputable def m (N:Nat) (a0:List pairOf):Option R:=
  amb (a0.isEmpty) true
    (some ([]:List pairOf))
    (bif (room (([]:List pairOf).length+a0.length) 48) then
    some (([]:List pairOf)++a0)
    else none)
@[reducible] noncomputable def sp (N:Nat):Spec E:=⟨[.val (.slice 98 (.st 98))],[(.slice 98 (.st 98))],true,false,R,fun x=>m N x.1,fun r=>(r,()),fun r=>((),()),fun a b=>a.1,fun _ _=>rfl,fun _ _=>rfl⟩
end slices_Clone_impl_pairOf_impl_pairOf
namespace slices_Insert_impl_pairOf
abbrev R:=List pairOf
def m (N:Nat) (a0:List pairOf) (a1:Int) (a2:List pairOf):Option R:=insM 48 a0 a1 a2
@[reducible] noncomputable def sp (N:Nat):Spec E:={ ps:=[.mov false (.slice 98 (.st 98)),.val (.int .i64),.mov false (.slice 98 (.st 98))],rs:=[(.slice 98 (.st 98))],own:=true,dp:=false,R:=R,fn:=fun x=>m N x.1 x.2.1 x.2.2.1,res:=fun r=>(r,()),out:=fun r=>((),(),(),()),shut:=fun a b=>a.1,res_shut:=fun _ _=>rfl,out_shut:=fun _ _=>rfl }
end slices_Insert_impl_pairOf
namespace impl_mapPut
abbrev R:=(List pairOf)×Int
noncomputable def m (N:Nat) (a0:List pairOf) (a1:ByteArray) (a2:ByteArray):Option R:=
  ob (slices_Clone_impl_pairOf_impl_pairOf.m N a0) fun y1=>
  ob (impl_hash.m N a1) fun y2=>
  ob (impl_pairAt.m N y1 a1) fun y3=>
  bif y3.2 then
    bif (decide (0≤y3.1)) then
    bif (decide (y3.1<(y1.length:Int))) then
    some ((y1.set (Int.toNat y3.1) (pairOf.mk a1 a2 y2)),(0:Int))
    else none
    else none
  else
  bif ((y1.length:Int)==(40:Int)) then
    some (([]:List pairOf),(7:Int))
  else
  ob (slices_Insert_impl_pairOf.m N y1 y3.1 ([(pairOf.mk a1 a2 y2)])) fun y4=>
  some (y4,(0:Int))
@[reducible] noncomputable def sp (N:Nat):Spec E:=⟨[.val (.slice 98 (.st 98)),.val .str,.val .str],[(.slice 98 (.st 98)),(.int .i64)],true,false,R,fun x=>m N x.1 x.2.1 x.2.2.1,fun r=>(r.1,r.2,()),fun r=>((),(),(),()),fun a b=>(a.1,a.2.1),fun _ _=>rfl,fun _ _=>rfl⟩
end impl_mapPut
namespace impl_books_write
abbrev R:=Reply×books
noncomputable def m (N:Nat) (a0:books) (a1:Command):Option R:=
  ob (impl_pairAt.m N a0.pairs a1.Key) fun y1=>
  bif y1.2 then
    bif (decide (0≤y1.1)) then
    bif (decide (y1.1<(a0.pairs.length:Int))) then
    bif (a1.Kind==(2:Int)) then
      bif (decide (((a0.pairs.getD (Int.toNat y1.1) pairOf.dz).value).size+a1.Value.size≤9223372036854775807)) then
      bif ((a0.leaves.length:Int)==(50:Int)) then
        some ((Reply.mk (6:Int) (0:Int) ByteArray.empty),(books.mk a0.leaves a0.pairs ([])))
      else
      ob (impl_isValue.m N (((a0.pairs.getD (Int.toNat y1.1) pairOf.dz).value)++a1.Value)) fun y2=>
      bif (bif false then true else (!y2)) then
        some ((Reply.mk (6:Int) (0:Int) ByteArray.empty),(books.mk a0.leaves a0.pairs ([])))
      else
      bif (a1.Kind==(3:Int)) then
        ob (slices_Delete_impl_pairOf.m N a0.pairs y1.1 (w64 (y1.1+(1:Int)))) fun y3=>
        ob (impl_Command_bytes.m N a1) fun y4=>
        ob (impl_leafHash.m N y4) fun y5=>
        bif (room (a0.leaves.length+([y5]).length) 16) then
        some ((Reply.mk (1:Int) ((a0.leaves++[y5]).length:Int) (((a0.pairs.getD (Int.toNat y1.1) pairOf.dz).value)++a1.Value)),(books.mk (a0.leaves++[y5]) y3 ([])))
        else none
      else
      ob (impl_mapPut.m N a0.pairs a1.Key (((a0.pairs.getD (Int.toNat y1.1) pairOf.dz).value)++a1.Value)) fun y6=>
      bif (y6.2 != (0:Int)) then
        some ((Reply.mk (6:Int) (0:Int) ByteArray.empty),(books.mk a0.leaves a0.pairs ([])))
      else
      ob (impl_Command_bytes.m N a1) fun y7=>
      ob (impl_leafHash.m N y7) fun y8=>
      bif (room (a0.leaves.length+([y8]).length) 16) then
      some ((Reply.mk (1:Int) ((a0.leaves++[y8]).length:Int) (((a0.pairs.getD (Int.toNat y1.1) pairOf.dz).value)++a1.Value)),(books.mk (a0.leaves++[y8]) y6.1 ([])))
      else none
      else none
    else
    bif (a1.Kind==(3:Int)) then
      bif (!y1.2) then
        some ((Reply.mk (2:Int) (0:Int) ByteArray.empty),(books.mk a0.leaves a0.pairs ([])))
      else
      bif ((a0.leaves.length:Int)==(50:Int)) then
        some ((Reply.mk (6:Int) (0:Int) ByteArray.empty),(books.mk a0.leaves a0.pairs ([])))
      else
      ob (impl_isValue.m N ((a0.pairs.getD (Int.toNat y1.1) pairOf.dz).value)) fun y9=>
      bif (bif false then true else (!y9)) then
        some ((Reply.mk (6:Int) (0:Int) ByteArray.empty),(books.mk a0.leaves a0.pairs ([])))
      else
      bif (a1.Kind==(3:Int)) then
        ob (slices_Delete_impl_pairOf.m N a0.pairs y1.1 (w64 (y1.1+(1:Int)))) fun y10=>
        ob (impl_Command_bytes.m N a1) fun y11=>
        ob (impl_leafHash.m N y11) fun y12=>
        bif (room (a0.leaves.length+([y12]).length) 16) then
        some ((Reply.mk (1:Int) ((a0.leaves++[y12]).length:Int) ((a0.pairs.getD (Int.toNat y1.1) pairOf.dz).value)),(books.mk (a0.leaves++[y12]) y10 ([])))
        else none
      else
      ob (impl_mapPut.m N a0.pairs a1.Key ((a0.pairs.getD (Int.toNat y1.1) pairOf.dz).value)) fun y13=>
      bif (y13.2 != (0:Int)) then
        some ((Reply.mk (6:Int) (0:Int) ByteArray.empty),(books.mk a0.leaves a0.pairs ([])))
      else
      ob (impl_Command_bytes.m N a1) fun y14=>
      ob (impl_leafHash.m N y14) fun y15=>
      bif (room (a0.leaves.length+([y15]).length) 16) then
      some ((Reply.mk (1:Int) ((a0.leaves++[y15]).length:Int) ((a0.pairs.getD (Int.toNat y1.1) pairOf.dz).value)),(books.mk (a0.leaves++[y15]) y13.1 ([])))
      else none
    else
    bif ((a0.leaves.length:Int)==(50:Int)) then
      some ((Reply.mk (6:Int) (0:Int) ByteArray.empty),(books.mk a0.leaves a0.pairs ([])))
    else
    ob (impl_isValue.m N a1.Value) fun y16=>
    bif (bif false then true else (!y16)) then
      some ((Reply.mk (6:Int) (0:Int) ByteArray.empty),(books.mk a0.leaves a0.pairs ([])))
    else
    bif (a1.Kind==(3:Int)) then
      ob (slices_Delete_impl_pairOf.m N a0.pairs y1.1 (w64 (y1.1+(1:Int)))) fun y17=>
      ob (impl_Command_bytes.m N a1) fun y18=>
      ob (impl_leafHash.m N y18) fun y19=>
      bif (room (a0.leaves.length+([y19]).length) 16) then
      some ((Reply.mk (1:Int) ((a0.leaves++[y19]).length:Int) a1.Value),(books.mk (a0.leaves++[y19]) y17 ([])))
      else none
    else
    ob (impl_mapPut.m N a0.pairs a1.Key a1.Value) fun y20=>
    bif (y20.2 != (0:Int)) then
      some ((Reply.mk (6:Int) (0:Int) ByteArray.empty),(books.mk a0.leaves a0.pairs ([])))
    else
    ob (impl_Command_bytes.m N a1) fun y21=>
    ob (impl_leafHash.m N y21) fun y22=>
    bif (room (a0.leaves.length+([y22]).length) 16) then
    some ((Reply.mk (1:Int) ((a0.leaves++[y22]).length:Int) a1.Value),(books.mk (a0.leaves++[y22]) y20.1 ([])))
    else none
    else none
    else none
  else
  bif (a1.Kind==(2:Int)) then
    bif (decide (ByteArray.empty.size+a1.Value.size≤9223372036854775807)) then
    bif ((a0.leaves.length:Int)==(50:Int)) then
      some ((Reply.mk (6:Int) (0:Int) ByteArray.empty),(books.mk a0.leaves a0.pairs ([])))
    else
    ob (impl_isValue.m N (ByteArray.empty++a1.Value)) fun y23=>
    bif (bif false then true else (!y23)) then
      some ((Reply.mk (6:Int) (0:Int) ByteArray.empty),(books.mk a0.leaves a0.pairs ([])))
    else
    bif (a1.Kind==(3:Int)) then
      ob (slices_Delete_impl_pairOf.m N a0.pairs y1.1 (w64 (y1.1+(1:Int)))) fun y24=>
      ob (impl_Command_bytes.m N a1) fun y25=>
      ob (impl_leafHash.m N y25) fun y26=>
      bif (room (a0.leaves.length+([y26]).length) 16) then
      some ((Reply.mk (1:Int) ((a0.leaves++[y26]).length:Int) (ByteArray.empty++a1.Value)),(books.mk (a0.leaves++[y26]) y24 ([])))
      else none
    else
    ob (impl_mapPut.m N a0.pairs a1.Key (ByteArray.empty++a1.Value)) fun y27=>
    bif (y27.2 != (0:Int)) then
      some ((Reply.mk (6:Int) (0:Int) ByteArray.empty),(books.mk a0.leaves a0.pairs ([])))
    else
    ob (impl_Command_bytes.m N a1) fun y28=>
    ob (impl_leafHash.m N y28) fun y29=>
    bif (room (a0.leaves.length+([y29]).length) 16) then
    some ((Reply.mk (1:Int) ((a0.leaves++[y29]).length:Int) (ByteArray.empty++a1.Value)),(books.mk (a0.leaves++[y29]) y27.1 ([])))
    else none
    else none
  else
  bif (a1.Kind==(3:Int)) then
    bif (!y1.2) then
      some ((Reply.mk (2:Int) (0:Int) ByteArray.empty),(books.mk a0.leaves a0.pairs ([])))
    else
    bif ((a0.leaves.length:Int)==(50:Int)) then
      some ((Reply.mk (6:Int) (0:Int) ByteArray.empty),(books.mk a0.leaves a0.pairs ([])))
    else
    ob (impl_isValue.m N ByteArray.empty) fun y30=>
    bif (bif false then true else (!y30)) then
      some ((Reply.mk (6:Int) (0:Int) ByteArray.empty),(books.mk a0.leaves a0.pairs ([])))
    else
    bif (a1.Kind==(3:Int)) then
      ob (slices_Delete_impl_pairOf.m N a0.pairs y1.1 (w64 (y1.1+(1:Int)))) fun y31=>
      ob (impl_Command_bytes.m N a1) fun y32=>
      ob (impl_leafHash.m N y32) fun y33=>
      bif (room (a0.leaves.length+([y33]).length) 16) then
      some ((Reply.mk (1:Int) ((a0.leaves++[y33]).length:Int) ByteArray.empty),(books.mk (a0.leaves++[y33]) y31 ([])))
      else none
    else
    ob (impl_mapPut.m N a0.pairs a1.Key ByteArray.empty) fun y34=>
    bif (y34.2 != (0:Int)) then
      some ((Reply.mk (6:Int) (0:Int) ByteArray.empty),(books.mk a0.leaves a0.pairs ([])))
    else
    ob (impl_Command_bytes.m N a1) fun y35=>
    ob (impl_leafHash.m N y35) fun y36=>
    bif (room (a0.leaves.length+([y36]).length) 16) then
    some ((Reply.mk (1:Int) ((a0.leaves++[y36]).length:Int) ByteArray.empty),(books.mk (a0.leaves++[y36]) y34.1 ([])))
    else none
  else
  bif ((a0.leaves.length:Int)==(50:Int)) then
    some ((Reply.mk (6:Int) (0:Int) ByteArray.empty),(books.mk a0.leaves a0.pairs ([])))
  else
  ob (impl_isValue.m N a1.Value) fun y37=>
  bif (bif false then true else (!y37)) then
    some ((Reply.mk (6:Int) (0:Int) ByteArray.empty),(books.mk a0.leaves a0.pairs ([])))
  else
  bif (a1.Kind==(3:Int)) then
    ob (slices_Delete_impl_pairOf.m N a0.pairs y1.1 (w64 (y1.1+(1:Int)))) fun y38=>
    ob (impl_Command_bytes.m N a1) fun y39=>
    ob (impl_leafHash.m N y39) fun y40=>
    bif (room (a0.leaves.length+([y40]).length) 16) then
    some ((Reply.mk (1:Int) ((a0.leaves++[y40]).length:Int) a1.Value),(books.mk (a0.leaves++[y40]) y38 ([])))
    else none
  else
  ob (impl_mapPut.m N a0.pairs a1.Key a1.Value) fun y41=>
  bif (y41.2 != (0:Int)) then
    some ((Reply.mk (6:Int) (0:Int) ByteArray.empty),(books.mk a0.leaves a0.pairs ([])))
  else
  ob (impl_Command_bytes.m N a1) fun y42=>
  ob (impl_leafHash.m N y42) fun y43=>
  bif (room (a0.leaves.length+([y43]).length) 16) then
  some ((Reply.mk (1:Int) ((a0.leaves++[y43]).length:Int) a1.Value),(books.mk (a0.leaves++[y43]) y41.1 ([])))
  else none
@[reducible] noncomputable def sp (N:Nat):Spec E:=⟨[.box false 93 92,.val (.st 31)],[(.st 27)],true,false,R,fun x=>m N x.1 x.2.1,fun r=>(r.1,()),fun r=>(r.2,(),()),fun a b=>(a.1,b.1),fun _ _=>rfl,fun _ _=>rfl⟩
end impl_books_write
namespace impl_books_apply
abbrev R:=Reply×books
noncomputable def m (N:Nat) (a0:books) (a1:Command):Option R:=
  bif a1.Kind==(4:Int) then impl_books_open.m N a0 a1.Session
  else bif a1.Kind==(5:Int) then impl_books_shut.m N a0 a1.Session
  else ob (impl_books_sessionAt_.m N a0 a1.Session) fun y=>
    bif !y.2 then some (Reply.mk 4 0 ByteArray.empty,a0)
    else bif decide (0≤y.1)&&decide (y.1<(a0.sessions.length:Int)) then
      bif decide (a1.Seq=(a0.sessions.getD y.1.toNat Session.dz).Seq) then bif decide ((a0.sessions.getD y.1.toNat Session.dz).Last.Kind=0) then none else some ((a0.sessions.getD y.1.toNat Session.dz).Last,a0)
      else bif decide (a1.Seq≤(a0.sessions.getD y.1.toNat Session.dz).Seq) then some (Reply.mk 3 0 ByteArray.empty,a0)
      else ob (impl_books_write.m N a0 a1) fun w=>some (w.1,books.mk w.2.leaves w.2.pairs (a0.sessions.set y.1.toNat (Session.mk (a0.sessions.getD y.1.toNat Session.dz).Id a1.Seq w.1)))
    else none
@[reducible] noncomputable def sp (N:Nat):Spec E:={ ps:=[.box false 93 93,.val (.st 31)],rs:=[(.st 27)],own:=true,dp:=false,R:=R,fn:=fun x=>m N x.1 x.2.1,res:=fun r=>(r.1,()),out:=fun r=>(r.2,(),()),shut:=fun a b=>(a.1,b.1),res_shut:=fun _ _=>rfl,out_shut:=fun _ _=>rfl }
end impl_books_apply
end Mir.Y
