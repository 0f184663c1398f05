/- Models of functions. -/
import Derived.Test.YtmjmhkpkmejbnaaGreatQSM2
namespace Mir.Y
set_option linter.unusedVariables false
set_option maxRecDepth 10000
open Go Go.Proofs Mir
set_option linter.unusedSectionVars false
variable [UU]
namespace impl_wordsOf
abbrev R:=(List Int)
noncomputable def step3 (N:Nat) (a0:ByteArray) (rec:(Int×(List Int)×(List Int))→Option R):(Int×(List Int)×(List Int))→Option R
 | (v1,v2,v3)=>
  bif (decide (v1<(64:Int))) then
   bif (decide (v1<(16:Int))) then
    bif (decide (0≤(w64 ((4:Int) * v1)))) then
    bif (decide ((w64 ((4:Int) * v1))<(a0.size:Int))) then
    bif (!decide ((24:Int)<0)) then
    bif (decide (0≤(w64 ((w64 ((4:Int) * v1))+(1:Int))))) then
    bif (decide ((w64 ((w64 ((4:Int) * v1))+(1:Int)))<(a0.size:Int))) then
    bif (!decide ((16:Int)<0)) then
    (let w1:Int:=(ibit .or .u32 (wu32 ((wu32 (sb a0 (w64 ((4:Int) * v1)))) * 2 ^ (min (Int.toNat (24:Int)) 32))) (wu32 ((wu32 (sb a0 (w64 ((w64 ((4:Int) * v1))+(1:Int))))) * 2 ^ (min (Int.toNat (16:Int)) 32))))
    bif (decide (0≤(w64 ((w64 ((4:Int) * v1))+(2:Int))))) then
    bif (decide ((w64 ((w64 ((4:Int) * v1))+(2:Int)))<(a0.size:Int))) then
    bif (!decide ((8:Int)<0)) then
    bif (decide (0≤(w64 ((w64 ((4:Int) * v1))+(3:Int))))) then
    bif (decide ((w64 ((w64 ((4:Int) * v1))+(3:Int)))<(a0.size:Int))) then
    (let w2:Int:=(ibit .or .u32 (ibit .or .u32 w1 (wu32 ((wu32 (sb a0 (w64 ((w64 ((4:Int) * v1))+(2:Int))))) * 2 ^ (min (Int.toNat (8:Int)) 32)))) (wu32 (sb a0 (w64 ((w64 ((4:Int) * v1))+(3:Int))))))
    bif (decide (0≤v1)) then
    bif (decide (v1<(64:Int))) then
    rec ((w64 (v1+(1:Int))),v2,(v3.set (Int.toNat v1) w2))
    else none
    else none)
    else none
    else none
    else none
    else none
    else none)
    else none
    else none
    else none
    else none
    else none
    else none
   else
   bif (decide (0≤(w64 (v1 - (15:Int))))) then
   bif (decide ((w64 (v1 - (15:Int)))<(64:Int))) then
   bif (decide (0≤(w64 (v1 - (2:Int))))) then
   bif (decide ((w64 (v1 - (2:Int)))<(64:Int))) then
   ob (impl_turned.m N (v3.getD (Int.toNat (w64 (v1 - (15:Int)))) 0) (7:Int)) fun y3=>
   ob (impl_turned.m N (v3.getD (Int.toNat (w64 (v1 - (15:Int)))) 0) (18:Int)) fun y4=>
   bif (!decide ((3:Int)<0)) then
   ob (impl_turned.m N (v3.getD (Int.toNat (w64 (v1 - (2:Int)))) 0) (17:Int)) fun y5=>
   ob (impl_turned.m N (v3.getD (Int.toNat (w64 (v1 - (2:Int)))) 0) (19:Int)) fun y6=>
   bif (!decide ((10:Int)<0)) then
   bif (decide (0≤(w64 (v1 - (16:Int))))) then
   bif (decide ((w64 (v1 - (16:Int)))<(64:Int))) then
   (let w7:Int:=(wu32 ((v3.getD (Int.toNat (w64 (v1 - (16:Int)))) 0)+(ibit .xor .u32 (ibit .xor .u32 y3 y4) (Int.fdiv (v3.getD (Int.toNat (w64 (v1 - (15:Int)))) 0) (2 ^ (min (Int.toNat (3:Int)) 32))))))
   bif (decide (0≤(w64 (v1 - (7:Int))))) then
   bif (decide ((w64 (v1 - (7:Int)))<(64:Int))) then
   (let w8:Int:=(wu32 ((wu32 (w7+(v3.getD (Int.toNat (w64 (v1 - (7:Int)))) 0)))+(ibit .xor .u32 (ibit .xor .u32 y5 y6) (Int.fdiv (v3.getD (Int.toNat (w64 (v1 - (2:Int)))) 0) (2 ^ (min (Int.toNat (10:Int)) 32))))))
   bif (decide (0≤v1)) then
   bif (decide (v1<(64:Int))) then
   rec ((w64 (v1+(1:Int))),v2,(v3.set (Int.toNat v1) w8))
   else none
   else none)
   else none
   else none)
   else none
   else none
   else none
   else none
   else none
   else none
   else none
   else none
  else
  some v3
noncomputable def lp3 (N:Nat) (a0:ByteArray):(Int×(List Int)×(List Int))→Option R:=
 miter (fun rec=>step3 N a0 rec) N
noncomputable def m0 (N:Nat) (a0:ByteArray) (lp3:Int×(List Int)×(List Int)→Option R):Option R:=
 lp3 ((0:Int),(List.replicate 64 (0:Int)),(List.replicate 64 (0:Int)))
@[reducible] noncomputable def m (N:Nat) (a0:ByteArray):Option R:=m0 N a0 (lp3 N a0)
@[reducible] noncomputable def sp (N:Nat):Spec E:=⟨[.val .str],[(.arr .u32 64)],true,false,R,fun x=>m N x.1,fun r=>(r,()),fun r=>((),()),fun a b=>a.1,fun _ _=>rfl,fun _ _=>rfl⟩
end impl_wordsOf
namespace impl_blockHash
abbrev R:=(List Int)
noncomputable def step3 (N:Nat) (a0:List Int) (a1:List Int) (a2:ByteArray) (lp11:Int×(List Int)×(List Int)→Option R) (rec:(Int×(List Int)×(List Int)×(List Int))→Option R):(Int×(List Int)×(List Int)×(List Int))→Option R
 | (v0,v3,v4,v5)=>
  bif (decide (v0<(64:Int))) then
   bif (decide (0≤(0:Int))) then
   bif (decide ((0:Int)<(8:Int))) then
   bif (decide (0≤(1:Int))) then
   bif (decide ((1:Int)<(8:Int))) then
   bif (decide (0≤(2:Int))) then
   bif (decide ((2:Int)<(8:Int))) then
   bif (decide (0≤(4:Int))) then
   bif (decide ((4:Int)<(8:Int))) then
   bif (decide (0≤(5:Int))) then
   bif (decide ((5:Int)<(8:Int))) then
   bif (decide (0≤(6:Int))) then
   bif (decide ((6:Int)<(8:Int))) then
   bif (decide (0≤(7:Int))) then
   bif (decide ((7:Int)<(8:Int))) then
   ob (impl_turned.m N (v4.getD 4 0) (6:Int)) fun y2=>
   ob (impl_turned.m N (v4.getD 4 0) (11:Int)) fun y3=>
   ob (impl_turned.m N (v4.getD 4 0) (25:Int)) fun y4=>
   (let w5:Int:=(ibit .or .u32 (ibit .and .u32 (v4.getD 4 0) (v4.getD 5 0)) (ibit .and .u32 (ibit .xor .u32 (if IntKind.signed .u32 then -1 else IntKind.max .u32) (v4.getD 4 0)) (v4.getD 6 0)))
   bif (decide (0≤v0)) then
   bif (decide (v0<(64:Int))) then
   bif (decide (0≤v0)) then
   bif (decide (v0<(64:Int))) then
   (let w6:Int:=(wu32 ((wu32 ((wu32 ((wu32 ((v4.getD 7 0)+(ibit .xor .u32 (ibit .xor .u32 y2 y3) y4)))+w5))+(a1.getD (Int.toNat v0) 0)))+(v5.getD (Int.toNat v0) 0)))
   ob (impl_turned.m N (v4.getD 0 0) (2:Int)) fun y7=>
   ob (impl_turned.m N (v4.getD 0 0) (13:Int)) fun y8=>
   ob (impl_turned.m N (v4.getD 0 0) (22:Int)) fun y9=>
   (let w10:Int:=(ibit .or .u32 (ibit .or .u32 (ibit .and .u32 (v4.getD 0 0) (v4.getD 1 0)) (ibit .and .u32 (v4.getD 0 0) (v4.getD 2 0))) (ibit .and .u32 (v4.getD 1 0) (v4.getD 2 0)))
   bif (decide (0≤(3:Int))) then
   bif (decide ((3:Int)<(8:Int))) then
   (let w11:List Int:=[(wu32 (w6+(wu32 ((ibit .xor .u32 (ibit .xor .u32 y7 y8) y9)+w10)))),(v4.getD 0 0),(v4.getD 1 0),(v4.getD 2 0),(wu32 ((v4.getD 3 0)+w6)),(v4.getD 4 0),(v4.getD 5 0),(v4.getD 6 0)]
   rec ((w64 (v0+(1:Int))),v3,w11,v5))
   else none
   else none))
   else none
   else none
   else none
   else none)
   else none
   else none
   else none
   else none
   else none
   else none
   else none
   else none
   else none
   else none
   else none
   else none
   else none
   else none
  else
  lp11 ((0:Int),v3,v4)
noncomputable def step11 (N:Nat) (a0:List Int) (a1:List Int) (a2:ByteArray) (rec:(Int×(List Int)×(List Int))→Option R):(Int×(List Int)×(List Int))→Option R
 | (v0,v2,v3)=>
  bif (decide (v0<(8:Int))) then
   bif (decide (0≤v0)) then
   bif (decide (v0<(8:Int))) then
   bif (decide (0≤v0)) then
   bif (decide (v0<(8:Int))) then
   bif (decide (0≤v0)) then
   bif (decide (v0<(8:Int))) then
   rec ((w64 (v0+(1:Int))),v2,(v3.set (Int.toNat v0) (wu32 ((v3.getD (Int.toNat v0) 0)+(a0.getD (Int.toNat v0) 0)))))
   else none
   else none
   else none
   else none
   else none
   else none
  else
  some v3
noncomputable def lp11 (N:Nat) (a0:List Int) (a1:List Int) (a2:ByteArray):(Int×(List Int)×(List Int))→Option R:=
 miter (fun rec=>step11 N a0 a1 a2 rec) N
noncomputable def lp3 (N:Nat) (a0:List Int) (a1:List Int) (a2:ByteArray):(Int×(List Int)×(List Int)×(List Int))→Option R:=
 miter (fun rec=>step3 N a0 a1 a2 (lp11 N a0 a1 a2) rec) N
noncomputable def m0 (N:Nat) (a0:List Int) (a1:List Int) (a2:ByteArray) (lp3:Int×(List Int)×(List Int)×(List Int)→Option R):Option R:=
 ob (impl_wordsOf.m N a2) fun y1=>
 lp3 ((0:Int),(List.replicate 8 (0:Int)),a0,y1)
@[reducible] noncomputable def m (N:Nat) (a0:List Int) (a1:List Int) (a2:ByteArray):Option R:=m0 N a0 a1 a2 (lp3 N a0 a1 a2)
@[reducible] noncomputable def sp (N:Nat):Spec E:=⟨[.val (.arr .u32 8),.val (.arr .u32 64),.val .str],[(.arr .u32 8)],true,false,R,fun x=>m N x.1 x.2.1 x.2.2.1,fun r=>(r,()),fun r=>((),(),(),()),fun a b=>a.1,fun _ _=>rfl,fun _ _=>rfl⟩
end impl_blockHash
namespace impl_hash
abbrev R:=ByteArray
noncomputable def step4 (N:Nat) (a0:ByteArray) (lp9:ByteArray×(List Int)×Int→Option R) (rec:(ByteArray×Int×(List Int)×(List Int))→Option R):(ByteArray×Int×(List Int)×(List Int))→Option R
 | (v0,v1,v2,v3)=>
  bif (decide (v1<(v0.size:Int))) then
   bif (decide (0≤(w64 (v1+(64:Int))))) then
   bif (decide ((w64 (v1+(64:Int)))≤((v0.size:Nat):Int))) then
   bif (decide (0≤v1)) then
   bif (decide (v1≤(((Int.toNat (w64 (v1+(64:Int)))):Nat):Int))) then
   ob (impl_blockHash.m N v2 v3 (v0.extract (Int.toNat v1) (Int.toNat (w64 (v1+(64:Int)))))) fun y5=>
   rec (v0,(w64 (v1+(64:Int))),y5,v3)
   else none
   else none
   else none
   else none
  else
  lp9 (ByteArray.empty,v2,(0:Int))
noncomputable def step9 (N:Nat) (a0:ByteArray) (rec:(ByteArray×(List Int)×Int)→Option R):(ByteArray×(List Int)×Int)→Option R
 | (v0,v1,v2)=>
  bif (decide (v2<(8:Int))) then
   bif (decide (0≤v2)) then
   bif (decide (v2<(8:Int))) then
   ob (impl_number.m N (w64 (v1.getD (Int.toNat v2) 0)) (4:Int)) fun y6=>
   bif (decide (v0.size+y6.size≤9223372036854775807)) then
   rec ((v0++y6),v1,(w64 (v2+(1:Int))))
   else none
   else none
   else none
  else
  some v0
noncomputable def lp9 (N:Nat) (a0:ByteArray):(ByteArray×(List Int)×Int)→Option R:=
 miter (fun rec=>step9 N a0 rec) N
noncomputable def lp4 (N:Nat) (a0:ByteArray):(ByteArray×Int×(List Int)×(List Int))→Option R:=
 miter (fun rec=>step4 N a0 (lp9 N a0) rec) N
noncomputable def m0 (N:Nat) (a0:ByteArray) (lp4:ByteArray×Int×(List Int)×(List Int)→Option R):Option R:=
 bif (decide (a0.size+(⟨#[128]⟩:ByteArray).size≤9223372036854775807)) then
 bif (!decide ((64:Int)=0)) then
 bif (!decide ((64:Int)=0)) then
 ob (strings_Repeat.m N (⟨#[0]⟩:ByteArray) (Int.tmod (w64 ((119:Int) - (Int.tmod (a0.size:Int) (64:Int)))) (64:Int))) fun y1=>
 bif (decide ((a0++(⟨#[128]⟩:ByteArray)).size+y1.size≤9223372036854775807)) then
 ob (impl_number.m N (w64 ((8:Int) * (a0.size:Int))) (8:Int)) fun y2=>
 bif (decide (((a0++(⟨#[128]⟩:ByteArray))++y1).size+y2.size≤9223372036854775807)) then
 ob (impl_hashWords.m N) fun y3=>
 ob (impl_roundWords.m N) fun y4=>
 lp4 ((((a0++(⟨#[128]⟩:ByteArray))++y1)++y2),(0:Int),y3,y4)
 else none
 else none
 else none
 else none
 else none
@[reducible] noncomputable def m (N:Nat) (a0:ByteArray):Option R:=m0 N a0 (lp4 N a0)
@[reducible] noncomputable def sp (N:Nat):Spec E:=⟨[.val .str],[.str],true,false,R,fun x=>m N x.1,fun r=>(r,()),fun r=>((),()),fun a b=>a.1,fun _ _=>rfl,fun _ _=>rfl⟩
end impl_hash
namespace impl_Branch_isFork
abbrev R:=Bool
noncomputable def m (N:Nat) (a0:Branch):Option R:=
 bif (seq a0.Key ByteArray.empty) then
  bif (bif true then (seq a0.Value ByteArray.empty) else false) then
   ob (impl_within.m N a0.At (0:Int) (255:Int)) fun y1=>
   bif (bif true then y1 else false) then
    some (bif true then ((a0.Kids.length:Int)==(2:Int)) else false)
   else
   some false
  else
  some false
 else
 some false
@[reducible] noncomputable def sp (N:Nat):Spec E:=⟨[.val (.st 36)],[.bool],true,false,R,fun x=>m N x.1,fun r=>(r,()),fun r=>((),()),fun a b=>a.1,fun _ _=>rfl,fun _ _=>rfl⟩
end impl_Branch_isFork
namespace impl_bit
abbrev R:=Int
noncomputable def m (N:Nat) (a0:ByteArray) (a1:Int):Option R:=
 bif (!decide ((8:Int)=0)) then
 bif (decide (0≤(w64 (Int.tdiv a1 (8:Int))))) then
 bif (decide ((w64 (Int.tdiv a1 (8:Int)))<(a0.size:Int))) then
 bif (!decide ((8:Int)=0)) then
 bif (!decide ((w64 ((7:Int) - (Int.tmod a1 (8:Int))))<0)) then
 (let w1:Int:=(ibit .and .i64 (w64 (Int.fdiv (sb a0 (w64 (Int.tdiv a1 (8:Int)))) (2 ^ (min (Int.toNat (w64 ((7:Int) - (Int.tmod a1 (8:Int))))) 8)))) (1:Int))
 some w1)
 else none
 else none
 else none
 else none
 else none
@[reducible] noncomputable def sp (N:Nat):Spec E:=⟨[.val .str,.val (.int .i64)],[(.int .i64)],true,false,R,fun x=>m N x.1 x.2.1,fun r=>(r,()),fun r=>((),(),()),fun a b=>a.1,fun _ _=>rfl,fun _ _=>rfl⟩
end impl_bit
namespace impl_Branch_pairs_1
abbrev R:=Bool
noncomputable def m (N:Nat) (a0:pairOf) (a1:Branch) (a2:Int):Option R:=
 ob (impl_bit.m N a0.hash a1.At) fun y1=>
 some (y1 != a2)
@[reducible] noncomputable def sp (N:Nat):Spec E:=⟨[.val (.st 98),.cap (.rb (.st 36)),.cap (.rb (.int .i64))],[.bool],true,false,R,fun x=>m N x.1 x.2.1 x.2.2.1,fun r=>(r,()),fun r=>((),(),(),()),fun a b=>a.1,fun _ _=>rfl,fun _ _=>rfl⟩
end impl_Branch_pairs_1
namespace slices_IndexFunc_impl_pairOf_impl_pairOf__impl_Branch_pairs_1
abbrev R:=Int
noncomputable def step2 (N:Nat) (a0:List pairOf) (a1_0:Branch) (a1_1:Int) (rec:(Int×Int)→Option R):(Int×Int)→Option R
 | (v1,v2)=>
  bif (decide (v2<v1)) then
   bif (decide (0≤v2)) then
   bif (decide (v2<(a0.length:Int))) then
   ob (impl_Branch_pairs_1.m N (a0.getD (Int.toNat v2) pairOf.dz) (Branch.mk a1_0.Key a1_0.Value a1_0.At a1_0.Kids) a1_1) fun y1=>
   bif y1 then
    some v2
   else
   rec (v1,(w64 (v2+(1:Int))))
   else none
   else none
  else
  some (-1:Int)
noncomputable def lp2 (N:Nat) (a0:List pairOf) (a1_0:Branch) (a1_1:Int):(Int×Int)→Option R:=
 miter (fun rec=>step2 N a0 a1_0 a1_1 rec) N
noncomputable def m0 (N:Nat) (a0:List pairOf) (a1_0:Branch) (a1_1:Int) (lp2:Int×Int→Option R):Option R:=
 lp2 ((a0.length:Int),(0:Int))
@[reducible] noncomputable def m (N:Nat) (a0:List pairOf) (a1_0:Branch) (a1_1:Int):Option R:=m0 N a0 a1_0 a1_1 (lp2 N a0 a1_0 a1_1)
@[reducible] noncomputable def sp (N:Nat):Spec E:=⟨[.val (.slice 98 (.st 98)),.clo 131 [.rb (.st 36),.rb (.int .i64)]],[(.int .i64)],true,false,R,fun x=>m N x.1 x.2.1.1 x.2.1.2.1,fun r=>(r,()),fun r=>((),(),()),fun a b=>a.1,fun _ _=>rfl,fun _ _=>rfl⟩
end slices_IndexFunc_impl_pairOf_impl_pairOf__impl_Branch_pairs_1
namespace slices_ContainsFunc_impl_pairOf_impl_pairOf__impl_Branch_pairs_1
abbrev R:=Bool
noncomputable def m (N:Nat) (a0:List pairOf) (a1_0:Branch) (a1_1:Int):Option R:=
 ob (slices_IndexFunc_impl_pairOf_impl_pairOf__impl_Branch_pairs_1.m N a0 (Branch.mk a1_0.Key a1_0.Value a1_0.At a1_0.Kids) a1_1) fun y1=>
 some (decide (y1≥(0:Int)))
@[reducible] noncomputable def sp (N:Nat):Spec E:=⟨[.val (.slice 98 (.st 98)),.clo 131 [.rb (.st 36),.rb (.int .i64)]],[.bool],true,false,R,fun x=>m N x.1 x.2.1.1 x.2.1.2.1,fun r=>(r,()),fun r=>((),(),()),fun a b=>a.1,fun _ _=>rfl,fun _ _=>rfl⟩
end slices_ContainsFunc_impl_pairOf_impl_pairOf__impl_Branch_pairs_1
namespace impl_sameAhead
abbrev R:=Bool
noncomputable def step2 (N:Nat) (a0:ByteArray) (a1:ByteArray) (a2:Int) (rec:Int→Option R):Int→Option R
 | v3=>
  bif (decide (v3<a2)) then
   ob (impl_bit.m N a0 v3) fun y1=>
   ob (impl_bit.m N a1 v3) fun y2=>
   bif (y1 != y2) then
    some false
   else
   rec (w64 (v3+(1:Int)))
  else
  some true
noncomputable def lp2 (N:Nat) (a0:ByteArray) (a1:ByteArray) (a2:Int):Int→Option R:=
 miter (fun rec=>step2 N a0 a1 a2 rec) N
noncomputable def m0 (N:Nat) (a0:ByteArray) (a1:ByteArray) (a2:Int) (lp2:Int→Option R):Option R:=
 lp2 (0:Int)
@[reducible] noncomputable def m (N:Nat) (a0:ByteArray) (a1:ByteArray) (a2:Int):Option R:=m0 N a0 a1 a2 (lp2 N a0 a1 a2)
@[reducible] noncomputable def sp (N:Nat):Spec E:=⟨[.val .str,.val .str,.val (.int .i64)],[.bool],true,false,R,fun x=>m N x.1 x.2.1 x.2.2.1,fun r=>(r,()),fun r=>((),(),(),()),fun a b=>a.1,fun _ _=>rfl,fun _ _=>rfl⟩
end impl_sameAhead
namespace impl_Branch_pairs_2
abbrev R:=Bool
noncomputable def m (N:Nat) (a0:pairOf) (a1:List pairOf) (a2:Branch):Option R:=
 bif (decide (0≤(0:Int))) then
 bif (decide ((0:Int)<(a1.length:Int))) then
 ob (impl_sameAhead.m N a0.hash ((a1.getD 0 pairOf.dz).hash) a2.At) fun y1=>
 some (!y1)
 else none
 else none
@[reducible] noncomputable def sp (N:Nat):Spec E:=⟨[.val (.st 98),.cap (.rb (.slice 98 (.st 98))),.cap (.rb (.st 36))],[.bool],true,false,R,fun x=>m N x.1 x.2.1 x.2.2.1,fun r=>(r,()),fun r=>((),(),(),()),fun a b=>a.1,fun _ _=>rfl,fun _ _=>rfl⟩
end impl_Branch_pairs_2
namespace slices_IndexFunc_impl_pairOf_impl_pairOf__impl_Branch_pairs_2
abbrev R:=Int
noncomputable def step2 (N:Nat) (a0:List pairOf) (a1_0:List pairOf) (a1_1:Branch) (rec:(Int×Int)→Option R):(Int×Int)→Option R
 | (v1,v2)=>
  bif (decide (v2<v1)) then
   bif (decide (0≤v2)) then
   bif (decide (v2<(a0.length:Int))) then
   ob (impl_Branch_pairs_2.m N (a0.getD (Int.toNat v2) pairOf.dz) a1_0 (Branch.mk a1_1.Key a1_1.Value a1_1.At a1_1.Kids)) fun y1=>
   bif y1 then
    some v2
   else
   rec (v1,(w64 (v2+(1:Int))))
   else none
   else none
  else
  some (-1:Int)
noncomputable def lp2 (N:Nat) (a0:List pairOf) (a1_0:List pairOf) (a1_1:Branch):(Int×Int)→Option R:=
 miter (fun rec=>step2 N a0 a1_0 a1_1 rec) N
noncomputable def m0 (N:Nat) (a0:List pairOf) (a1_0:List pairOf) (a1_1:Branch) (lp2:Int×Int→Option R):Option R:=
 lp2 ((a0.length:Int),(0:Int))
@[reducible] noncomputable def m (N:Nat) (a0:List pairOf) (a1_0:List pairOf) (a1_1:Branch):Option R:=m0 N a0 a1_0 a1_1 (lp2 N a0 a1_0 a1_1)
@[reducible] noncomputable def sp (N:Nat):Spec E:=⟨[.val (.slice 98 (.st 98)),.clo 132 [.rb (.slice 98 (.st 98)),.rb (.st 36)]],[(.int .i64)],true,false,R,fun x=>m N x.1 x.2.1.1 x.2.1.2.1,fun r=>(r,()),fun r=>((),(),()),fun a b=>a.1,fun _ _=>rfl,fun _ _=>rfl⟩
end slices_IndexFunc_impl_pairOf_impl_pairOf__impl_Branch_pairs_2
namespace slices_ContainsFunc_impl_pairOf_impl_pairOf__impl_Branch_pairs_2
abbrev R:=Bool
noncomputable def m (N:Nat) (a0:List pairOf) (a1_0:List pairOf) (a1_1:Branch):Option R:=
 ob (slices_IndexFunc_impl_pairOf_impl_pairOf__impl_Branch_pairs_2.m N a0 a1_0 (Branch.mk a1_1.Key a1_1.Value a1_1.At a1_1.Kids)) fun y1=>
 some (decide (y1≥(0:Int)))
@[reducible] noncomputable def sp (N:Nat):Spec E:=⟨[.val (.slice 98 (.st 98)),.clo 132 [.rb (.slice 98 (.st 98)),.rb (.st 36)]],[.bool],true,false,R,fun x=>m N x.1 x.2.1.1 x.2.1.2.1,fun r=>(r,()),fun r=>((),(),()),fun a b=>a.1,fun _ _=>rfl,fun _ _=>rfl⟩
end slices_ContainsFunc_impl_pairOf_impl_pairOf__impl_Branch_pairs_2
namespace impl_Branch_pairs
abbrev R:=(List pairOf)×Bool×Int
@[reducible] noncomputable def spf (f:Branch→Int→Int→Option R):Spec E:=⟨[.val (.st 36),.val (.int .i64),.box false 3 3],[(.slice 98 (.st 98)),.bool],true,false,R,fun x=>f x.1 x.2.1 x.2.2.1,fun r=>(r.1,r.2.1,()),fun r=>((),(),r.2.2,()),fun a b=>(a.1,a.2.1,b.2.2.1),fun _ _=>rfl,fun _ _=>rfl⟩
end impl_Branch_pairs
namespace impl_Branch_pairs
noncomputable def step8 (N:Nat) (slf:Branch→Int→Int→Option R) (a0:Branch) (a1:Int) (a2:Int) (rec:(Int×Int×Int×(List pairOf))→Option R):(Int×Int×Int×(List pairOf))→Option R
 | (v1,v2,v3,v8)=>
  bif (decide (v2<v1)) then
   bif (decide (0≤v2)) then
   bif (decide (v2<(a0.Kids.length:Int))) then
   ob (slf (Branch.mk ((a0.Kids.getD (Int.toNat v2) Branch.dz).Key) ((a0.Kids.getD (Int.toNat v2) Branch.dz).Value) ((a0.Kids.getD (Int.toNat v2) Branch.dz).At) ((a0.Kids.getD (Int.toNat v2) Branch.dz).Kids)) a0.At v3) fun y4=>
   bif (!y4.2.1) then
    some (([]:List pairOf),false,y4.2.2)
   else
   ob (slices_ContainsFunc_impl_pairOf_impl_pairOf__impl_Branch_pairs_1.m N y4.1 (Branch.mk a0.Key a0.Value a0.At a0.Kids) v2) fun y5=>
   bif (bif false then true else y5) then
    some (([]:List pairOf),false,y4.2.2)
   else
   bif (room (v8.length+y4.1.length) 48) then
   rec (v1,(w64 (v2+(1:Int))),y4.2.2,(v8++y4.1))
   else none
   else none
   else none
  else
  ob (slices_ContainsFunc_impl_pairOf_impl_pairOf__impl_Branch_pairs_2.m N v8 v8 (Branch.mk a0.Key a0.Value a0.At a0.Kids)) fun y6=>
  some (v8,(!y6),v3)
noncomputable def lp8 (N:Nat) (slf:Branch→Int→Int→Option R) (a0:Branch) (a1:Int) (a2:Int):(Int×Int×Int×(List pairOf))→Option R:=
 miter (fun rec=>step8 N slf a0 a1 a2 rec) N
noncomputable def m0 (N:Nat) (slf:Branch→Int→Int→Option R) (a0:Branch) (a1:Int) (a2:Int) (lp8:Int×Int×Int×(List pairOf)→Option R):Option R:=
 ob (impl_Branch_isLeaf.m N (Branch.mk a0.Key a0.Value a0.At a0.Kids)) fun y1=>
 bif y1 then
  ob (impl_hash.m N a0.Key) fun y2=>
  some ([(pairOf.mk a0.Key a0.Value y2)],(decide ((w64 (a2 - (1:Int)))≥(0:Int))),(w64 (a2 - (1:Int))))
 else
 ob (impl_Branch_isFork.m N (Branch.mk a0.Key a0.Value a0.At a0.Kids)) fun y3=>
 bif (!y3) then
  some (([]:List pairOf),false,a2)
 else
 bif (bif false then true else (decide (a0.At≤a1))) then
  some (([]:List pairOf),false,a2)
 else
 lp8 ((a0.Kids.length:Int),(0:Int),a2,([]:List pairOf))
@[reducible] noncomputable def mb (N:Nat) (slf:Branch→Int→Int→Option R) (a0:Branch) (a1:Int) (a2:Int):Option R:=m0 N slf a0 a1 a2 (lp8 N slf a0 a1 a2)
noncomputable def mF (N:Nat):Nat→Branch→Int→Int→Option R
 | 0=>fun _ _ _=>none
 | n+1=>fun a0 a1 a2=>mb N (mF N n) a0 a1 a2
noncomputable def m (N:Nat):Branch→Int→Int→Option R:=mF N N
@[reducible] noncomputable def sp (N:Nat):Spec E:=spf (m N)
end impl_Branch_pairs
namespace impl_mapPairs
abbrev R:=(List pairOf)×Bool
noncomputable def m (N:Nat) (a0:Branch):Option R:=
 ob (impl_Branch_isEmpty.m N (Branch.mk a0.Key a0.Value a0.At a0.Kids)) fun y1=>
 bif y1 then
  some (([]:List pairOf),true)
 else
 ob (impl_Branch_pairs.m N (Branch.mk a0.Key a0.Value a0.At a0.Kids) (-1:Int) (40:Int)) fun y2=>
 some (y2.1,y2.2.1)
@[reducible] noncomputable def sp (N:Nat):Spec E:=⟨[.val (.st 36)],[(.slice 98 (.st 98)),.bool],true,false,R,fun x=>m N x.1,fun r=>(r.1,r.2,()),fun r=>((),()),fun a b=>(a.1,a.2.1),fun _ _=>rfl,fun _ _=>rfl⟩
end impl_mapPairs
namespace impl_MapOK
abbrev R:=Bool
noncomputable def m (N:Nat) (a0:Branch):Option R:=
 ob (impl_mapPairs.m N (Branch.mk a0.Key a0.Value a0.At a0.Kids)) fun y1=>
 some y1.2
@[reducible] noncomputable def sp (N:Nat):Spec E:=⟨[.val (.st 36)],[.bool],true,false,R,fun x=>m N x.1,fun r=>(r,()),fun r=>((),()),fun a b=>a.1,fun _ _=>rfl,fun _ _=>rfl⟩
end impl_MapOK
namespace impl_isShort
abbrev R:=Bool
noncomputable def m (N:Nat) (a0:Int):Option R:=
 ob (impl_within.m N a0 (0:Int) (65535:Int)) fun y1=>
 some y1
@[reducible] noncomputable def sp (N:Nat):Spec E:=⟨[.val (.int .i64)],[.bool],true,false,R,fun x=>m N x.1,fun r=>(r,()),fun r=>((),()),fun a b=>a.1,fun _ _=>rfl,fun _ _=>rfl⟩
end impl_isShort
namespace impl_replyOK
abbrev R:=Bool
noncomputable def m (N:Nat) (a0:Reply):Option R:=
 ob (impl_within.m N a0.Kind (0:Int) (6:Int)) fun y1=>
 bif y1 then
  ob (impl_within.m N a0.Place (0:Int) (50:Int)) fun y2=>
  bif (bif true then y2 else false) then
   ob (impl_isValue.m N a0.Value) fun y3=>
   some (bif true then y3 else false)
  else
  some false
 else
 some false
@[reducible] noncomputable def sp (N:Nat):Spec E:=⟨[.val (.st 27)],[.bool],true,false,R,fun x=>m N x.1,fun r=>(r,()),fun r=>((),()),fun a b=>a.1,fun _ _=>rfl,fun _ _=>rfl⟩
end impl_replyOK
namespace impl_LedgerOK
abbrev R:=Bool
noncomputable def step4 (N:Nat) (a0:Ledger) (rec:(Int×Int)→Option R):(Int×Int)→Option R
 | (v1,v2)=>
  bif (decide (v2<v1)) then
   bif (decide (0≤v2)) then
   bif (decide (v2<(a0.Sessions.length:Int))) then
   ob (impl_isShort.m N ((a0.Sessions.getD (Int.toNat v2) Session.dz).Id)) fun y3=>
   bif (!y3) then
    some false
   else
   ob (impl_isShort.m N ((a0.Sessions.getD (Int.toNat v2) Session.dz).Seq)) fun y4=>
   bif (bif false then true else (!y4)) then
    some false
   else
   ob (impl_replyOK.m N (Reply.mk ((a0.Sessions.getD (Int.toNat v2) Session.dz).Last.Kind) ((a0.Sessions.getD (Int.toNat v2) Session.dz).Last.Place) ((a0.Sessions.getD (Int.toNat v2) Session.dz).Last.Value))) fun y5=>
   bif (bif false then true else (!y5)) then
    some false
   else
   bif (decide (v2 > (0:Int))) then
    bif (decide (0≤(w64 (v2 - (1:Int))))) then
    bif (decide ((w64 (v2 - (1:Int)))<(a0.Sessions.length:Int))) then
    (let w6:Bool:=(bif true then (decide ((a0.Sessions.getD (Int.toNat (w64 (v2 - (1:Int)))) Session.dz).Id≥(a0.Sessions.getD (Int.toNat v2) Session.dz).Id)) else false)
    bif (bif false then true else w6) then
     some false
    else
    rec (v1,(w64 (v2+(1:Int)))))
    else none
    else none
   else
   bif (bif false then true else false) then
    some false
   else
   rec (v1,(w64 (v2+(1:Int))))
   else none
   else none
  else
  some true
noncomputable def lp4 (N:Nat) (a0:Ledger):(Int×Int)→Option R:=
 miter (fun rec=>step4 N a0 rec) N
noncomputable def m0 (N:Nat) (a0:Ledger) (lp4:Int×Int→Option R):Option R:=
 bif (decide ((a0.Leaves.length:Int) > (50:Int))) then
  some false
 else
 ob (impl_isHash.m N a0.Leaves) fun y1=>
 bif (bif false then true else (!y1)) then
  some false
 else
 bif (bif false then true else (decide ((a0.Sessions.length:Int) > (8:Int)))) then
  some false
 else
 ob (impl_MapOK.m N (Branch.mk a0.Map.Key a0.Map.Value a0.Map.At a0.Map.Kids)) fun y2=>
 bif (bif false then true else (!y2)) then
  some false
 else
 lp4 ((a0.Sessions.length:Int),(0:Int))
@[reducible] noncomputable def m (N:Nat) (a0:Ledger):Option R:=m0 N a0 (lp4 N a0)
@[reducible] noncomputable def sp (N:Nat):Spec E:=⟨[.val (.st 39)],[.bool],true,false,R,fun x=>m N x.1,fun r=>(r,()),fun r=>((),()),fun a b=>a.1,fun _ _=>rfl,fun _ _=>rfl⟩
end impl_LedgerOK
namespace slices_Clone_string_string
abbrev R:=(List ByteArray)
noncomputable def m (N:Nat) (a0:List ByteArray):Option R:=
 amb (a0.isEmpty) true
  (some ([]:List ByteArray))
  (bif (room (([]:List ByteArray).length+a0.length) 16) then
  some (([]:List ByteArray)++a0)
  else none)
@[reducible] noncomputable def sp (N:Nat):Spec E:=⟨[.val (.slice 9 .str)],[(.slice 9 .str)],true,false,R,fun x=>m N x.1,fun r=>(r,()),fun r=>((),()),fun a b=>a.1,fun _ _=>rfl,fun _ _=>rfl⟩
end slices_Clone_string_string
namespace slices_Clone_impl_Session_impl_Session
abbrev R:=(List Session)
noncomputable def m (N:Nat) (a0:List Session):Option R:=
 amb (a0.isEmpty) true
  (some ([]:List Session))
  (bif (room (([]:List Session).length+a0.length) 48) then
  some (([]:List Session)++a0)
  else none)
@[reducible] noncomputable def sp (N:Nat):Spec E:=⟨[.val (.slice 72 (.st 72))],[(.slice 72 (.st 72))],true,false,R,fun x=>m N x.1,fun r=>(r,()),fun r=>((),()),fun a b=>a.1,fun _ _=>rfl,fun _ _=>rfl⟩
end slices_Clone_impl_Session_impl_Session
namespace impl_booksOf
abbrev R:=books
noncomputable def m (N:Nat) (a0:Ledger):Option R:=
 ob (impl_mapPairs.m N (Branch.mk a0.Map.Key a0.Map.Value a0.Map.At a0.Map.Kids)) fun y1=>
 ob (slices_Clone_string_string.m N a0.Leaves) fun y2=>
 ob (slices_Clone_impl_Session_impl_Session.m N a0.Sessions) fun y3=>
 some (books.mk y2 y1.1 y3)
@[reducible] noncomputable def sp (N:Nat):Spec E:=⟨[.val (.st 39)],[(.pbx 93 93)],true,false,R,fun x=>m N x.1,fun r=>(r,()),fun r=>((),()),fun a b=>a.1,fun _ _=>rfl,fun _ _=>rfl⟩
end impl_booksOf
namespace impl_counted
abbrev R:=ByteArray
noncomputable def m (N:Nat) (a0:ByteArray):Option R:=
 ob (impl_number.m N (a0.size:Int) (1:Int)) fun y1=>
 bif (decide (y1.size+a0.size≤9223372036854775807)) then
 some (y1++a0)
 else none
@[reducible] noncomputable def sp (N:Nat):Spec E:=⟨[.val .str],[.str],true,false,R,fun x=>m N x.1,fun r=>(r,()),fun r=>((),()),fun a b=>a.1,fun _ _=>rfl,fun _ _=>rfl⟩
end impl_counted
namespace impl_snapshot
abbrev R:=ByteArray
noncomputable def step4 (N:Nat) (a0:Ledger) (lp10:ByteArray×Int×Int×(List ByteArray)×(List pairOf)×(List Session)→Option R) (rec:(ByteArray×Int×Int×(List ByteArray)×(List pairOf)×(List Session))→Option R):(ByteArray×Int×Int×(List ByteArray)×(List pairOf)×(List Session))→Option R
 | (v0,v1,v2,v3,v4,v5)=>
  bif (decide (v2<v1)) then
   bif (decide (0≤v2)) then
   bif (decide (v2<(v3.length:Int))) then
   bif (decide (v0.size+(v3.getD (Int.toNat v2) ByteArray.empty).size≤9223372036854775807)) then
   rec ((v0++(v3.getD (Int.toNat v2) ByteArray.empty)),v1,(w64 (v2+(1:Int))),v3,v4,v5)
   else none
   else none
   else none
  else
  ob (impl_number.m N (v4.length:Int) (1:Int)) fun y3=>
  bif (decide (v0.size+y3.size≤9223372036854775807)) then
  lp10 ((v0++y3),(v4.length:Int),(0:Int),v3,v4,v5)
  else none
noncomputable def step10 (N:Nat) (a0:Ledger) (lp16:ByteArray×Int×Int×(List Session)→Option R) (rec:(ByteArray×Int×Int×(List ByteArray)×(List pairOf)×(List Session))→Option R):(ByteArray×Int×Int×(List ByteArray)×(List pairOf)×(List Session))→Option R
 | (v0,v1,v2,v3,v4,v5)=>
  bif (decide (v2<v1)) then
   bif (decide (0≤v2)) then
   bif (decide (v2<(v4.length:Int))) then
   ob (impl_counted.m N ((v4.getD (Int.toNat v2) pairOf.dz).key)) fun y4=>
   ob (impl_counted.m N ((v4.getD (Int.toNat v2) pairOf.dz).value)) fun y5=>
   bif (decide (y4.size+y5.size≤9223372036854775807)) then
   bif (decide (v0.size+(y4++y5).size≤9223372036854775807)) then
   rec ((v0++(y4++y5)),v1,(w64 (v2+(1:Int))),v3,v4,v5)
   else none
   else none
   else none
   else none
  else
  ob (impl_number.m N (v5.length:Int) (1:Int)) fun y6=>
  bif (decide (v0.size+y6.size≤9223372036854775807)) then
  lp16 ((v0++y6),(v5.length:Int),(0:Int),v5)
  else none
noncomputable def step16 (N:Nat) (a0:Ledger) (rec:(ByteArray×Int×Int×(List Session))→Option R):(ByteArray×Int×Int×(List Session))→Option R
 | (v0,v1,v2,v3)=>
  bif (decide (v2<v1)) then
   bif (decide (0≤v2)) then
   bif (decide (v2<(v3.length:Int))) then
   ob (impl_number.m N ((v3.getD (Int.toNat v2) Session.dz).Id) (2:Int)) fun y7=>
   ob (impl_number.m N ((v3.getD (Int.toNat v2) Session.dz).Seq) (2:Int)) fun y8=>
   bif (decide (y7.size+y8.size≤9223372036854775807)) then
   ob (impl_number.m N ((v3.getD (Int.toNat v2) Session.dz).Last.Kind) (1:Int)) fun y9=>
   bif (decide ((y7++y8).size+y9.size≤9223372036854775807)) then
   ob (impl_number.m N ((v3.getD (Int.toNat v2) Session.dz).Last.Place) (1:Int)) fun y10=>
   bif (decide (((y7++y8)++y9).size+y10.size≤9223372036854775807)) then
   ob (impl_counted.m N ((v3.getD (Int.toNat v2) Session.dz).Last.Value)) fun y11=>
   bif (decide ((((y7++y8)++y9)++y10).size+y11.size≤9223372036854775807)) then
   bif (decide (v0.size+((((y7++y8)++y9)++y10)++y11).size≤9223372036854775807)) then
   rec ((v0++((((y7++y8)++y9)++y10)++y11)),v1,(w64 (v2+(1:Int))),v3)
   else none
   else none
   else none
   else none
   else none
   else none
   else none
  else
  some v0
noncomputable def lp16 (N:Nat) (a0:Ledger):(ByteArray×Int×Int×(List Session))→Option R:=
 miter (fun rec=>step16 N a0 rec) N
noncomputable def lp10 (N:Nat) (a0:Ledger):(ByteArray×Int×Int×(List ByteArray)×(List pairOf)×(List Session))→Option R:=
 miter (fun rec=>step10 N a0 (lp16 N a0) rec) N
noncomputable def lp4 (N:Nat) (a0:Ledger):(ByteArray×Int×Int×(List ByteArray)×(List pairOf)×(List Session))→Option R:=
 miter (fun rec=>step4 N a0 (lp10 N a0) rec) N
noncomputable def m0 (N:Nat) (a0:Ledger) (lp4:ByteArray×Int×Int×(List ByteArray)×(List pairOf)×(List Session)→Option R):Option R:=
 ob (impl_booksOf.m N (Ledger.mk a0.Leaves (Branch.mk a0.Map.Key a0.Map.Value a0.Map.At a0.Map.Kids) a0.Sessions)) fun y1=>
 ob (impl_number.m N (y1.leaves.length:Int) (1:Int)) fun y2=>
 lp4 (y2,(y1.leaves.length:Int),(0:Int),y1.leaves,y1.pairs,y1.sessions)
@[reducible] noncomputable def m (N:Nat) (a0:Ledger):Option R:=m0 N a0 (lp4 N a0)
@[reducible] noncomputable def sp (N:Nat):Spec E:=⟨[.val (.st 39)],[.str],true,false,R,fun x=>m N x.1,fun r=>(r,()),fun r=>((),()),fun a b=>a.1,fun _ _=>rfl,fun _ _=>rfl⟩
end impl_snapshot
namespace impl_SnapshotBytes
abbrev R:=(List Int)×Int
noncomputable def m (N:Nat) (a0:Ledger):Option R:=
 ob (impl_LedgerOK.m N (Ledger.mk a0.Leaves (Branch.mk a0.Map.Key a0.Map.Value a0.Map.At a0.Map.Kids) a0.Sessions)) fun y1=>
 bif (!y1) then
  some (([]:List Int),(1:Int))
 else
 ob (impl_snapshot.m N (Ledger.mk a0.Leaves (Branch.mk a0.Map.Key a0.Map.Value a0.Map.At a0.Map.Kids) a0.Sessions)) fun y2=>
 bif (room y2.size 1) then
 some ((bytesOf y2),(0:Int))
 else none
@[reducible] noncomputable def sp (N:Nat):Spec E:=⟨[.val (.st 39)],[(.slice 5 (.int .u8)),(.int .i64)],true,false,R,fun x=>m N x.1,fun r=>(r.1,r.2,()),fun r=>((),()),fun a b=>(a.1,a.2.1),fun _ _=>rfl,fun _ _=>rfl⟩
end impl_SnapshotBytes
namespace spec_l06Hashes
abbrev R:=Bool
noncomputable def step4 (N:Nat) (a0:List ByteArray) (rec:Int→Option R):Int→Option R
 | v1=>
  bif (decide (v1<(a0.length:Int))) then
   bif (decide (0≤v1)) then
   bif (decide (v1<(a0.length:Int))) then
   bif (((a0.getD (Int.toNat v1) ByteArray.empty).size:Int) != (32:Int)) then
    some false
   else
   rec (w64 (v1+(1:Int)))
   else none
   else none
  else
  some true
noncomputable def lp4 (N:Nat) (a0:List ByteArray):Int→Option R:=
 miter (fun rec=>step4 N a0 rec) N
noncomputable def m0 (N:Nat) (a0:List ByteArray) (lp4:Int→Option R):Option R:=
 bif (decide ((a0.length:Int) > (64:Int))) then
  some false
 else
 lp4 (0:Int)
@[reducible] noncomputable def m (N:Nat) (a0:List ByteArray):Option R:=m0 N a0 (lp4 N a0)
@[reducible] noncomputable def sp (N:Nat):Spec E:=⟨[.val (.slice 9 .str)],[.bool],true,false,R,fun x=>m N x.1,fun r=>(r,()),fun r=>((),()),fun a b=>a.1,fun _ _=>rfl,fun _ _=>rfl⟩
end spec_l06Hashes
namespace spec_l01Bits
abbrev R:=ByteArray
noncomputable def step3 (N:Nat) (a0:ByteArray) (lp6:Int×Int×(List Int)→Option R) (rec:(Int×(List Int))→Option R):(Int×(List Int))→Option R
 | (v1,v2)=>
  bif (decide (v1<(a0.size:Int))) then
   lp6 (v1,(7:Int),v2)
  else
  some (strOf v2)
noncomputable def step6 (N:Nat) (a0:ByteArray) (lp3:Int×(List Int)→Option R) (rec:(Int×Int×(List Int))→Option R):(Int×Int×(List Int))→Option R
 | (v1,v2,v3)=>
  bif (decide (v2≥(0:Int))) then
   bif (decide (0≤v1)) then
   bif (decide (v1<(a0.size:Int))) then
   bif (!decide ((wu64 v2)<0)) then
   bif (room (v3.length+([(wu8 ((48:Int)+(ibit .and .u8 (Int.fdiv (sb a0 v1) (2 ^ (min (Int.toNat (wu64 v2)) 8))) (1:Int))))]).length) 1) then
   rec (v1,(w64 (v2 - (1:Int))),(v3++[(wu8 ((48:Int)+(ibit .and .u8 (Int.fdiv (sb a0 v1) (2 ^ (min (Int.toNat (wu64 v2)) 8))) (1:Int))))]))
   else none
   else none
   else none
   else none
  else
  lp3 ((w64 (v1+(1:Int))),v3)
noncomputable def lp6 (N:Nat) (a0:ByteArray) (r3:Int×(List Int)→Option R):(Int×Int×(List Int))→Option R:=
 miter (fun rec=>step6 N a0 r3 rec) N
noncomputable def lp3 (N:Nat) (a0:ByteArray):(Int×(List Int))→Option R:=
 miter (fun rec=>step3 N a0 (lp6 N a0 rec) rec) N
noncomputable def m0 (N:Nat) (a0:ByteArray) (lp3:Int×(List Int)→Option R):Option R:=
 lp3 ((0:Int),([]:List Int))
@[reducible] noncomputable def m (N:Nat) (a0:ByteArray):Option R:=m0 N a0 (lp3 N a0)
@[reducible] noncomputable def sp (N:Nat):Spec E:=⟨[.val .str],[.str],true,false,R,fun x=>m N x.1,fun r=>(r,()),fun r=>((),()),fun a b=>a.1,fun _ _=>rfl,fun _ _=>rfl⟩
end spec_l01Bits
namespace spec_l07Count
abbrev R:=Int
@[reducible] noncomputable def spf (f:Branch→Int→ByteArray→Int→Option R):Spec E:=⟨[.val (.st 36),.val (.int .i64),.val .str,.val (.int .i64)],[(.int .i64)],true,false,R,fun x=>f x.1 x.2.1 x.2.2.1 x.2.2.2.1,fun r=>(r,()),fun r=>((),(),(),(),()),fun a b=>a.1,fun _ _=>rfl,fun _ _=>rfl⟩
end spec_l07Count
namespace spec_l07Count
noncomputable def step11 (N:Nat) (slf:Branch→Int→ByteArray→Int→Option R) (a0:Branch) (a1:Int) (a2:ByteArray) (a3:Int) (lp21:ByteArray×Int×Int→Option R) (rec:(Int×ByteArray×ByteArray×Int×(List Branch))→Option R):(Int×ByteArray×ByteArray×Int×(List Branch))→Option R
 | (v2,v7,v8,v9,v10)=>
  bif (decide (v2<(256:Int))) then
   ob (spec_l07Leaf.m N (Branch.mk v7 v8 v9 v10)) fun y6=>
   bif (bif true then (!y6) else false) then
    bif (decide (0≤(0:Int))) then
    bif (decide ((0:Int)<(v10.length:Int))) then
    rec ((w64 (v2+(1:Int))),(v10.getD 0 Branch.dz).Key,(v10.getD 0 Branch.dz).Value,(v10.getD 0 Branch.dz).At,(v10.getD 0 Branch.dz).Kids)
    else none
    else none
   else
   ob (spec_l07Leaf.m N (Branch.mk v7 v8 v9 v10)) fun y7=>
   bif (!y7) then
    some (-1:Int)
   else
   ob (spec_l02Key.m N v7) fun y8=>
   bif (bif false then true else (!y8)) then
    some (-1:Int)
   else
   ob (spec_l07Hash.m N v7) fun y9=>
   ob (spec_l01Bits.m N y9) fun y10=>
   bif (decide (0≤a0.At)) then
   bif (decide (a0.At≤((y10.size:Nat):Int))) then
   bif (decide ((a2.size:Int) > ((y10.extract 0 (Int.toNat a0.At)).size:Int))) then
    some (-1:Int)
   else
   bif (decide (0≤(a2.size:Int))) then
   bif (decide ((a2.size:Int)≤(((y10.extract 0 (Int.toNat a0.At)).size:Nat):Int))) then
   bif (bif false then true else (!seq ((y10.extract 0 (Int.toNat a0.At)).extract 0 (Int.toNat (a2.size:Int))) a2)) then
    some (-1:Int)
   else
   lp21 ((y10.extract 0 (Int.toNat a0.At)),(0:Int),(0:Int))
   else none
   else none
   else none
   else none
  else
  ob (spec_l07Leaf.m N (Branch.mk v7 v8 v9 v10)) fun y11=>
  bif (!y11) then
   some (-1:Int)
  else
  ob (spec_l02Key.m N v7) fun y12=>
  bif (bif false then true else (!y12)) then
   some (-1:Int)
  else
  ob (spec_l07Hash.m N v7) fun y13=>
  ob (spec_l01Bits.m N y13) fun y14=>
  bif (decide (0≤a0.At)) then
  bif (decide (a0.At≤((y14.size:Nat):Int))) then
  bif (decide ((a2.size:Int) > ((y14.extract 0 (Int.toNat a0.At)).size:Int))) then
   some (-1:Int)
  else
  bif (decide (0≤(a2.size:Int))) then
  bif (decide ((a2.size:Int)≤(((y14.extract 0 (Int.toNat a0.At)).size:Nat):Int))) then
  bif (bif false then true else (!seq ((y14.extract 0 (Int.toNat a0.At)).extract 0 (Int.toNat (a2.size:Int))) a2)) then
   some (-1:Int)
  else
  lp21 ((y14.extract 0 (Int.toNat a0.At)),(0:Int),(0:Int))
  else none
  else none
  else none
  else none
noncomputable def step21 (N:Nat) (slf:Branch→Int→ByteArray→Int→Option R) (a0:Branch) (a1:Int) (a2:ByteArray) (a3:Int) (rec:(ByteArray×Int×Int)→Option R):(ByteArray×Int×Int)→Option R
 | (v1,v2,v3)=>
  bif (decide (v3<(2:Int))) then
   bif (decide (0≤v3)) then
   bif (decide (v3<(a0.Kids.length:Int))) then
   bif (decide (v1.size+(strOf ([(wu8 ((48:Int)+(wu8 v3)))])).size≤9223372036854775807)) then
   ob (slf (Branch.mk ((a0.Kids.getD (Int.toNat v3) Branch.dz).Key) ((a0.Kids.getD (Int.toNat v3) Branch.dz).Value) ((a0.Kids.getD (Int.toNat v3) Branch.dz).At) ((a0.Kids.getD (Int.toNat v3) Branch.dz).Kids)) (w64 (a0.At+(1:Int))) (v1++(strOf ([(wu8 ((48:Int)+(wu8 v3)))]))) (w64 (a3 - v2))) fun y15=>
   bif (decide (y15<(0:Int))) then
    some (-1:Int)
   else
   rec (v1,(w64 (v2+y15)),(w64 (v3+(1:Int))))
   else none
   else none
   else none
  else
  some v2
noncomputable def lp21 (N:Nat) (slf:Branch→Int→ByteArray→Int→Option R) (a0:Branch) (a1:Int) (a2:ByteArray) (a3:Int):(ByteArray×Int×Int)→Option R:=
 miter (fun rec=>step21 N slf a0 a1 a2 a3 rec) N
noncomputable def lp11 (N:Nat) (slf:Branch→Int→ByteArray→Int→Option R) (a0:Branch) (a1:Int) (a2:ByteArray) (a3:Int):(Int×ByteArray×ByteArray×Int×(List Branch))→Option R:=
 miter (fun rec=>step11 N slf a0 a1 a2 a3 (lp21 N slf a0 a1 a2 a3) rec) N
noncomputable def m0 (N:Nat) (slf:Branch→Int→ByteArray→Int→Option R) (a0:Branch) (a1:Int) (a2:ByteArray) (a3:Int) (lp11:Int×ByteArray×ByteArray×Int×(List Branch)→Option R):Option R:=
 bif (decide (a3<(1:Int))) then
  some (-1:Int)
 else
 ob (spec_l07Leaf.m N (Branch.mk a0.Key a0.Value a0.At a0.Kids)) fun y1=>
 bif y1 then
  ob (spec_l02Key.m N a0.Key) fun y2=>
  bif (!y2) then
   some (-1:Int)
  else
  bif (bif false then true else (decide ((a0.Value.size:Int) > (60:Int)))) then
   some (-1:Int)
  else
  bif (bif false then true else (a0.At != (256:Int))) then
   some (-1:Int)
  else
  ob (spec_l07Hash.m N a0.Key) fun y3=>
  ob (spec_l01Bits.m N y3) fun y4=>
  bif (decide (0≤(a2.size:Int))) then
  bif (decide ((a2.size:Int)≤((y4.size:Nat):Int))) then
  bif (bif false then true else (!seq (y4.extract 0 (Int.toNat (a2.size:Int))) a2)) then
   some (-1:Int)
  else
  some (1:Int)
  else none
  else none
 else
 bif ((a0.Kids.length:Int) != (2:Int)) then
  some (-1:Int)
 else
 bif (bif false then true else (!seq a0.Key ByteArray.empty)) then
  some (-1:Int)
 else
 bif (bif false then true else (!seq a0.Value ByteArray.empty)) then
  some (-1:Int)
 else
 ob (spec_l01In.m N a0.At a1 (255:Int)) fun y5=>
 bif (bif false then true else (!y5)) then
  some (-1:Int)
 else
 bif (decide (0≤(0:Int))) then
 bif (decide ((0:Int)<(a0.Kids.length:Int))) then
 lp11 ((0:Int),(a0.Kids.getD 0 Branch.dz).Key,(a0.Kids.getD 0 Branch.dz).Value,(a0.Kids.getD 0 Branch.dz).At,(a0.Kids.getD 0 Branch.dz).Kids)
 else none
 else none
@[reducible] noncomputable def mb (N:Nat) (slf:Branch→Int→ByteArray→Int→Option R) (a0:Branch) (a1:Int) (a2:ByteArray) (a3:Int):Option R:=m0 N slf a0 a1 a2 a3 (lp11 N slf a0 a1 a2 a3)
noncomputable def mF (N:Nat):Nat→Branch→Int→ByteArray→Int→Option R
 | 0=>fun _ _ _ _=>none
 | n+1=>fun a0 a1 a2 a3=>mb N (mF N n) a0 a1 a2 a3
noncomputable def m (N:Nat):Branch→Int→ByteArray→Int→Option R:=mF N N
@[reducible] noncomputable def sp (N:Nat):Spec E:=spf (m N)
end spec_l07Count
namespace spec_MapOK
abbrev R:=Bool
noncomputable def m (N:Nat) (a0:Branch):Option R:=
 ob (spec_l07Empty.m N (Branch.mk a0.Key a0.Value a0.At a0.Kids)) fun y1=>
 bif y1 then
  some true
 else
 ob (spec_l07Count.m N (Branch.mk a0.Key a0.Value a0.At a0.Kids) (0:Int) ByteArray.empty (40:Int)) fun y2=>
 some (bif false then true else (decide (y2 > (0:Int))))
@[reducible] noncomputable def sp (N:Nat):Spec E:=⟨[.val (.st 36)],[.bool],true,false,R,fun x=>m N x.1,fun r=>(r,()),fun r=>((),()),fun a b=>a.1,fun _ _=>rfl,fun _ _=>rfl⟩
end spec_MapOK
namespace spec_LedgerOK
abbrev R:=Bool
noncomputable def step4 (N:Nat) (a0:Ledger) (rec:Int→Option R):Int→Option R
 | v0=>
  bif (decide (v0<(a0.Sessions.length:Int))) then
   bif (decide (0≤v0)) then
   bif (decide (v0<(a0.Sessions.length:Int))) then
   ob (spec_l01In.m N ((a0.Sessions.getD (Int.toNat v0) Session.dz).Id) (0:Int) (65535:Int)) fun y3=>
   bif (!y3) then
    some false
   else
   ob (spec_l01In.m N ((a0.Sessions.getD (Int.toNat v0) Session.dz).Seq) (0:Int) (65535:Int)) fun y4=>
   bif (bif false then true else (!y4)) then
    some false
   else
   bif (decide (v0 > (0:Int))) then
    bif (decide (0≤(w64 (v0 - (1:Int))))) then
    bif (decide ((w64 (v0 - (1:Int)))<(a0.Sessions.length:Int))) then
    (let w5:Bool:=(bif true then (decide ((a0.Sessions.getD (Int.toNat (w64 (v0 - (1:Int)))) Session.dz).Id≥(a0.Sessions.getD (Int.toNat v0) Session.dz).Id)) else false)
    bif (bif false then true else w5) then
     some false
    else
    ob (spec_l01In.m N ((a0.Sessions.getD (Int.toNat v0) Session.dz).Last.Kind) (0:Int) (6:Int)) fun y6=>
    bif (bif false then true else (!y6)) then
     some false
    else
    ob (spec_l01In.m N ((a0.Sessions.getD (Int.toNat v0) Session.dz).Last.Place) (0:Int) (50:Int)) fun y7=>
    bif (bif false then true else (!y7)) then
     some false
    else
    bif (bif false then true else (decide ((((a0.Sessions.getD (Int.toNat v0) Session.dz).Last.Value).size:Int) > (60:Int)))) then
     some false
    else
    rec (w64 (v0+(1:Int))))
    else none
    else none
   else
   bif (bif false then true else false) then
    some false
   else
   ob (spec_l01In.m N ((a0.Sessions.getD (Int.toNat v0) Session.dz).Last.Kind) (0:Int) (6:Int)) fun y8=>
   bif (bif false then true else (!y8)) then
    some false
   else
   ob (spec_l01In.m N ((a0.Sessions.getD (Int.toNat v0) Session.dz).Last.Place) (0:Int) (50:Int)) fun y9=>
   bif (bif false then true else (!y9)) then
    some false
   else
   bif (bif false then true else (decide ((((a0.Sessions.getD (Int.toNat v0) Session.dz).Last.Value).size:Int) > (60:Int)))) then
    some false
   else
   rec (w64 (v0+(1:Int)))
   else none
   else none
  else
  some true
noncomputable def lp4 (N:Nat) (a0:Ledger):Int→Option R:=
 miter (fun rec=>step4 N a0 rec) N
noncomputable def m0 (N:Nat) (a0:Ledger) (lp4:Int→Option R):Option R:=
 bif (decide ((a0.Leaves.length:Int) > (50:Int))) then
  some false
 else
 ob (spec_l06Hashes.m N a0.Leaves) fun y1=>
 bif (bif false then true else (!y1)) then
  some false
 else
 ob (spec_MapOK.m N (Branch.mk a0.Map.Key a0.Map.Value a0.Map.At a0.Map.Kids)) fun y2=>
 bif (bif false then true else (!y2)) then
  some false
 else
 bif (bif false then true else (decide ((a0.Sessions.length:Int) > (8:Int)))) then
  some false
 else
 lp4 (0:Int)
@[reducible] noncomputable def m (N:Nat) (a0:Ledger):Option R:=m0 N a0 (lp4 N a0)
@[reducible] noncomputable def sp (N:Nat):Spec E:=⟨[.val (.st 39)],[.bool],true,false,R,fun x=>m N x.1,fun r=>(r,()),fun r=>((),()),fun a b=>a.1,fun _ _=>rfl,fun _ _=>rfl⟩
end spec_LedgerOK
namespace spec_l07List
abbrev R:=(List Command)
@[reducible] noncomputable def spf (f:Branch→(List Command)→Option R):Spec E:=⟨[.val (.st 36),.mov false (.slice 31 (.st 31))],[(.slice 31 (.st 31))],true,false,R,fun x=>f x.1 x.2.1,fun r=>(r,()),fun r=>((),(),()),fun a b=>a.1,fun _ _=>rfl,fun _ _=>rfl⟩
end spec_l07List
namespace spec_l07List
noncomputable def mb (N:Nat) (slf:Branch→(List Command)→Option R) (a0:Branch) (a1:List Command):Option R:=
 ob (spec_l07Empty.m N (Branch.mk a0.Key a0.Value a0.At a0.Kids)) fun y1=>
 bif y1 then
  some a1
 else
 ob (spec_l07Leaf.m N (Branch.mk a0.Key a0.Value a0.At a0.Kids)) fun y2=>
 bif y2 then
  bif (room (a1.length+([(Command.mk (1:Int) (0:Int) (0:Int) a0.Key a0.Value)]).length) 56) then
  some (a1++[(Command.mk (1:Int) (0:Int) (0:Int) a0.Key a0.Value)])
  else none
 else
 bif (decide (0≤(1:Int))) then
 bif (decide ((1:Int)<(a0.Kids.length:Int))) then
 bif (decide (0≤(0:Int))) then
 bif (decide ((0:Int)<(a0.Kids.length:Int))) then
 ob (slf (Branch.mk ((a0.Kids.getD 0 Branch.dz).Key) ((a0.Kids.getD 0 Branch.dz).Value) ((a0.Kids.getD 0 Branch.dz).At) ((a0.Kids.getD 0 Branch.dz).Kids)) a1) fun y3=>
 ob (slf (Branch.mk ((a0.Kids.getD 1 Branch.dz).Key) ((a0.Kids.getD 1 Branch.dz).Value) ((a0.Kids.getD 1 Branch.dz).At) ((a0.Kids.getD 1 Branch.dz).Kids)) y3) fun y4=>
 some y4
 else none
 else none
 else none
 else none
noncomputable def mF (N:Nat):Nat→Branch→(List Command)→Option R
 | 0=>fun _ _=>none
 | n+1=>fun a0 a1=>mb N (mF N n) a0 a1
noncomputable def m (N:Nat):Branch→(List Command)→Option R:=mF N N
@[reducible] noncomputable def sp (N:Nat):Spec E:=spf (m N)
end spec_l07List
namespace spec_l09Snapshot
abbrev R:=(List Int)
noncomputable def step3 (N:Nat) (a0:Ledger) (lp9:Int×(List Int)×(List Command)→Option R) (rec:(Int×(List Int))→Option R):(Int×(List Int))→Option R
 | (v0,v7)=>
  bif (decide (v0<(a0.Leaves.length:Int))) then
   bif (decide (0≤v0)) then
   bif (decide (v0<(a0.Leaves.length:Int))) then
   bif (room (v7.length+(bytesOf (a0.Leaves.getD (Int.toNat v0) ByteArray.empty)).length) 1) then
   rec ((w64 (v0+(1:Int))),(v7++(bytesOf (a0.Leaves.getD (Int.toNat v0) ByteArray.empty))))
   else none
   else none
   else none
  else
  ob (spec_l07List.m N (Branch.mk a0.Map.Key a0.Map.Value a0.Map.At a0.Map.Kids) ([]:List Command)) fun y1=>
  bif (room (v7.length+([(wu8 (y1.length:Int))]).length) 1) then
  lp9 ((0:Int),(v7++[(wu8 (y1.length:Int))]),y1)
  else none
noncomputable def step9 (N:Nat) (a0:Ledger) (lp15:Int×(List Int)→Option R) (rec:(Int×(List Int)×(List Command))→Option R):(Int×(List Int)×(List Command))→Option R
 | (v0,v7,v8)=>
  bif (decide (v0<(v8.length:Int))) then
   bif (decide (0≤v0)) then
   bif (decide (v0<(v8.length:Int))) then
   bif (room (v7.length+([(wu8 (((v8.getD (Int.toNat v0) Command.dz).Key).size:Int))]).length) 1) then
   bif (decide (0≤v0)) then
   bif (decide (v0<(v8.length:Int))) then
   bif (room ((v7++[(wu8 (((v8.getD (Int.toNat v0) Command.dz).Key).size:Int))]).length+(bytesOf ((v8.getD (Int.toNat v0) Command.dz).Key)).length) 1) then
   bif (decide (0≤v0)) then
   bif (decide (v0<(v8.length:Int))) then
   bif (room (((v7++[(wu8 (((v8.getD (Int.toNat v0) Command.dz).Key).size:Int))])++(bytesOf ((v8.getD (Int.toNat v0) Command.dz).Key))).length+([(wu8 (((v8.getD (Int.toNat v0) Command.dz).Value).size:Int))]).length) 1) then
   (let w2:List Int:=(((v7++[(wu8 (((v8.getD (Int.toNat v0) Command.dz).Key).size:Int))])++(bytesOf ((v8.getD (Int.toNat v0) Command.dz).Key)))++[(wu8 (((v8.getD (Int.toNat v0) Command.dz).Value).size:Int))])
   bif (decide (0≤v0)) then
   bif (decide (v0<(v8.length:Int))) then
   bif (room (w2.length+(bytesOf ((v8.getD (Int.toNat v0) Command.dz).Value)).length) 1) then
   rec ((w64 (v0+(1:Int))),(w2++(bytesOf ((v8.getD (Int.toNat v0) Command.dz).Value))),v8)
   else none
   else none
   else none)
   else none
   else none
   else none
   else none
   else none
   else none
   else none
   else none
   else none
  else
  bif (room (v7.length+([(wu8 (a0.Sessions.length:Int))]).length) 1) then
  lp15 ((0:Int),(v7++[(wu8 (a0.Sessions.length:Int))]))
  else none
noncomputable def step15 (N:Nat) (a0:Ledger) (rec:(Int×(List Int))→Option R):(Int×(List Int))→Option R
 | (v0,v7)=>
  bif (decide (v0<(a0.Sessions.length:Int))) then
   bif (decide (0≤v0)) then
   bif (decide (v0<(a0.Sessions.length:Int))) then
   ob (spec_l02Two.m N ((a0.Sessions.getD (Int.toNat v0) Session.dz).Id)) fun y3=>
   bif (room (v7.length+y3.length) 1) then
   ob (spec_l02Two.m N ((a0.Sessions.getD (Int.toNat v0) Session.dz).Seq)) fun y4=>
   bif (room ((v7++y3).length+y4.length) 1) then
   (let w5:List Int:=[(wu8 ((a0.Sessions.getD (Int.toNat v0) Session.dz).Last.Kind)),(wu8 ((a0.Sessions.getD (Int.toNat v0) Session.dz).Last.Place)),(wu8 (((a0.Sessions.getD (Int.toNat v0) Session.dz).Last.Value).size:Int))]
   bif (room (((v7++y3)++y4).length+w5.length) 1) then
   bif (room ((((v7++y3)++y4)++w5).length+(bytesOf ((a0.Sessions.getD (Int.toNat v0) Session.dz).Last.Value)).length) 1) then
   rec ((w64 (v0+(1:Int))),((((v7++y3)++y4)++w5)++(bytesOf ((a0.Sessions.getD (Int.toNat v0) Session.dz).Last.Value))))
   else none
   else none)
   else none
   else none
   else none
   else none
  else
  some v7
noncomputable def lp15 (N:Nat) (a0:Ledger):(Int×(List Int))→Option R:=
 miter (fun rec=>step15 N a0 rec) N
noncomputable def lp9 (N:Nat) (a0:Ledger):(Int×(List Int)×(List Command))→Option R:=
 miter (fun rec=>step9 N a0 (lp15 N a0) rec) N
noncomputable def lp3 (N:Nat) (a0:Ledger):(Int×(List Int))→Option R:=
 miter (fun rec=>step3 N a0 (lp9 N a0) rec) N
noncomputable def m0 (N:Nat) (a0:Ledger) (lp3:Int×(List Int)→Option R):Option R:=
 lp3 ((0:Int),[(wu8 (a0.Leaves.length:Int))])
@[reducible] noncomputable def m (N:Nat) (a0:Ledger):Option R:=m0 N a0 (lp3 N a0)
@[reducible] noncomputable def sp (N:Nat):Spec E:=⟨[.val (.st 39)],[(.slice 5 (.int .u8))],true,false,R,fun x=>m N x.1,fun r=>(r,()),fun r=>((),()),fun a b=>a.1,fun _ _=>rfl,fun _ _=>rfl⟩
end spec_l09Snapshot
namespace spec_SnapshotBytes
abbrev R:=(List Int)×Int
noncomputable def m (N:Nat) (a0:Ledger):Option R:=
 ob (spec_LedgerOK.m N (Ledger.mk a0.Leaves (Branch.mk a0.Map.Key a0.Map.Value a0.Map.At a0.Map.Kids) a0.Sessions)) fun y1=>
 bif (!y1) then
  some (([]:List Int),(1:Int))
 else
 ob (spec_l09Snapshot.m N (Ledger.mk a0.Leaves (Branch.mk a0.Map.Key a0.Map.Value a0.Map.At a0.Map.Kids) a0.Sessions)) fun y2=>
 some (y2,(0:Int))
@[reducible] noncomputable def sp (N:Nat):Spec E:=⟨[.val (.st 39)],[(.slice 5 (.int .u8)),(.int .i64)],true,false,R,fun x=>m N x.1,fun r=>(r.1,r.2,()),fun r=>((),()),fun a b=>(a.1,a.2.1),fun _ _=>rfl,fun _ _=>rfl⟩
end spec_SnapshotBytes
namespace impl_reader_take_
abbrev R:=ByteArray×reader
noncomputable def m (N:Nat) (a0:reader) (a1:Int):Option R:=
 bif a0.bad then
  some (ByteArray.empty,(reader.mk a0.s true))
 else
 bif (bif false then true else (decide (a1 > (a0.s.size:Int)))) then
  some (ByteArray.empty,(reader.mk a0.s true))
 else
 bif (decide (0≤a1)) then
 bif (decide (a1≤((a0.s.size:Nat):Int))) then
 bif (decide (0≤a1)) then
 bif (decide (a1≤((a0.s.size:Nat):Int))) then
 some ((a0.s.extract 0 (Int.toNat a1)),(reader.mk (a0.s.extract (Int.toNat a1) a0.s.size) a0.bad))
 else none
 else none
 else none
 else none
@[reducible] noncomputable def sp (N:Nat):Spec E:=⟨[.box false 117 117,.val (.int .i64)],[.str],true,false,R,fun x=>m N x.1 x.2.1,fun r=>(r.1,()),fun r=>(r.2,(),()),fun a b=>(a.1,b.1),fun _ _=>rfl,fun _ _=>rfl⟩
end impl_reader_take_
namespace impl_numberOf
abbrev R:=Int
noncomputable def step3 (N:Nat) (a0:ByteArray) (rec:(Int×Int×Int)→Option R):(Int×Int×Int)→Option R
 | (v1,v2,v3)=>
  bif (decide (v3<v2)) then
   bif (!decide ((8:Int)<0)) then
   bif (decide (0≤v3)) then
   bif (decide (v3<(a0.size:Int))) then
   rec ((w64 ((w64 (v1 * 2 ^ (min (Int.toNat (8:Int)) 64)))+(w64 (sb a0 v3)))),v2,(w64 (v3+(1:Int))))
   else none
   else none
   else none
  else
  some v1
noncomputable def lp3 (N:Nat) (a0:ByteArray):(Int×Int×Int)→Option R:=
 miter (fun rec=>step3 N a0 rec) N
noncomputable def m0 (N:Nat) (a0:ByteArray) (lp3:Int×Int×Int→Option R):Option R:=
 lp3 ((0:Int),(a0.size:Int),(0:Int))
@[reducible] noncomputable def m (N:Nat) (a0:ByteArray):Option R:=m0 N a0 (lp3 N a0)
@[reducible] noncomputable def sp (N:Nat):Spec E:=⟨[.val .str],[(.int .i64)],true,false,R,fun x=>m N x.1,fun r=>(r,()),fun r=>((),()),fun a b=>a.1,fun _ _=>rfl,fun _ _=>rfl⟩
end impl_numberOf
namespace impl_reader_number
abbrev R:=Int×reader
noncomputable def m (N:Nat) (a0:reader) (a1:Int):Option R:=
 ob (impl_reader_take_.m N a0 a1) fun y1=>
 ob (impl_numberOf.m N y1.1) fun y2=>
 some (y2,y1.2)
@[reducible] noncomputable def sp (N:Nat):Spec E:=⟨[.box false 117 117,.val (.int .i64)],[(.int .i64)],true,false,R,fun x=>m N x.1 x.2.1,fun r=>(r.1,()),fun r=>(r.2,(),()),fun a b=>(a.1,b.1),fun _ _=>rfl,fun _ _=>rfl⟩
end impl_reader_number
namespace impl_reader_counted
abbrev R:=ByteArray×reader
noncomputable def m (N:Nat) (a0:reader):Option R:=
 ob (impl_reader_number.m N a0 (1:Int)) fun y1=>
 ob (impl_reader_take_.m N y1.2 y1.1) fun y2=>
 some (y2.1,y2.2)
@[reducible] noncomputable def sp (N:Nat):Spec E:=⟨[.box false 117 117],[.str],true,false,R,fun x=>m N x.1,fun r=>(r.1,()),fun r=>(r.2,()),fun a b=>(a.1,b.1),fun _ _=>rfl,fun _ _=>rfl⟩
end impl_reader_counted
namespace impl_reader_session
abbrev R:=Session×reader
noncomputable def m (N:Nat) (a0:reader):Option R:=
 ob (impl_reader_number.m N a0 (2:Int)) fun y1=>
 ob (impl_reader_number.m N y1.2 (2:Int)) fun y2=>
 ob (impl_reader_number.m N y2.2 (1:Int)) fun y3=>
 ob (impl_reader_number.m N y3.2 (1:Int)) fun y4=>
 ob (impl_reader_counted.m N y4.2) fun y5=>
 some ((Session.mk y1.1 y2.1 (Reply.mk y3.1 y4.1 y5.1)),y5.2)
@[reducible] noncomputable def sp (N:Nat):Spec E:=⟨[.box false 117 117],[(.st 72)],true,false,R,fun x=>m N x.1,fun r=>(r.1,()),fun r=>(r.2,()),fun a b=>(a.1,b.1),fun _ _=>rfl,fun _ _=>rfl⟩
end impl_reader_session
end Mir.Y
