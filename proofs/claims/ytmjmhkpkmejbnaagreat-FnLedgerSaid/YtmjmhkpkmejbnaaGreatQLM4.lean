/- Models of functions. -/
import Derived.Test.YtmjmhkpkmejbnaaGreatQLM3
namespace Mir.Y
set_option linter.unusedVariables false
set_option maxRecDepth 10000
open Go Go.Proofs Mir
set_option linter.unusedSectionVars false
variable [UU]
namespace impl_Branch_pairs
abbrev R:=(List pairOf)×Bool×Int
@[reducible] noncomputable def spf (f:Branch→Int→Int→Option R):Spec E:=⟨[.val (.st 36),.val (.int .i64),.box false 3 3],[(.slice 98 (.st 98)),.bool],true,false,R,fun x=>f x.1 x.2.1 x.2.2.1,fun r=>(r.1,r.2.1,()),fun r=>((),(),r.2.2,()),fun a b=>(a.1,a.2.1,b.2.2.1),fun _ _=>rfl,fun _ _=>rfl⟩
end impl_Branch_pairs
namespace impl_Branch_pairs
noncomputable def step8 (N:Nat) (slf:Branch→Int→Int→Option R) (a0:Branch) (a1:Int) (a2:Int) (rec:(Int×Int×Int×(List pairOf))→Option R):(Int×Int×Int×(List pairOf))→Option R
  | (v1,v2,v3,v8)=>
    bif (decide (v2<v1)) then
      bif (decide (0≤v2)) then
      bif (decide (v2<(a0.Kids.length:Int))) then
      ob (slf (Branch.mk ((a0.Kids.getD (Int.toNat v2) Branch.dz).Key) ((a0.Kids.getD (Int.toNat v2) Branch.dz).Value) ((a0.Kids.getD (Int.toNat v2) Branch.dz).At) ((a0.Kids.getD (Int.toNat v2) Branch.dz).Kids)) a0.At v3) fun y4=>
      bif (!y4.2.1) then
        some (([]:List pairOf),false,y4.2.2)
      else
      ob (slices_ContainsFunc_impl_pairOf_impl_pairOf__impl_Branch_pairs_1.m N y4.1 (Branch.mk a0.Key a0.Value a0.At a0.Kids) v2) fun y5=>
      bif (bif false then true else y5) then
        some (([]:List pairOf),false,y4.2.2)
      else
      bif (room (v8.length+y4.1.length) 48) then
      rec (v1,(w64 (v2+(1:Int))),y4.2.2,(v8++y4.1))
      else none
      else none
      else none
    else
    ob (slices_ContainsFunc_impl_pairOf_impl_pairOf__impl_Branch_pairs_2.m N v8 v8 (Branch.mk a0.Key a0.Value a0.At a0.Kids)) fun y6=>
    some (v8,(!y6),v3)
noncomputable def lp8 (N:Nat) (slf:Branch→Int→Int→Option R) (a0:Branch) (a1:Int) (a2:Int):(Int×Int×Int×(List pairOf))→Option R:=
  miter (fun rec=>step8 N slf a0 a1 a2 rec) N
noncomputable def m0 (N:Nat) (slf:Branch→Int→Int→Option R) (a0:Branch) (a1:Int) (a2:Int) (lp8:Int×Int×Int×(List pairOf)→Option R):Option R:=
  ob (impl_Branch_isLeaf.m N (Branch.mk a0.Key a0.Value a0.At a0.Kids)) fun y1=>
  bif y1 then
    ob (impl_hash.m N a0.Key) fun y2=>
    some ([(pairOf.mk a0.Key a0.Value y2)],(decide ((w64 (a2 - (1:Int)))≥(0:Int))),(w64 (a2 - (1:Int))))
  else
  ob (impl_Branch_isFork.m N (Branch.mk a0.Key a0.Value a0.At a0.Kids)) fun y3=>
  bif (!y3) then
    some (([]:List pairOf),false,a2)
  else
  bif (bif false then true else (decide (a0.At≤a1))) then
    some (([]:List pairOf),false,a2)
  else
  lp8 ((a0.Kids.length:Int),(0:Int),a2,([]:List pairOf))
@[reducible] noncomputable def mb (N:Nat) (slf:Branch→Int→Int→Option R) (a0:Branch) (a1:Int) (a2:Int):Option R:=m0 N slf a0 a1 a2 (lp8 N slf a0 a1 a2)
noncomputable def mF (N:Nat):Nat→Branch→Int→Int→Option R
  | 0=>fun _ _ _=>none
  | n+1=>fun a0 a1 a2=>mb N (mF N n) a0 a1 a2
noncomputable def m (N:Nat):Branch→Int→Int→Option R:=mF N N
@[reducible] noncomputable def sp (N:Nat):Spec E:=spf (m N)
end impl_Branch_pairs
namespace impl_mapPairs
abbrev R:=(List pairOf)×Bool
noncomputable def m (N:Nat) (a0:Branch):Option R:=
  ob (impl_Branch_isEmpty.m N (Branch.mk a0.Key a0.Value a0.At a0.Kids)) fun y1=>
  bif y1 then
    some (([]:List pairOf),true)
  else
  ob (impl_Branch_pairs.m N (Branch.mk a0.Key a0.Value a0.At a0.Kids) (-1:Int) (40:Int)) fun y2=>
  some (y2.1,y2.2.1)
@[reducible] noncomputable def sp (N:Nat):Spec E:=⟨[.val (.st 36)],[(.slice 98 (.st 98)),.bool],true,false,R,fun x=>m N x.1,fun r=>(r.1,r.2,()),fun r=>((),()),fun a b=>(a.1,a.2.1),fun _ _=>rfl,fun _ _=>rfl⟩
end impl_mapPairs
namespace impl_MapOK
abbrev R:=Bool
noncomputable def m (N:Nat) (a0:Branch):Option R:=
  ob (impl_mapPairs.m N (Branch.mk a0.Key a0.Value a0.At a0.Kids)) fun y1=>
  some y1.2
@[reducible] noncomputable def sp (N:Nat):Spec E:=⟨[.val (.st 36)],[.bool],true,false,R,fun x=>m N x.1,fun r=>(r,()),fun r=>((),()),fun a b=>a.1,fun _ _=>rfl,fun _ _=>rfl⟩
end impl_MapOK
namespace impl_replyOK
abbrev R:=Bool
noncomputable def m (N:Nat) (a0:Reply):Option R:=
  ob (impl_within.m N a0.Kind (0:Int) (6:Int)) fun y1=>
  bif y1 then
    ob (impl_within.m N a0.Place (0:Int) (50:Int)) fun y2=>
    bif (bif true then y2 else false) then
      ob (impl_isValue.m N a0.Value) fun y3=>
      some (bif true then y3 else false)
    else
    some false
  else
  some false
@[reducible] noncomputable def sp (N:Nat):Spec E:=⟨[.val (.st 27)],[.bool],true,false,R,fun x=>m N x.1,fun r=>(r,()),fun r=>((),()),fun a b=>a.1,fun _ _=>rfl,fun _ _=>rfl⟩
end impl_replyOK
namespace impl_LedgerOK
abbrev R:=Bool
noncomputable def step4 (N:Nat) (a0:Ledger) (rec:(Int×Int)→Option R):(Int×Int)→Option R
  | (v1,v2)=>
    bif (decide (v2<v1)) then
      bif (decide (0≤v2)) then
      bif (decide (v2<(a0.Sessions.length:Int))) then
      ob (impl_isShort.m N ((a0.Sessions.getD (Int.toNat v2) Session.dz).Id)) fun y3=>
      bif (!y3) then
        some false
      else
      ob (impl_isShort.m N ((a0.Sessions.getD (Int.toNat v2) Session.dz).Seq)) fun y4=>
      bif (bif false then true else (!y4)) then
        some false
      else
      ob (impl_replyOK.m N (Reply.mk ((a0.Sessions.getD (Int.toNat v2) Session.dz).Last.Kind) ((a0.Sessions.getD (Int.toNat v2) Session.dz).Last.Place) ((a0.Sessions.getD (Int.toNat v2) Session.dz).Last.Value))) fun y5=>
      bif (bif false then true else (!y5)) then
        some false
      else
      bif (decide (v2 > (0:Int))) then
        bif (decide (0≤(w64 (v2 - (1:Int))))) then
        bif (decide ((w64 (v2 - (1:Int)))<(a0.Sessions.length:Int))) then
        (let w6:Bool:=(bif true then (decide ((a0.Sessions.getD (Int.toNat (w64 (v2 - (1:Int)))) Session.dz).Id≥(a0.Sessions.getD (Int.toNat v2) Session.dz).Id)) else false)
        bif (bif false then true else w6) then
          some false
        else
        rec (v1,(w64 (v2+(1:Int)))))
        else none
        else none
      else
      bif (bif false then true else false) then
        some false
      else
      rec (v1,(w64 (v2+(1:Int))))
      else none
      else none
    else
    some true
noncomputable def lp4 (N:Nat) (a0:Ledger):(Int×Int)→Option R:=
  miter (fun rec=>step4 N a0 rec) N
noncomputable def m0 (N:Nat) (a0:Ledger) (lp4:Int×Int→Option R):Option R:=
  bif (decide ((a0.Leaves.length:Int) > (50:Int))) then
    some false
  else
  ob (impl_isHash.m N a0.Leaves) fun y1=>
  bif (bif false then true else (!y1)) then
    some false
  else
  bif (bif false then true else (decide ((a0.Sessions.length:Int) > (8:Int)))) then
    some false
  else
  ob (impl_MapOK.m N (Branch.mk a0.Map.Key a0.Map.Value a0.Map.At a0.Map.Kids)) fun y2=>
  bif (bif false then true else (!y2)) then
    some false
  else
  lp4 ((a0.Sessions.length:Int),(0:Int))
@[reducible] noncomputable def m (N:Nat) (a0:Ledger):Option R:=m0 N a0 (lp4 N a0)
@[reducible] noncomputable def sp (N:Nat):Spec E:=⟨[.val (.st 39)],[.bool],true,false,R,fun x=>m N x.1,fun r=>(r,()),fun r=>((),()),fun a b=>a.1,fun _ _=>rfl,fun _ _=>rfl⟩
end impl_LedgerOK
namespace slices_Clone_string_string
abbrev R:=(List ByteArray)
noncomputable def m (N:Nat) (a0:List ByteArray):Option R:=
  amb (a0.isEmpty) true
    (some ([]:List ByteArray))
    (bif (room (([]:List ByteArray).length+a0.length) 16) then
    some (([]:List ByteArray)++a0)
    else none)
@[reducible] noncomputable def sp (N:Nat):Spec E:=⟨[.val (.slice 9 .str)],[(.slice 9 .str)],true,false,R,fun x=>m N x.1,fun r=>(r,()),fun r=>((),()),fun a b=>a.1,fun _ _=>rfl,fun _ _=>rfl⟩
end slices_Clone_string_string
namespace slices_Clone_impl_Session_impl_Session
abbrev R:=(List Session)
noncomputable def m (N:Nat) (a0:List Session):Option R:=
  amb (a0.isEmpty) true
    (some ([]:List Session))
    (bif (room (([]:List Session).length+a0.length) 48) then
    some (([]:List Session)++a0)
    else none)
@[reducible] noncomputable def sp (N:Nat):Spec E:=⟨[.val (.slice 72 (.st 72))],[(.slice 72 (.st 72))],true,false,R,fun x=>m N x.1,fun r=>(r,()),fun r=>((),()),fun a b=>a.1,fun _ _=>rfl,fun _ _=>rfl⟩
end slices_Clone_impl_Session_impl_Session
namespace impl_booksOf
abbrev R:=books
noncomputable def m (N:Nat) (a0:Ledger):Option R:=
  ob (impl_mapPairs.m N (Branch.mk a0.Map.Key a0.Map.Value a0.Map.At a0.Map.Kids)) fun y1=>
  ob (slices_Clone_string_string.m N a0.Leaves) fun y2=>
  ob (slices_Clone_impl_Session_impl_Session.m N a0.Sessions) fun y3=>
  some (books.mk y2 y1.1 y3)
@[reducible] noncomputable def sp (N:Nat):Spec E:=⟨[.val (.st 39)],[(.pbx 93 93)],true,false,R,fun x=>m N x.1,fun r=>(r,()),fun r=>((),()),fun a b=>a.1,fun _ _=>rfl,fun _ _=>rfl⟩
end impl_booksOf
namespace impl_snapshot
abbrev R:=ByteArray
noncomputable def step4 (N:Nat) (a0:Ledger) (lp10:ByteArray×Int×Int×(List ByteArray)×(List pairOf)×(List Session)→Option R) (rec:(ByteArray×Int×Int×(List ByteArray)×(List pairOf)×(List Session))→Option R):(ByteArray×Int×Int×(List ByteArray)×(List pairOf)×(List Session))→Option R
  | (v0,v1,v2,v3,v4,v5)=>
    bif (decide (v2<v1)) then
      bif (decide (0≤v2)) then
      bif (decide (v2<(v3.length:Int))) then
      bif (decide (v0.size+(v3.getD (Int.toNat v2) ByteArray.empty).size≤9223372036854775807)) then
      rec ((v0++(v3.getD (Int.toNat v2) ByteArray.empty)),v1,(w64 (v2+(1:Int))),v3,v4,v5)
      else none
      else none
      else none
    else
    ob (impl_number.m N (v4.length:Int) (1:Int)) fun y3=>
    bif (decide (v0.size+y3.size≤9223372036854775807)) then
    lp10 ((v0++y3),(v4.length:Int),(0:Int),v3,v4,v5)
    else none
noncomputable def step10 (N:Nat) (a0:Ledger) (lp16:ByteArray×Int×Int×(List Session)→Option R) (rec:(ByteArray×Int×Int×(List ByteArray)×(List pairOf)×(List Session))→Option R):(ByteArray×Int×Int×(List ByteArray)×(List pairOf)×(List Session))→Option R
  | (v0,v1,v2,v3,v4,v5)=>
    bif (decide (v2<v1)) then
      bif (decide (0≤v2)) then
      bif (decide (v2<(v4.length:Int))) then
      ob (impl_counted.m N ((v4.getD (Int.toNat v2) pairOf.dz).key)) fun y4=>
      ob (impl_counted.m N ((v4.getD (Int.toNat v2) pairOf.dz).value)) fun y5=>
      bif (decide (y4.size+y5.size≤9223372036854775807)) then
      bif (decide (v0.size+(y4++y5).size≤9223372036854775807)) then
      rec ((v0++(y4++y5)),v1,(w64 (v2+(1:Int))),v3,v4,v5)
      else none
      else none
      else none
      else none
    else
    ob (impl_number.m N (v5.length:Int) (1:Int)) fun y6=>
    bif (decide (v0.size+y6.size≤9223372036854775807)) then
    lp16 ((v0++y6),(v5.length:Int),(0:Int),v5)
    else none
noncomputable def step16 (N:Nat) (a0:Ledger) (rec:(ByteArray×Int×Int×(List Session))→Option R):(ByteArray×Int×Int×(List Session))→Option R
  | (v0,v1,v2,v3)=>
    bif (decide (v2<v1)) then
      bif (decide (0≤v2)) then
      bif (decide (v2<(v3.length:Int))) then
      ob (impl_number.m N ((v3.getD (Int.toNat v2) Session.dz).Id) (2:Int)) fun y7=>
      ob (impl_number.m N ((v3.getD (Int.toNat v2) Session.dz).Seq) (2:Int)) fun y8=>
      bif (decide (y7.size+y8.size≤9223372036854775807)) then
      ob (impl_number.m N ((v3.getD (Int.toNat v2) Session.dz).Last.Kind) (1:Int)) fun y9=>
      bif (decide ((y7++y8).size+y9.size≤9223372036854775807)) then
      ob (impl_number.m N ((v3.getD (Int.toNat v2) Session.dz).Last.Place) (1:Int)) fun y10=>
      bif (decide (((y7++y8)++y9).size+y10.size≤9223372036854775807)) then
      ob (impl_counted.m N ((v3.getD (Int.toNat v2) Session.dz).Last.Value)) fun y11=>
      bif (decide ((((y7++y8)++y9)++y10).size+y11.size≤9223372036854775807)) then
      bif (decide (v0.size+((((y7++y8)++y9)++y10)++y11).size≤9223372036854775807)) then
      rec ((v0++((((y7++y8)++y9)++y10)++y11)),v1,(w64 (v2+(1:Int))),v3)
      else none
      else none
      else none
      else none
      else none
      else none
      else none
    else
    some v0
noncomputable def lp16 (N:Nat) (a0:Ledger):(ByteArray×Int×Int×(List Session))→Option R:=
  miter (fun rec=>step16 N a0 rec) N
noncomputable def lp10 (N:Nat) (a0:Ledger):(ByteArray×Int×Int×(List ByteArray)×(List pairOf)×(List Session))→Option R:=
  miter (fun rec=>step10 N a0 (lp16 N a0) rec) N
noncomputable def lp4 (N:Nat) (a0:Ledger):(ByteArray×Int×Int×(List ByteArray)×(List pairOf)×(List Session))→Option R:=
  miter (fun rec=>step4 N a0 (lp10 N a0) rec) N
noncomputable def m0 (N:Nat) (a0:Ledger) (lp4:ByteArray×Int×Int×(List ByteArray)×(List pairOf)×(List Session)→Option R):Option R:=
  ob (impl_booksOf.m N (Ledger.mk a0.Leaves (Branch.mk a0.Map.Key a0.Map.Value a0.Map.At a0.Map.Kids) a0.Sessions)) fun y1=>
  ob (impl_number.m N (y1.leaves.length:Int) (1:Int)) fun y2=>
  lp4 (y2,(y1.leaves.length:Int),(0:Int),y1.leaves,y1.pairs,y1.sessions)
@[reducible] noncomputable def m (N:Nat) (a0:Ledger):Option R:=m0 N a0 (lp4 N a0)
@[reducible] noncomputable def sp (N:Nat):Spec E:=⟨[.val (.st 39)],[.str],true,false,R,fun x=>m N x.1,fun r=>(r,()),fun r=>((),()),fun a b=>a.1,fun _ _=>rfl,fun _ _=>rfl⟩
end impl_snapshot
namespace impl_SameLedger
abbrev R:=Bool×Int
noncomputable def m (N:Nat) (a0:Ledger) (a1:Ledger):Option R:=
  ob (impl_LedgerOK.m N (Ledger.mk a0.Leaves (Branch.mk a0.Map.Key a0.Map.Value a0.Map.At a0.Map.Kids) a0.Sessions)) fun y1=>
  bif (!y1) then
    some (false,(1:Int))
  else
  ob (impl_LedgerOK.m N (Ledger.mk a1.Leaves (Branch.mk a1.Map.Key a1.Map.Value a1.Map.At a1.Map.Kids) a1.Sessions)) fun y2=>
  bif (bif false then true else (!y2)) then
    some (false,(1:Int))
  else
  ob (impl_snapshot.m N (Ledger.mk a0.Leaves (Branch.mk a0.Map.Key a0.Map.Value a0.Map.At a0.Map.Kids) a0.Sessions)) fun y3=>
  ob (impl_snapshot.m N (Ledger.mk a1.Leaves (Branch.mk a1.Map.Key a1.Map.Value a1.Map.At a1.Map.Kids) a1.Sessions)) fun y4=>
  some ((seq y3 y4),(0:Int))
@[reducible] noncomputable def sp (N:Nat):Spec E:=⟨[.val (.st 39),.val (.st 39)],[.bool,(.int .i64)],true,false,R,fun x=>m N x.1 x.2.1,fun r=>(r.1,r.2,()),fun r=>((),(),()),fun a b=>(a.1,a.2.1),fun _ _=>rfl,fun _ _=>rfl⟩
end impl_SameLedger
namespace impl_Apply
abbrev R:=Ledger×Reply×Int
noncomputable def m (N:Nat) (a0:Ledger) (a1:Command):Option R:=
  ob (impl_LedgerOK.m N (Ledger.mk a0.Leaves (Branch.mk a0.Map.Key a0.Map.Value a0.Map.At a0.Map.Kids) a0.Sessions)) fun y1=>
  bif (!y1) then
    some ((Ledger.mk ([]:List ByteArray) (Branch.mk ByteArray.empty ByteArray.empty (0:Int) ([]:List Branch)) ([]:List Session)),(Reply.mk (0:Int) (0:Int) ByteArray.empty),(1:Int))
  else
  ob (impl_CommandOK.m N a1) fun y2=>
  bif (bif false then true else (!y2)) then
    some ((Ledger.mk ([]:List ByteArray) (Branch.mk ByteArray.empty ByteArray.empty (0:Int) ([]:List Branch)) ([]:List Session)),(Reply.mk (0:Int) (0:Int) ByteArray.empty),(1:Int))
  else
  ob (impl_booksOf.m N (Ledger.mk a0.Leaves (Branch.mk a0.Map.Key a0.Map.Value a0.Map.At a0.Map.Kids) a0.Sessions)) fun y3=>
  ob (impl_books_apply.m N y3 a1) fun y4=>
  ob (impl_books_ledger.m N y4.2) fun y5=>
  some ((Ledger.mk y5.Leaves (Branch.mk y5.Map.Key y5.Map.Value y5.Map.At y5.Map.Kids) y5.Sessions),y4.1,(0:Int))
@[reducible] noncomputable def sp (N:Nat):Spec E:=⟨[.val (.st 39),.val (.st 31)],[(.st 39),(.st 27),(.int .i64)],true,false,R,fun x=>m N x.1 x.2.1,fun r=>(r.1,r.2.1,r.2.2,()),fun r=>((),(),()),fun a b=>(a.1,a.2.1,a.2.2.1),fun _ _=>rfl,fun _ _=>rfl⟩
end impl_Apply
namespace impl_split
abbrev R:=Int
noncomputable def step2 (N:Nat) (a0:Int) (rec:Int→Option R):Int→Option R
  | v1=>
    bif (decide ((w64 ((2:Int) * v1))<a0)) then
      rec (w64 (v1 * (2:Int)))
    else
    some v1
noncomputable def lp2 (N:Nat) (a0:Int):Int→Option R:=
  miter (fun rec=>step2 N a0 rec) N
noncomputable def m0 (N:Nat) (a0:Int) (lp2:Int→Option R):Option R:=
  lp2 (1:Int)
@[reducible] noncomputable def m (N:Nat) (a0:Int):Option R:=m0 N a0 (lp2 N a0)
@[reducible] noncomputable def sp (N:Nat):Spec E:=⟨[.val (.int .i64)],[(.int .i64)],true,false,R,fun x=>m N x.1,fun r=>(r,()),fun r=>((),()),fun a b=>a.1,fun _ _=>rfl,fun _ _=>rfl⟩
end impl_split
namespace impl_nodeHash
abbrev R:=ByteArray
noncomputable def m (N:Nat) (a0:ByteArray) (a1:ByteArray):Option R:=
  bif (decide ((⟨#[1]⟩:ByteArray).size+a0.size≤9223372036854775807)) then
  bif (decide (((⟨#[1]⟩:ByteArray)++a0).size+a1.size≤9223372036854775807)) then
  ob (impl_hash.m N (((⟨#[1]⟩:ByteArray)++a0)++a1)) fun y1=>
  some y1
  else none
  else none
@[reducible] noncomputable def sp (N:Nat):Spec E:=⟨[.val .str,.val .str],[.str],true,false,R,fun x=>m N x.1 x.2.1,fun r=>(r,()),fun r=>((),(),()),fun a b=>a.1,fun _ _=>rfl,fun _ _=>rfl⟩
end impl_nodeHash
namespace impl_treeHash
abbrev R:=ByteArray
@[reducible] noncomputable def spf (f:(List ByteArray)→Option R):Spec E:=⟨[.val (.slice 9 .str)],[.str],true,false,R,fun x=>f x.1,fun r=>(r,()),fun r=>((),()),fun a b=>a.1,fun _ _=>rfl,fun _ _=>rfl⟩
end impl_treeHash
namespace impl_treeHash
noncomputable def mb (N:Nat) (slf:(List ByteArray)→Option R) (a0:List ByteArray):Option R:=
  bif ((a0.length:Int)==(0:Int)) then
    ob (impl_hash.m N ByteArray.empty) fun y1=>
    some y1
  else
  bif ((a0.length:Int)==(1:Int)) then
    bif (decide (0≤(0:Int))) then
    bif (decide ((0:Int)<(a0.length:Int))) then
    some (a0.getD 0 ByteArray.empty)
    else none
    else none
  else
  ob (impl_split.m N (a0.length:Int)) fun y2=>
  bif (decide (0≤y2)) then
  bif (decide (y2≤((a0.length:Nat):Int))) then
  ob (slf (a0.take (Int.toNat y2))) fun y3=>
  bif (decide (0≤y2)) then
  bif (decide (y2≤((a0.length:Nat):Int))) then
  ob (slf (a0.drop (Int.toNat y2))) fun y4=>
  ob (impl_nodeHash.m N y3 y4) fun y5=>
  some y5
  else none
  else none
  else none
  else none
noncomputable def mF (N:Nat):Nat→(List ByteArray)→Option R
  | 0=>fun _=>none
  | n+1=>fun a0=>mb N (mF N n) a0
noncomputable def m (N:Nat):(List ByteArray)→Option R:=mF N N
@[reducible] noncomputable def sp (N:Nat):Spec E:=spf (m N)
end impl_treeHash
namespace impl_leafRoot
abbrev R:=ByteArray
noncomputable def m (N:Nat) (a0:ByteArray) (a1:ByteArray):Option R:=
  ob (impl_counted.m N a0) fun y1=>
  bif (decide ((⟨#[0]⟩:ByteArray).size+y1.size≤9223372036854775807)) then
  bif (decide (((⟨#[0]⟩:ByteArray)++y1).size+a1.size≤9223372036854775807)) then
  ob (impl_hash.m N (((⟨#[0]⟩:ByteArray)++y1)++a1)) fun y2=>
  some y2
  else none
  else none
@[reducible] noncomputable def sp (N:Nat):Spec E:=⟨[.val .str,.val .str],[.str],true,false,R,fun x=>m N x.1 x.2.1,fun r=>(r,()),fun r=>((),(),()),fun a b=>a.1,fun _ _=>rfl,fun _ _=>rfl⟩
end impl_leafRoot
namespace impl_forkRoot
abbrev R:=ByteArray
noncomputable def m (N:Nat) (a0:Int) (a1:ByteArray) (a2:ByteArray):Option R:=
  ob (impl_number.m N a0 (1:Int)) fun y1=>
  bif (decide ((⟨#[1]⟩:ByteArray).size+y1.size≤9223372036854775807)) then
  bif (decide (((⟨#[1]⟩:ByteArray)++y1).size+a1.size≤9223372036854775807)) then
  bif (decide ((((⟨#[1]⟩:ByteArray)++y1)++a1).size+a2.size≤9223372036854775807)) then
  ob (impl_hash.m N ((((⟨#[1]⟩:ByteArray)++y1)++a1)++a2)) fun y2=>
  some y2
  else none
  else none
  else none
@[reducible] noncomputable def sp (N:Nat):Spec E:=⟨[.val (.int .i64),.val .str,.val .str],[.str],true,false,R,fun x=>m N x.1 x.2.1 x.2.2.1,fun r=>(r,()),fun r=>((),(),(),()),fun a b=>a.1,fun _ _=>rfl,fun _ _=>rfl⟩
end impl_forkRoot
namespace impl_mapRoot
abbrev R:=ByteArray
@[reducible] noncomputable def spf (f:Branch→Option R):Spec E:=⟨[.val (.st 36)],[.str],true,false,R,fun x=>f x.1,fun r=>(r,()),fun r=>((),()),fun a b=>a.1,fun _ _=>rfl,fun _ _=>rfl⟩
end impl_mapRoot
namespace impl_mapRoot
noncomputable def mb (N:Nat) (slf:Branch→Option R) (a0:Branch):Option R:=
  ob (impl_Branch_isEmpty.m N (Branch.mk a0.Key a0.Value a0.At a0.Kids)) fun y1=>
  bif y1 then
    ob (impl_hash.m N (⟨#[2]⟩:ByteArray)) fun y2=>
    some y2
  else
  bif (a0.At==(256:Int)) then
    ob (impl_leafRoot.m N a0.Key a0.Value) fun y3=>
    some y3
  else
  bif (decide (0≤(0:Int))) then
  bif (decide ((0:Int)<(a0.Kids.length:Int))) then
  ob (slf (Branch.mk ((a0.Kids.getD 0 Branch.dz).Key) ((a0.Kids.getD 0 Branch.dz).Value) ((a0.Kids.getD 0 Branch.dz).At) ((a0.Kids.getD 0 Branch.dz).Kids))) fun y4=>
  bif (decide (0≤(1:Int))) then
  bif (decide ((1:Int)<(a0.Kids.length:Int))) then
  ob (slf (Branch.mk ((a0.Kids.getD 1 Branch.dz).Key) ((a0.Kids.getD 1 Branch.dz).Value) ((a0.Kids.getD 1 Branch.dz).At) ((a0.Kids.getD 1 Branch.dz).Kids))) fun y5=>
  ob (impl_forkRoot.m N a0.At y4 y5) fun y6=>
  some y6
  else none
  else none
  else none
  else none
noncomputable def mF (N:Nat):Nat→Branch→Option R
  | 0=>fun _=>none
  | n+1=>fun a0=>mb N (mF N n) a0
noncomputable def m (N:Nat):Branch→Option R:=mF N N
@[reducible] noncomputable def sp (N:Nat):Spec E:=spf (m N)
end impl_mapRoot
namespace impl_ledgerRoot
abbrev R:=ByteArray
noncomputable def m (N:Nat) (a0:Ledger):Option R:=
  ob (impl_treeHash.m N a0.Leaves) fun y1=>
  bif (decide ((⟨#[114,111,111,116]⟩:ByteArray).size+y1.size≤9223372036854775807)) then
  ob (impl_mapRoot.m N (Branch.mk a0.Map.Key a0.Map.Value a0.Map.At a0.Map.Kids)) fun y2=>
  bif (decide (((⟨#[114,111,111,116]⟩:ByteArray)++y1).size+y2.size≤9223372036854775807)) then
  ob (impl_hash.m N (((⟨#[114,111,111,116]⟩:ByteArray)++y1)++y2)) fun y3=>
  some y3
  else none
  else none
@[reducible] noncomputable def sp (N:Nat):Spec E:=⟨[.val (.st 39)],[.str],true,false,R,fun x=>m N x.1,fun r=>(r,()),fun r=>((),()),fun a b=>a.1,fun _ _=>rfl,fun _ _=>rfl⟩
end impl_ledgerRoot
namespace impl_LedgerRoot
abbrev R:=ByteArray×Int
noncomputable def m (N:Nat) (a0:Ledger):Option R:=
  ob (impl_LedgerOK.m N (Ledger.mk a0.Leaves (Branch.mk a0.Map.Key a0.Map.Value a0.Map.At a0.Map.Kids) a0.Sessions)) fun y1=>
  bif (!y1) then
    some (ByteArray.empty,(1:Int))
  else
  ob (impl_ledgerRoot.m N (Ledger.mk a0.Leaves (Branch.mk a0.Map.Key a0.Map.Value a0.Map.At a0.Map.Kids) a0.Sessions)) fun y2=>
  some (y2,(0:Int))
@[reducible] noncomputable def sp (N:Nat):Spec E:=⟨[.val (.st 39)],[.str,(.int .i64)],true,false,R,fun x=>m N x.1,fun r=>(r.1,r.2,()),fun r=>((),()),fun a b=>(a.1,a.2.1),fun _ _=>rfl,fun _ _=>rfl⟩
end impl_LedgerRoot
end Mir.Y
