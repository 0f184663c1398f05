/- Models of functions. -/
import Derived.Lib.Bytealg
import Derived.Test.YtmjmhkpkmejbnaaGreatEngD
import Derived.Test.YtmjmhkpkmejbnaaGreatQSM3
namespace Mir.Y
set_option linter.unusedVariables false
set_option maxRecDepth 10000
open Go Go.Proofs Mir
set_option linter.unusedSectionVars false
variable [UU]
namespace impl_mapOf_1
abbrev R:=Bool
noncomputable def m (N:Nat) (a0:pairOf) (a1:Int):Option R:=
 ob (impl_bit.m N a0.hash a1) fun y1=>
 some (y1==(1:Int))
@[reducible] noncomputable def sp (N:Nat):Spec E:=⟨[.val (.st 98),.cap (.rb (.int .i64))],[.bool],true,false,R,fun x=>m N x.1 x.2.1,fun r=>(r,()),fun r=>((),(),()),fun a b=>a.1,fun _ _=>rfl,fun _ _=>rfl⟩
end impl_mapOf_1
namespace slices_IndexFunc_impl_pairOf_impl_pairOf__impl_mapOf_1
abbrev R:=Int
noncomputable def step2 (N:Nat) (a0:List pairOf) (a1_0:Int) (rec:(Int×Int)→Option R):(Int×Int)→Option R
 | (v1,v2)=>
  bif (decide (v2<v1)) then
   bif (decide (0≤v2)) then
   bif (decide (v2<(a0.length:Int))) then
   ob (impl_mapOf_1.m N (a0.getD (Int.toNat v2) pairOf.dz) a1_0) fun y1=>
   bif y1 then
    some v2
   else
   rec (v1,(w64 (v2+(1:Int))))
   else none
   else none
  else
  some (-1:Int)
noncomputable def lp2 (N:Nat) (a0:List pairOf) (a1_0:Int):(Int×Int)→Option R:=
 miter (fun rec=>step2 N a0 a1_0 rec) N
noncomputable def m0 (N:Nat) (a0:List pairOf) (a1_0:Int) (lp2:Int×Int→Option R):Option R:=
 lp2 ((a0.length:Int),(0:Int))
@[reducible] noncomputable def m (N:Nat) (a0:List pairOf) (a1_0:Int):Option R:=m0 N a0 a1_0 (lp2 N a0 a1_0)
@[reducible] noncomputable def sp (N:Nat):Spec E:=⟨[.val (.slice 98 (.st 98)),.clo 108 [.rb (.int .i64)]],[(.int .i64)],true,false,R,fun x=>m N x.1 x.2.1.1,fun r=>(r,()),fun r=>((),(),()),fun a b=>a.1,fun _ _=>rfl,fun _ _=>rfl⟩
end slices_IndexFunc_impl_pairOf_impl_pairOf__impl_mapOf_1
namespace impl_mapOf
abbrev R:=Branch
@[reducible] noncomputable def spf (f:(List pairOf)→Int→Option R):Spec E:=⟨[.val (.slice 98 (.st 98)),.val (.int .i64)],[(.st 36)],true,false,R,fun x=>f x.1 x.2.1,fun r=>(r,()),fun r=>((),(),()),fun a b=>a.1,fun _ _=>rfl,fun _ _=>rfl⟩
end impl_mapOf
namespace impl_mapOf
noncomputable def step6 (N:Nat) (slf:(List pairOf)→Int→Option R) (a0:List pairOf) (a1:Int) (rec:(Int×ByteArray×ByteArray×Int)→Option R):(Int×ByteArray×ByteArray×Int)→Option R
 | (v1,v2,v3,v4)=>
  bif (decide (0≤(0:Int))) then
  bif (decide ((0:Int)<(a0.length:Int))) then
  ob (impl_bit.m N ((a0.getD 0 pairOf.dz).hash) v1) fun y1=>
  bif (decide (0≤(w64 ((a0.length:Int) - (1:Int))))) then
  bif (decide ((w64 ((a0.length:Int) - (1:Int)))<(a0.length:Int))) then
  ob (impl_bit.m N ((a0.getD (Int.toNat (w64 ((a0.length:Int) - (1:Int)))) pairOf.dz).hash) v1) fun y2=>
  bif (y1==y2) then
   rec ((w64 (v1+(1:Int))),v2,v3,v4)
  else
  ob (slices_IndexFunc_impl_pairOf_impl_pairOf__impl_mapOf_1.m N a0 v1) fun y3=>
  bif (decide (0≤y3)) then
  bif (decide (y3≤((a0.length:Nat):Int))) then
  ob (slf (a0.take (Int.toNat y3)) (w64 (v1+(1:Int)))) fun y4=>
  bif (decide (0≤y3)) then
  bif (decide (y3≤((a0.length:Nat):Int))) then
  ob (slf (a0.drop (Int.toNat y3)) (w64 (v1+(1:Int)))) fun y5=>
  some (Branch.mk ByteArray.empty ByteArray.empty v1 ([(Branch.mk y4.Key y4.Value y4.At y4.Kids),(Branch.mk y5.Key y5.Value y5.At y5.Kids)]))
  else none
  else none
  else none
  else none
  else none
  else none
  else none
  else none
noncomputable def lp6 (N:Nat) (slf:(List pairOf)→Int→Option R) (a0:List pairOf) (a1:Int):(Int×ByteArray×ByteArray×Int)→Option R:=
 miter (fun rec=>step6 N slf a0 a1 rec) N
noncomputable def m0 (N:Nat) (slf:(List pairOf)→Int→Option R) (a0:List pairOf) (a1:Int) (lp6:Int×ByteArray×ByteArray×Int→Option R):Option R:=
 bif ((a0.length:Int)==(0:Int)) then
  some (Branch.mk ByteArray.empty ByteArray.empty (0:Int) ([]:List Branch))
 else
 bif ((a0.length:Int)==(1:Int)) then
  bif (decide (0≤(0:Int))) then
  bif (decide ((0:Int)<(a0.length:Int))) then
  bif (decide (0≤(0:Int))) then
  bif (decide ((0:Int)<(a0.length:Int))) then
  some (Branch.mk ((a0.getD 0 pairOf.dz).key) ((a0.getD 0 pairOf.dz).value) (256:Int) ([]:List Branch))
  else none
  else none
  else none
  else none
 else
 lp6 (a1,ByteArray.empty,ByteArray.empty,(0:Int))
@[reducible] noncomputable def mb (N:Nat) (slf:(List pairOf)→Int→Option R) (a0:List pairOf) (a1:Int):Option R:=m0 N slf a0 a1 (lp6 N slf a0 a1)
noncomputable def mF (N:Nat):Nat→(List pairOf)→Int→Option R
 | 0=>fun _ _=>none
 | n+1=>fun a0 a1=>mb N (mF N n) a0 a1
noncomputable def m (N:Nat):(List pairOf)→Int→Option R:=mF N N
@[reducible] noncomputable def sp (N:Nat):Spec E:=spf (m N)
end impl_mapOf
namespace impl_books_ledger
abbrev R:=Ledger
noncomputable def m (N:Nat) (a0:books):Option R:=
 ob (impl_mapOf.m N a0.pairs (0:Int)) fun y1=>
 some (Ledger.mk a0.leaves (Branch.mk y1.Key y1.Value y1.At y1.Kids) a0.sessions)
@[reducible] noncomputable def sp (N:Nat):Spec E:=⟨[.movb false 93 93],[(.st 39)],true,false,R,fun x=>m N x.1,fun r=>(r,()),fun r=>((),()),fun a b=>a.1,fun _ _=>rfl,fun _ _=>rfl⟩
end impl_books_ledger
namespace impl_readSnapshot
abbrev R:=Ledger×Bool
inductive A3 where
 | s0 (v0:Int) (v1:Int) (v2:ByteArray) (v3:ByteArray) (v4:Int) (v5:ByteArray) (v6:Bool)
 | s1 (v0:Int) (v1:Int) (v2:ByteArray) (v3:ByteArray) (v4:Int) (v5:ByteArray) (v6:Bool) (v7:List ByteArray)
inductive A7 where
 | s0 (v0:Int) (v1:Int) (v2:ByteArray) (v3:ByteArray) (v4:Int) (v5:ByteArray) (v6:Bool)
 | s1 (v0:Int) (v1:Int) (v2:ByteArray) (v3:ByteArray) (v4:Int) (v5:ByteArray) (v6:Bool) (v7:List ByteArray)
 | s2 (v0:Int) (v1:Int) (v2:ByteArray) (v3:ByteArray) (v4:Int) (v5:ByteArray) (v6:Bool) (v7:List pairOf)
 | s3 (v0:Int) (v1:Int) (v2:ByteArray) (v3:ByteArray) (v4:Int) (v5:ByteArray) (v6:Bool) (v7:List ByteArray) (v8:List pairOf)
inductive A13 where
 | s0 (v0:Int) (v1:Int) (v2:ByteArray) (v3:ByteArray) (v4:Int) (v5:ByteArray) (v6:Bool)
 | s1 (v0:Int) (v1:Int) (v2:ByteArray) (v3:ByteArray) (v4:Int) (v5:ByteArray) (v6:Bool) (v7:List ByteArray)
 | s2 (v0:Int) (v1:Int) (v2:ByteArray) (v3:ByteArray) (v4:Int) (v5:ByteArray) (v6:Bool) (v7:List pairOf)
 | s3 (v0:Int) (v1:Int) (v2:ByteArray) (v3:ByteArray) (v4:Int) (v5:ByteArray) (v6:Bool) (v7:List Session)
 | s4 (v0:Int) (v1:Int) (v2:ByteArray) (v3:ByteArray) (v4:Int) (v5:ByteArray) (v6:Bool) (v7:List ByteArray) (v8:List pairOf)
 | s5 (v0:Int) (v1:Int) (v2:ByteArray) (v3:ByteArray) (v4:Int) (v5:ByteArray) (v6:Bool) (v7:List ByteArray) (v8:List Session)
 | s6 (v0:Int) (v1:Int) (v2:ByteArray) (v3:ByteArray) (v4:Int) (v5:ByteArray) (v6:Bool) (v7:List pairOf) (v8:List Session)
 | s7 (v0:Int) (v1:Int) (v2:ByteArray) (v3:ByteArray) (v4:Int) (v5:ByteArray) (v6:Bool) (v7:List ByteArray) (v8:List pairOf) (v9:List Session)
inductive A17 where
 | s0 (v0:Int) (v1:ByteArray) (v2:ByteArray) (v3:Int) (v4:ByteArray) (v5:Bool)
 | s1 (v0:Int) (v1:ByteArray) (v2:ByteArray) (v3:Int) (v4:ByteArray) (v5:Bool) (v6:List ByteArray)
 | s2 (v0:Int) (v1:ByteArray) (v2:ByteArray) (v3:Int) (v4:ByteArray) (v5:Bool) (v6:List pairOf)
 | s3 (v0:Int) (v1:ByteArray) (v2:ByteArray) (v3:Int) (v4:ByteArray) (v5:Bool) (v6:List Session)
 | s4 (v0:Int) (v1:ByteArray) (v2:ByteArray) (v3:Int) (v4:ByteArray) (v5:Bool) (v6:List ByteArray) (v7:List pairOf)
 | s5 (v0:Int) (v1:ByteArray) (v2:ByteArray) (v3:Int) (v4:ByteArray) (v5:Bool) (v6:List ByteArray) (v7:List Session)
 | s6 (v0:Int) (v1:ByteArray) (v2:ByteArray) (v3:Int) (v4:ByteArray) (v5:Bool) (v6:List pairOf) (v7:List Session)
 | s7 (v0:Int) (v1:ByteArray) (v2:ByteArray) (v3:Int) (v4:ByteArray) (v5:Bool) (v6:List ByteArray) (v7:List pairOf) (v8:List Session)
noncomputable def step3 (N:Nat) (a0:ByteArray) (lp7:A7→Option R) (rec:A3→Option R):A3→Option R
 | .s0 v0 v1 v2 v3 v4 v5 v6=>
  bif (decide (v1<v0)) then
   ob (impl_reader_take_.m N (reader.mk v5 v6) (32:Int)) fun y2=>
   bif (room ([y2.1]).length 16) then
   rec (.s1 v0 (w64 (v1+(1:Int))) v2 v3 v4 y2.2.s y2.2.bad ([y2.1]))
   else none
  else
  ob (impl_reader_number.m N (reader.mk v5 v6) (1:Int)) fun y3=>
  lp7 (.s0 y3.1 (0:Int) v2 v3 v4 y3.2.s y3.2.bad)
 | .s1 v0 v1 v2 v3 v4 v5 v6 v7=>
  bif (decide (v1<v0)) then
   ob (impl_reader_take_.m N (reader.mk v5 v6) (32:Int)) fun y4=>
   bif (room (v7.length+([y4.1]).length) 16) then
   rec (.s1 v0 (w64 (v1+(1:Int))) v2 v3 v4 y4.2.s y4.2.bad (v7++[y4.1]))
   else none
  else
  ob (impl_reader_number.m N (reader.mk v5 v6) (1:Int)) fun y5=>
  lp7 (.s1 y5.1 (0:Int) v2 v3 v4 y5.2.s y5.2.bad v7)
noncomputable def step7 (N:Nat) (a0:ByteArray) (lp13:A13→Option R) (rec:A7→Option R):A7→Option R
 | .s0 v0 v1 v2 v3 v4 v5 v6=>
  bif (decide (v1<v0)) then
   ob (impl_reader_counted.m N (reader.mk v5 v6)) fun y6=>
   ob (impl_reader_counted.m N y6.2) fun y7=>
   ob (impl_hash.m N y6.1) fun y8=>
   bif (room ([(pairOf.mk y6.1 y7.1 y8)]).length 48) then
   rec (.s2 v0 (w64 (v1+(1:Int))) v2 v3 v4 y7.2.s y7.2.bad ([(pairOf.mk y6.1 y7.1 y8)]))
   else none
  else
  ob (impl_reader_number.m N (reader.mk v5 v6) (1:Int)) fun y9=>
  lp13 (.s0 y9.1 (0:Int) v2 v3 v4 y9.2.s y9.2.bad)
 | .s1 v0 v1 v2 v3 v4 v5 v6 v7=>
  bif (decide (v1<v0)) then
   ob (impl_reader_counted.m N (reader.mk v5 v6)) fun y10=>
   ob (impl_reader_counted.m N y10.2) fun y11=>
   ob (impl_hash.m N y10.1) fun y12=>
   bif (room ([(pairOf.mk y10.1 y11.1 y12)]).length 48) then
   rec (.s3 v0 (w64 (v1+(1:Int))) v2 v3 v4 y11.2.s y11.2.bad v7 ([(pairOf.mk y10.1 y11.1 y12)]))
   else none
  else
  ob (impl_reader_number.m N (reader.mk v5 v6) (1:Int)) fun y13=>
  lp13 (.s1 y13.1 (0:Int) v2 v3 v4 y13.2.s y13.2.bad v7)
 | .s2 v0 v1 v2 v3 v4 v5 v6 v7=>
  bif (decide (v1<v0)) then
   ob (impl_reader_counted.m N (reader.mk v5 v6)) fun y14=>
   ob (impl_reader_counted.m N y14.2) fun y15=>
   ob (impl_hash.m N y14.1) fun y16=>
   bif (room (v7.length+([(pairOf.mk y14.1 y15.1 y16)]).length) 48) then
   rec (.s2 v0 (w64 (v1+(1:Int))) v2 v3 v4 y15.2.s y15.2.bad (v7++[(pairOf.mk y14.1 y15.1 y16)]))
   else none
  else
  ob (impl_reader_number.m N (reader.mk v5 v6) (1:Int)) fun y17=>
  lp13 (.s2 y17.1 (0:Int) v2 v3 v4 y17.2.s y17.2.bad v7)
 | .s3 v0 v1 v2 v3 v4 v5 v6 v7 v8=>
  bif (decide (v1<v0)) then
   ob (impl_reader_counted.m N (reader.mk v5 v6)) fun y19=>
   ob (impl_reader_counted.m N y19.2) fun y20=>
   ob (impl_hash.m N y19.1) fun y21=>
   bif (room (v8.length+([(pairOf.mk y19.1 y20.1 y21)]).length) 48) then
   rec (.s3 v0 (w64 (v1+(1:Int))) v2 v3 v4 y20.2.s y20.2.bad v7 (v8++[(pairOf.mk y19.1 y20.1 y21)]))
   else none
  else
  ob (impl_reader_number.m N (reader.mk v5 v6) (1:Int)) fun y22=>
  lp13 (.s4 y22.1 (0:Int) v2 v3 v4 y22.2.s y22.2.bad v7 v8)
noncomputable def step13 (N:Nat) (a0:ByteArray) (lp17:A17→Option R) (rec:A13→Option R):A13→Option R
 | .s0 v0 v1 v2 v3 v4 v5 v6=>
  bif (decide (v1<v0)) then
   ob (impl_reader_session.m N (reader.mk v5 v6)) fun y18=>
   bif (room ([(Session.mk y18.1.Id y18.1.Seq (Reply.mk y18.1.Last.Kind y18.1.Last.Place y18.1.Last.Value))]).length 48) then
   rec (.s3 v0 (w64 (v1+(1:Int))) v2 v3 v4 y18.2.s y18.2.bad ([(Session.mk y18.1.Id y18.1.Seq (Reply.mk y18.1.Last.Kind y18.1.Last.Place y18.1.Last.Value))]))
   else none
  else
  lp17 (.s0 (1:Int) v2 v3 v4 v5 v6)
 | .s1 v0 v1 v2 v3 v4 v5 v6 v7=>
  bif (decide (v1<v0)) then
   ob (impl_reader_session.m N (reader.mk v5 v6)) fun y23=>
   bif (room ([(Session.mk y23.1.Id y23.1.Seq (Reply.mk y23.1.Last.Kind y23.1.Last.Place y23.1.Last.Value))]).length 48) then
   rec (.s5 v0 (w64 (v1+(1:Int))) v2 v3 v4 y23.2.s y23.2.bad v7 ([(Session.mk y23.1.Id y23.1.Seq (Reply.mk y23.1.Last.Kind y23.1.Last.Place y23.1.Last.Value))]))
   else none
  else
  lp17 (.s1 (1:Int) v2 v3 v4 v5 v6 v7)
 | .s2 v0 v1 v2 v3 v4 v5 v6 v7=>
  bif (decide (v1<v0)) then
   ob (impl_reader_session.m N (reader.mk v5 v6)) fun y24=>
   bif (room ([(Session.mk y24.1.Id y24.1.Seq (Reply.mk y24.1.Last.Kind y24.1.Last.Place y24.1.Last.Value))]).length 48) then
   rec (.s6 v0 (w64 (v1+(1:Int))) v2 v3 v4 y24.2.s y24.2.bad v7 ([(Session.mk y24.1.Id y24.1.Seq (Reply.mk y24.1.Last.Kind y24.1.Last.Place y24.1.Last.Value))]))
   else none
  else
  lp17 (.s2 (1:Int) v2 v3 v4 v5 v6 v7)
 | .s3 v0 v1 v2 v3 v4 v5 v6 v7=>
  bif (decide (v1<v0)) then
   ob (impl_reader_session.m N (reader.mk v5 v6)) fun y25=>
   bif (room (v7.length+([(Session.mk y25.1.Id y25.1.Seq (Reply.mk y25.1.Last.Kind y25.1.Last.Place y25.1.Last.Value))]).length) 48) then
   rec (.s3 v0 (w64 (v1+(1:Int))) v2 v3 v4 y25.2.s y25.2.bad (v7++[(Session.mk y25.1.Id y25.1.Seq (Reply.mk y25.1.Last.Kind y25.1.Last.Place y25.1.Last.Value))]))
   else none
  else
  lp17 (.s3 (1:Int) v2 v3 v4 v5 v6 v7)
 | .s4 v0 v1 v2 v3 v4 v5 v6 v7 v8=>
  bif (decide (v1<v0)) then
   ob (impl_reader_session.m N (reader.mk v5 v6)) fun y28=>
   bif (room ([(Session.mk y28.1.Id y28.1.Seq (Reply.mk y28.1.Last.Kind y28.1.Last.Place y28.1.Last.Value))]).length 48) then
   rec (.s7 v0 (w64 (v1+(1:Int))) v2 v3 v4 y28.2.s y28.2.bad v7 v8 ([(Session.mk y28.1.Id y28.1.Seq (Reply.mk y28.1.Last.Kind y28.1.Last.Place y28.1.Last.Value))]))
   else none
  else
  lp17 (.s4 (1:Int) v2 v3 v4 v5 v6 v7 v8)
 | .s5 v0 v1 v2 v3 v4 v5 v6 v7 v8=>
  bif (decide (v1<v0)) then
   ob (impl_reader_session.m N (reader.mk v5 v6)) fun y29=>
   bif (room (v8.length+([(Session.mk y29.1.Id y29.1.Seq (Reply.mk y29.1.Last.Kind y29.1.Last.Place y29.1.Last.Value))]).length) 48) then
   rec (.s5 v0 (w64 (v1+(1:Int))) v2 v3 v4 y29.2.s y29.2.bad v7 (v8++[(Session.mk y29.1.Id y29.1.Seq (Reply.mk y29.1.Last.Kind y29.1.Last.Place y29.1.Last.Value))]))
   else none
  else
  lp17 (.s5 (1:Int) v2 v3 v4 v5 v6 v7 v8)
 | .s6 v0 v1 v2 v3 v4 v5 v6 v7 v8=>
  bif (decide (v1<v0)) then
   ob (impl_reader_session.m N (reader.mk v5 v6)) fun y32=>
   bif (room (v8.length+([(Session.mk y32.1.Id y32.1.Seq (Reply.mk y32.1.Last.Kind y32.1.Last.Place y32.1.Last.Value))]).length) 48) then
   rec (.s6 v0 (w64 (v1+(1:Int))) v2 v3 v4 y32.2.s y32.2.bad v7 (v8++[(Session.mk y32.1.Id y32.1.Seq (Reply.mk y32.1.Last.Kind y32.1.Last.Place y32.1.Last.Value))]))
   else none
  else
  lp17 (.s6 (1:Int) v2 v3 v4 v5 v6 v7 v8)
 | .s7 v0 v1 v2 v3 v4 v5 v6 v7 v8 v9=>
  bif (decide (v1<v0)) then
   ob (impl_reader_session.m N (reader.mk v5 v6)) fun y37=>
   bif (room (v9.length+([(Session.mk y37.1.Id y37.1.Seq (Reply.mk y37.1.Last.Kind y37.1.Last.Place y37.1.Last.Value))]).length) 48) then
   rec (.s7 v0 (w64 (v1+(1:Int))) v2 v3 v4 y37.2.s y37.2.bad v7 v8 (v9++[(Session.mk y37.1.Id y37.1.Seq (Reply.mk y37.1.Last.Kind y37.1.Last.Place y37.1.Last.Value))]))
   else none
  else
  lp17 (.s7 (1:Int) v2 v3 v4 v5 v6 v7 v8 v9)
noncomputable def step17 (N:Nat) (a0:ByteArray) (rec:A17→Option R):A17→Option R
 | .s0 v0 v1 v2 v3 v4 v5=>
  bif (decide (v0<(0:Int))) then
   none
  else
  bif v5 then
   some ((Ledger.mk ([]:List ByteArray) (Branch.mk ByteArray.empty ByteArray.empty (0:Int) ([]:List Branch)) ([]:List Session)),false)
  else
  bif (bif false then true else (!seq v4 ByteArray.empty)) then
   some ((Ledger.mk ([]:List ByteArray) (Branch.mk ByteArray.empty ByteArray.empty (0:Int) ([]:List Branch)) ([]:List Session)),false)
  else
  ob (impl_books_ledger.m N (books.mk ([]:List ByteArray) ([]:List pairOf) ([]:List Session))) fun y26=>
  ob (impl_LedgerOK.m N (Ledger.mk y26.Leaves (Branch.mk y26.Map.Key y26.Map.Value y26.Map.At y26.Map.Kids) y26.Sessions)) fun y27=>
  some ((Ledger.mk y26.Leaves (Branch.mk y26.Map.Key y26.Map.Value y26.Map.At y26.Map.Kids) y26.Sessions),y27)
 | .s1 v0 v1 v2 v3 v4 v5 v6=>
  bif (decide (v0<(0:Int))) then
   none
  else
  bif v5 then
   some ((Ledger.mk ([]:List ByteArray) (Branch.mk ByteArray.empty ByteArray.empty (0:Int) ([]:List Branch)) ([]:List Session)),false)
  else
  bif (bif false then true else (!seq v4 ByteArray.empty)) then
   some ((Ledger.mk ([]:List ByteArray) (Branch.mk ByteArray.empty ByteArray.empty (0:Int) ([]:List Branch)) ([]:List Session)),false)
  else
  ob (impl_books_ledger.m N (books.mk v6 ([]:List pairOf) ([]:List Session))) fun y30=>
  ob (impl_LedgerOK.m N (Ledger.mk y30.Leaves (Branch.mk y30.Map.Key y30.Map.Value y30.Map.At y30.Map.Kids) y30.Sessions)) fun y31=>
  some ((Ledger.mk y30.Leaves (Branch.mk y30.Map.Key y30.Map.Value y30.Map.At y30.Map.Kids) y30.Sessions),y31)
 | .s2 v0 v1 v2 v3 v4 v5 v6=>
  bif (decide (v0<(v6.length:Int))) then
   bif (decide (0≤(w64 (v0 - (1:Int))))) then
   bif (decide ((w64 (v0 - (1:Int)))<(v6.length:Int))) then
   bif (decide (0≤v0)) then
   bif (decide (v0<(v6.length:Int))) then
   bif (!slt ((v6.getD (Int.toNat (w64 (v0 - (1:Int)))) pairOf.dz).hash) ((v6.getD (Int.toNat v0) pairOf.dz).hash)) then
    some ((Ledger.mk ([]:List ByteArray) (Branch.mk ByteArray.empty ByteArray.empty (0:Int) ([]:List Branch)) ([]:List Session)),false)
   else
   rec (.s2 (w64 (v0+(1:Int))) v1 v2 v3 v4 v5 v6)
   else none
   else none
   else none
   else none
  else
  bif v5 then
   some ((Ledger.mk ([]:List ByteArray) (Branch.mk ByteArray.empty ByteArray.empty (0:Int) ([]:List Branch)) ([]:List Session)),false)
  else
  bif (bif false then true else (!seq v4 ByteArray.empty)) then
   some ((Ledger.mk ([]:List ByteArray) (Branch.mk ByteArray.empty ByteArray.empty (0:Int) ([]:List Branch)) ([]:List Session)),false)
  else
  ob (impl_books_ledger.m N (books.mk ([]:List ByteArray) v6 ([]:List Session))) fun y33=>
  ob (impl_LedgerOK.m N (Ledger.mk y33.Leaves (Branch.mk y33.Map.Key y33.Map.Value y33.Map.At y33.Map.Kids) y33.Sessions)) fun y34=>
  some ((Ledger.mk y33.Leaves (Branch.mk y33.Map.Key y33.Map.Value y33.Map.At y33.Map.Kids) y33.Sessions),y34)
 | .s3 v0 v1 v2 v3 v4 v5 v6=>
  bif (decide (v0<(0:Int))) then
   none
  else
  bif v5 then
   some ((Ledger.mk ([]:List ByteArray) (Branch.mk ByteArray.empty ByteArray.empty (0:Int) ([]:List Branch)) ([]:List Session)),false)
  else
  bif (bif false then true else (!seq v4 ByteArray.empty)) then
   some ((Ledger.mk ([]:List ByteArray) (Branch.mk ByteArray.empty ByteArray.empty (0:Int) ([]:List Branch)) ([]:List Session)),false)
  else
  ob (impl_books_ledger.m N (books.mk ([]:List ByteArray) ([]:List pairOf) v6)) fun y35=>
  ob (impl_LedgerOK.m N (Ledger.mk y35.Leaves (Branch.mk y35.Map.Key y35.Map.Value y35.Map.At y35.Map.Kids) y35.Sessions)) fun y36=>
  some ((Ledger.mk y35.Leaves (Branch.mk y35.Map.Key y35.Map.Value y35.Map.At y35.Map.Kids) y35.Sessions),y36)
 | .s4 v0 v1 v2 v3 v4 v5 v6 v7=>
  bif (decide (v0<(v7.length:Int))) then
   bif (decide (0≤(w64 (v0 - (1:Int))))) then
   bif (decide ((w64 (v0 - (1:Int)))<(v7.length:Int))) then
   bif (decide (0≤v0)) then
   bif (decide (v0<(v7.length:Int))) then
   bif (!slt ((v7.getD (Int.toNat (w64 (v0 - (1:Int)))) pairOf.dz).hash) ((v7.getD (Int.toNat v0) pairOf.dz).hash)) then
    some ((Ledger.mk ([]:List ByteArray) (Branch.mk ByteArray.empty ByteArray.empty (0:Int) ([]:List Branch)) ([]:List Session)),false)
   else
   rec (.s4 (w64 (v0+(1:Int))) v1 v2 v3 v4 v5 v6 v7)
   else none
   else none
   else none
   else none
  else
  bif v5 then
   some ((Ledger.mk ([]:List ByteArray) (Branch.mk ByteArray.empty ByteArray.empty (0:Int) ([]:List Branch)) ([]:List Session)),false)
  else
  bif (bif false then true else (!seq v4 ByteArray.empty)) then
   some ((Ledger.mk ([]:List ByteArray) (Branch.mk ByteArray.empty ByteArray.empty (0:Int) ([]:List Branch)) ([]:List Session)),false)
  else
  ob (impl_books_ledger.m N (books.mk v6 v7 ([]:List Session))) fun y38=>
  ob (impl_LedgerOK.m N (Ledger.mk y38.Leaves (Branch.mk y38.Map.Key y38.Map.Value y38.Map.At y38.Map.Kids) y38.Sessions)) fun y39=>
  some ((Ledger.mk y38.Leaves (Branch.mk y38.Map.Key y38.Map.Value y38.Map.At y38.Map.Kids) y38.Sessions),y39)
 | .s5 v0 v1 v2 v3 v4 v5 v6 v7=>
  bif (decide (v0<(0:Int))) then
   none
  else
  bif v5 then
   some ((Ledger.mk ([]:List ByteArray) (Branch.mk ByteArray.empty ByteArray.empty (0:Int) ([]:List Branch)) ([]:List Session)),false)
  else
  bif (bif false then true else (!seq v4 ByteArray.empty)) then
   some ((Ledger.mk ([]:List ByteArray) (Branch.mk ByteArray.empty ByteArray.empty (0:Int) ([]:List Branch)) ([]:List Session)),false)
  else
  ob (impl_books_ledger.m N (books.mk v6 ([]:List pairOf) v7)) fun y40=>
  ob (impl_LedgerOK.m N (Ledger.mk y40.Leaves (Branch.mk y40.Map.Key y40.Map.Value y40.Map.At y40.Map.Kids) y40.Sessions)) fun y41=>
  some ((Ledger.mk y40.Leaves (Branch.mk y40.Map.Key y40.Map.Value y40.Map.At y40.Map.Kids) y40.Sessions),y41)
 | .s6 v0 v1 v2 v3 v4 v5 v6 v7=>
  bif (decide (v0<(v6.length:Int))) then
   bif (decide (0≤(w64 (v0 - (1:Int))))) then
   bif (decide ((w64 (v0 - (1:Int)))<(v6.length:Int))) then
   bif (decide (0≤v0)) then
   bif (decide (v0<(v6.length:Int))) then
   bif (!slt ((v6.getD (Int.toNat (w64 (v0 - (1:Int)))) pairOf.dz).hash) ((v6.getD (Int.toNat v0) pairOf.dz).hash)) then
    some ((Ledger.mk ([]:List ByteArray) (Branch.mk ByteArray.empty ByteArray.empty (0:Int) ([]:List Branch)) ([]:List Session)),false)
   else
   rec (.s6 (w64 (v0+(1:Int))) v1 v2 v3 v4 v5 v6 v7)
   else none
   else none
   else none
   else none
  else
  bif v5 then
   some ((Ledger.mk ([]:List ByteArray) (Branch.mk ByteArray.empty ByteArray.empty (0:Int) ([]:List Branch)) ([]:List Session)),false)
  else
  bif (bif false then true else (!seq v4 ByteArray.empty)) then
   some ((Ledger.mk ([]:List ByteArray) (Branch.mk ByteArray.empty ByteArray.empty (0:Int) ([]:List Branch)) ([]:List Session)),false)
  else
  ob (impl_books_ledger.m N (books.mk ([]:List ByteArray) v6 v7)) fun y42=>
  ob (impl_LedgerOK.m N (Ledger.mk y42.Leaves (Branch.mk y42.Map.Key y42.Map.Value y42.Map.At y42.Map.Kids) y42.Sessions)) fun y43=>
  some ((Ledger.mk y42.Leaves (Branch.mk y42.Map.Key y42.Map.Value y42.Map.At y42.Map.Kids) y42.Sessions),y43)
 | .s7 v0 v1 v2 v3 v4 v5 v6 v7 v8=>
  bif (decide (v0<(v7.length:Int))) then
   bif (decide (0≤(w64 (v0 - (1:Int))))) then
   bif (decide ((w64 (v0 - (1:Int)))<(v7.length:Int))) then
   bif (decide (0≤v0)) then
   bif (decide (v0<(v7.length:Int))) then
   bif (!slt ((v7.getD (Int.toNat (w64 (v0 - (1:Int)))) pairOf.dz).hash) ((v7.getD (Int.toNat v0) pairOf.dz).hash)) then
    some ((Ledger.mk ([]:List ByteArray) (Branch.mk ByteArray.empty ByteArray.empty (0:Int) ([]:List Branch)) ([]:List Session)),false)
   else
   rec (.s7 (w64 (v0+(1:Int))) v1 v2 v3 v4 v5 v6 v7 v8)
   else none
   else none
   else none
   else none
  else
  bif v5 then
   some ((Ledger.mk ([]:List ByteArray) (Branch.mk ByteArray.empty ByteArray.empty (0:Int) ([]:List Branch)) ([]:List Session)),false)
  else
  bif (bif false then true else (!seq v4 ByteArray.empty)) then
   some ((Ledger.mk ([]:List ByteArray) (Branch.mk ByteArray.empty ByteArray.empty (0:Int) ([]:List Branch)) ([]:List Session)),false)
  else
  ob (impl_books_ledger.m N (books.mk v6 v7 v8)) fun y44=>
  ob (impl_LedgerOK.m N (Ledger.mk y44.Leaves (Branch.mk y44.Map.Key y44.Map.Value y44.Map.At y44.Map.Kids) y44.Sessions)) fun y45=>
  some ((Ledger.mk y44.Leaves (Branch.mk y44.Map.Key y44.Map.Value y44.Map.At y44.Map.Kids) y44.Sessions),y45)
noncomputable def lp17 (N:Nat) (a0:ByteArray):A17→Option R:=
 miter (fun rec=>step17 N a0 rec) N
noncomputable def lp13 (N:Nat) (a0:ByteArray):A13→Option R:=
 miter (fun rec=>step13 N a0 (lp17 N a0) rec) N
noncomputable def lp7 (N:Nat) (a0:ByteArray):A7→Option R:=
 miter (fun rec=>step7 N a0 (lp13 N a0) rec) N
noncomputable def lp3 (N:Nat) (a0:ByteArray):A3→Option R:=
 miter (fun rec=>step3 N a0 (lp7 N a0) rec) N
noncomputable def m0 (N:Nat) (a0:ByteArray) (lp3:A3→Option R):Option R:=
 ob (impl_reader_number.m N (reader.mk a0 false) (1:Int)) fun y1=>
 lp3 (.s0 y1.1 (0:Int) ByteArray.empty ByteArray.empty (0:Int) y1.2.s y1.2.bad)
@[reducible] noncomputable def m (N:Nat) (a0:ByteArray):Option R:=m0 N a0 (lp3 N a0)
@[reducible] noncomputable def sp (N:Nat):Spec E:=⟨[.val .str],[(.st 39),.bool],true,false,R,fun x=>m N x.1,fun r=>(r.1,r.2,()),fun r=>((),()),fun a b=>(a.1,a.2.1),fun _ _=>rfl,fun _ _=>rfl⟩
end impl_readSnapshot
namespace impl_ReadSnapshot
abbrev R:=Ledger×Int
noncomputable def m (N:Nat) (a0:List Int):Option R:=
 bif (decide ((a0.length:Int) > (65536:Int))) then
  some ((Ledger.mk ([]:List ByteArray) (Branch.mk ByteArray.empty ByteArray.empty (0:Int) ([]:List Branch)) ([]:List Session)),(2:Int))
 else
 ob (impl_readSnapshot.m N (strOf a0)) fun y1=>
 bif (!y1.2) then
  some ((Ledger.mk ([]:List ByteArray) (Branch.mk ByteArray.empty ByteArray.empty (0:Int) ([]:List Branch)) ([]:List Session)),(3:Int))
 else
 some ((Ledger.mk y1.1.Leaves (Branch.mk y1.1.Map.Key y1.1.Map.Value y1.1.Map.At y1.1.Map.Kids) y1.1.Sessions),(0:Int))
@[reducible] noncomputable def sp (N:Nat):Spec E:=⟨[.val (.slice 5 (.int .u8))],[(.st 39),(.int .i64)],true,false,R,fun x=>m N x.1,fun r=>(r.1,r.2,()),fun r=>((),()),fun a b=>(a.1,a.2.1),fun _ _=>rfl,fun _ _=>rfl⟩
end impl_ReadSnapshot
namespace spec_CommandOf
abbrev R:=Command
noncomputable def m (N:Nat) (a0:List Int):Option R:=
 ob (spec_l00Source.m N a0) fun y1=>
 ob (spec_l00Src_command.m N y1) fun y2=>
 some y2.1
@[reducible] noncomputable def sp (N:Nat):Spec E:=⟨[.val (.slice 5 (.int .u8))],[(.st 31)],true,false,R,fun x=>m N x.1,fun r=>(r,()),fun r=>((),()),fun a b=>a.1,fun _ _=>rfl,fun _ _=>rfl⟩
end spec_CommandOf
namespace impl_CommandOK
abbrev R:=Bool
noncomputable def m (N:Nat) (a0:Command):Option R:=
 ob (impl_isShort.m N a0.Session) fun y1=>
 bif (!y1) then
  some false
 else
 ob (impl_isShort.m N a0.Seq) fun y2=>
 bif (bif false then true else (!y2)) then
  some false
 else
 ob (impl_isValue.m N a0.Value) fun y3=>
 bif (bif false then true else (!y3)) then
  some false
 else
 bif (a0.Kind==(1:Int)) then
  ob (impl_isKey.m N a0.Key) fun y4=>
  some y4
 else
 bif (a0.Kind==(2:Int)) then
  ob (impl_isKey.m N a0.Key) fun y5=>
  some y5
 else
 bif (a0.Kind==(3:Int)) then
  ob (impl_isKey.m N a0.Key) fun y6=>
  bif y6 then
   some (bif true then (seq a0.Value ByteArray.empty) else false)
  else
  some false
 else
 bif (a0.Kind==(4:Int)) then
  bif (seq a0.Key ByteArray.empty) then
   bif (bif true then (seq a0.Value ByteArray.empty) else false) then
    some (bif true then (a0.Seq==(0:Int)) else false)
   else
   some false
  else
  some false
 else
 bif (a0.Kind==(5:Int)) then
  bif (seq a0.Key ByteArray.empty) then
   bif (bif true then (seq a0.Value ByteArray.empty) else false) then
    some (bif true then (a0.Seq==(0:Int)) else false)
   else
   some false
  else
  some false
 else
 some false
@[reducible] noncomputable def sp (N:Nat):Spec E:=⟨[.val (.st 31)],[.bool],true,false,R,fun x=>m N x.1,fun r=>(r,()),fun r=>((),()),fun a b=>a.1,fun _ _=>rfl,fun _ _=>rfl⟩
end impl_CommandOK
namespace cmp_isNaN_int
abbrev R:=Bool
noncomputable def m (N:Nat) (a0:Int):Option R:=
 some (a0 != a0)
@[reducible] noncomputable def sp (N:Nat):Spec E:=⟨[.val (.int .i64)],[.bool],true,false,R,fun x=>m N x.1,fun r=>(r,()),fun r=>((),()),fun a b=>a.1,fun _ _=>rfl,fun _ _=>rfl⟩
end cmp_isNaN_int
namespace cmp_Compare_int
abbrev R:=Int
noncomputable def m (N:Nat) (a0:Int) (a1:Int):Option R:=
 ob (cmp_isNaN_int.m N a0) fun y1=>
 ob (cmp_isNaN_int.m N a1) fun y2=>
 bif y1 then
  bif y2 then
   some (0:Int)
  else
  some (-1:Int)
 else
 bif y2 then
  some (1:Int)
 else
 bif (decide (a0<a1)) then
  some (-1:Int)
 else
 bif (decide (a0 > a1)) then
  some (1:Int)
 else
 some (0:Int)
@[reducible] noncomputable def sp (N:Nat):Spec E:=⟨[.val (.int .i64),.val (.int .i64)],[(.int .i64)],true,false,R,fun x=>m N x.1 x.2.1,fun r=>(r,()),fun r=>((),(),()),fun a b=>a.1,fun _ _=>rfl,fun _ _=>rfl⟩
end cmp_Compare_int
namespace impl_books_sessionAt_1
abbrev R:=Int
noncomputable def m (N:Nat) (a0:Session) (a1:Int):Option R:=
 ob (cmp_Compare_int.m N a0.Id a1) fun y1=>
 some y1
@[reducible] noncomputable def sp (N:Nat):Spec E:=⟨[.val (.st 72),.val (.int .i64)],[(.int .i64)],true,false,R,fun x=>m N x.1 x.2.1,fun r=>(r,()),fun r=>((),(),()),fun a b=>a.1,fun _ _=>rfl,fun _ _=>rfl⟩
end impl_books_sessionAt_1
namespace slices_BinarySearchFunc_impl_Session_impl_Session_int__impl_books_sessionAt_1
abbrev R:=Int×Bool
noncomputable def step3 (N:Nat) (a0:List Session) (a1:Int) (rec:(Int×Int×Int)→Option R):(Int×Int×Int)→Option R
 | (v2,v3,v4)=>
  bif (decide (v3<v4)) then
   bif (!decide ((1:Int)<0)) then
   bif (decide (0≤(w64 (Int.fdiv (wu64 (w64 (v3+v4))) (2 ^ (min (Int.toNat (1:Int)) 64)))))) then
   bif (decide ((w64 (Int.fdiv (wu64 (w64 (v3+v4))) (2 ^ (min (Int.toNat (1:Int)) 64))))<(a0.length:Int))) then
   ob (impl_books_sessionAt_1.m N (Session.mk ((a0.getD (Int.toNat (w64 (Int.fdiv (wu64 (w64 (v3+v4))) (2 ^ (min (Int.toNat (1:Int)) 64))))) Session.dz).Id) ((a0.getD (Int.toNat (w64 (Int.fdiv (wu64 (w64 (v3+v4))) (2 ^ (min (Int.toNat (1:Int)) 64))))) Session.dz).Seq) (Reply.mk ((a0.getD (Int.toNat (w64 (Int.fdiv (wu64 (w64 (v3+v4))) (2 ^ (min (Int.toNat (1:Int)) 64))))) Session.dz).Last.Kind) ((a0.getD (Int.toNat (w64 (Int.fdiv (wu64 (w64 (v3+v4))) (2 ^ (min (Int.toNat (1:Int)) 64))))) Session.dz).Last.Place) ((a0.getD (Int.toNat (w64 (Int.fdiv (wu64 (w64 (v3+v4))) (2 ^ (min (Int.toNat (1:Int)) 64))))) Session.dz).Last.Value))) a1) fun y1=>
   bif (decide (y1<(0:Int))) then
    rec (v2,(w64 ((w64 (Int.fdiv (wu64 (w64 (v3+v4))) (2 ^ (min (Int.toNat (1:Int)) 64))))+(1:Int))),v4)
   else
   rec (v2,v3,(w64 (Int.fdiv (wu64 (w64 (v3+v4))) (2 ^ (min (Int.toNat (1:Int)) 64)))))
   else none
   else none
   else none
  else
  bif (decide (v3<v2)) then
   bif (decide (0≤v3)) then
   bif (decide (v3<(a0.length:Int))) then
   ob (impl_books_sessionAt_1.m N (Session.mk ((a0.getD (Int.toNat v3) Session.dz).Id) ((a0.getD (Int.toNat v3) Session.dz).Seq) (Reply.mk ((a0.getD (Int.toNat v3) Session.dz).Last.Kind) ((a0.getD (Int.toNat v3) Session.dz).Last.Place) ((a0.getD (Int.toNat v3) Session.dz).Last.Value))) a1) fun y2=>
   some (v3,(bif true then (y2==(0:Int)) else false))
   else none
   else none
  else
  some (v3,false)
noncomputable def lp3 (N:Nat) (a0:List Session) (a1:Int):(Int×Int×Int)→Option R:=
 miter (fun rec=>step3 N a0 a1 rec) N
noncomputable def m0 (N:Nat) (a0:List Session) (a1:Int) (lp3:Int×Int×Int→Option R):Option R:=
 lp3 ((a0.length:Int),(0:Int),(a0.length:Int))
@[reducible] noncomputable def m (N:Nat) (a0:List Session) (a1:Int):Option R:=m0 N a0 a1 (lp3 N a0 a1)
@[reducible] noncomputable def sp (N:Nat):Spec E:=⟨[.val (.slice 72 (.st 72)),.val (.int .i64),.clo 99 []],[(.int .i64),.bool],true,false,R,fun x=>m N x.1 x.2.1,fun r=>(r.1,r.2,()),fun r=>((),(),(),()),fun a b=>(a.1,a.2.1),fun _ _=>rfl,fun _ _=>rfl⟩
end slices_BinarySearchFunc_impl_Session_impl_Session_int__impl_books_sessionAt_1
namespace impl_books_sessionAt_
abbrev R:=Int×Bool
noncomputable def m (N:Nat) (a0:books) (a1:Int):Option R:=
 ob (slices_BinarySearchFunc_impl_Session_impl_Session_int__impl_books_sessionAt_1.m N a0.sessions a1) fun y1=>
 some (y1.1,y1.2)
@[reducible] noncomputable def sp (N:Nat):Spec E:=⟨[.cap (.rb (.st 93)),.val (.int .i64)],[(.int .i64),.bool],true,false,R,fun x=>m N x.1 x.2.1,fun r=>(r.1,r.2,()),fun r=>((),(),()),fun a b=>(a.1,a.2.1),fun _ _=>rfl,fun _ _=>rfl⟩
end impl_books_sessionAt_
namespace slices_Insert_impl_Session
abbrev R:=List Session
def m (N:Nat) (a0:List Session) (a1:Int) (a2:List Session):Option R:=insM 48 a0 a1 a2
@[reducible] noncomputable def sp (N:Nat):Spec E:={ ps:=[.mov false (.slice 72 (.st 72)),.val (.int .i64),.mov false (.slice 72 (.st 72))],rs:=[(.slice 72 (.st 72))],own:=true,dp:=false,R:=R,fn:=fun x=>m N x.1 x.2.1 x.2.2.1,res:=fun r=>(r,()),out:=fun r=>((),(),(),()),shut:=fun a b=>a.1,res_shut:=fun _ _=>rfl,out_shut:=fun _ _=>rfl }
end slices_Insert_impl_Session
namespace impl_books_open
abbrev R:=Reply×books
noncomputable def m (N:Nat) (a0:books) (a1:Int):Option R:=
 ob (impl_books_sessionAt_.m N a0 a1) fun y1=>
 bif y1.2 then
  some ((Reply.mk (5:Int) (0:Int) ByteArray.empty),a0)
 else
 bif ((a0.sessions.length:Int)==(8:Int)) then
  some ((Reply.mk (6:Int) (0:Int) ByteArray.empty),a0)
 else
 ob (slices_Insert_impl_Session.m N a0.sessions y1.1 ([(Session.mk a1 (0:Int) (Reply.mk (0:Int) (0:Int) ByteArray.empty))])) fun y2=>
 some ((Reply.mk (1:Int) (0:Int) ByteArray.empty),(books.mk a0.leaves a0.pairs y2))
@[reducible] noncomputable def sp (N:Nat):Spec E:=⟨[.box false 93 93,.val (.int .i64)],[(.st 27)],true,false,R,fun x=>m N x.1 x.2.1,fun r=>(r.1,()),fun r=>(r.2,(),()),fun a b=>(a.1,b.1),fun _ _=>rfl,fun _ _=>rfl⟩
end impl_books_open
namespace slices_Delete_impl_Session
abbrev R:=List Session
def m (N:Nat) (a0:List Session) (a1:Int) (a2:Int):Option R:=delM a0 a1 a2
@[reducible] noncomputable def sp (N:Nat):Spec E:={ ps:=[.mov false (.slice 72 (.st 72)),.val (.int .i64),.val (.int .i64)],rs:=[(.slice 72 (.st 72))],own:=true,dp:=false,R:=R,fn:=fun x=>m N x.1 x.2.1 x.2.2.1,res:=fun r=>(r,()),out:=fun r=>((),(),(),()),shut:=fun a b=>a.1,res_shut:=fun _ _=>rfl,out_shut:=fun _ _=>rfl }
end slices_Delete_impl_Session
namespace impl_books_shut
abbrev R:=Reply×books
noncomputable def m (N:Nat) (a0:books) (a1:Int):Option R:=
 ob (impl_books_sessionAt_.m N a0 a1) fun y1=>
 bif (!y1.2) then
  some ((Reply.mk (4:Int) (0:Int) ByteArray.empty),a0)
 else
 ob (slices_Delete_impl_Session.m N a0.sessions y1.1 (w64 (y1.1+(1:Int)))) fun y2=>
 some ((Reply.mk (1:Int) (0:Int) ByteArray.empty),(books.mk a0.leaves a0.pairs y2))
@[reducible] noncomputable def sp (N:Nat):Spec E:=⟨[.box false 93 93,.val (.int .i64)],[(.st 27)],true,false,R,fun x=>m N x.1 x.2.1,fun r=>(r.1,()),fun r=>(r.2,(),()),fun a b=>(a.1,b.1),fun _ _=>rfl,fun _ _=>rfl⟩
end impl_books_shut
namespace strings_Compare
abbrev R:=Int
def m (N:Nat) (a0 a1:ByteArray):Option R:=some (Go.Lib.compareBytes a0.data.toList a1.data.toList)
@[reducible] noncomputable def sp (N:Nat):Spec E:={ ps:=[.val .str,.val .str],rs:=[.int .i64],own:=true,dp:=false,R:=R,fn:=fun x=>m N x.1 x.2.1,res:=fun r=>(r,()),out:=fun r=>((),(),()),shut:=fun a b=>a.1,res_shut:=fun _ _=>rfl,out_shut:=fun _ _=>rfl }
end strings_Compare
namespace impl_pairAt_1
abbrev R:=Int
noncomputable def m (N:Nat) (a0:pairOf) (a1:ByteArray):Option R:=
 ob (strings_Compare.m N a0.hash a1) fun y1=>
 some y1
@[reducible] noncomputable def sp (N:Nat):Spec E:=⟨[.val (.st 98),.val .str],[(.int .i64)],true,false,R,fun x=>m N x.1 x.2.1,fun r=>(r,()),fun r=>((),(),()),fun a b=>a.1,fun _ _=>rfl,fun _ _=>rfl⟩
end impl_pairAt_1
namespace slices_BinarySearchFunc_impl_pairOf_impl_pairOf_string__impl_pairAt_1
abbrev R:=Int×Bool
noncomputable def step3 (N:Nat) (a0:List pairOf) (a1:ByteArray) (rec:(Int×Int×Int)→Option R):(Int×Int×Int)→Option R
 | (v2,v3,v4)=>
  bif (decide (v3<v4)) then
   bif (!decide ((1:Int)<0)) then
   bif (decide (0≤(w64 (Int.fdiv (wu64 (w64 (v3+v4))) (2 ^ (min (Int.toNat (1:Int)) 64)))))) then
   bif (decide ((w64 (Int.fdiv (wu64 (w64 (v3+v4))) (2 ^ (min (Int.toNat (1:Int)) 64))))<(a0.length:Int))) then
   ob (impl_pairAt_1.m N (a0.getD (Int.toNat (w64 (Int.fdiv (wu64 (w64 (v3+v4))) (2 ^ (min (Int.toNat (1:Int)) 64))))) pairOf.dz) a1) fun y1=>
   bif (decide (y1<(0:Int))) then
    rec (v2,(w64 ((w64 (Int.fdiv (wu64 (w64 (v3+v4))) (2 ^ (min (Int.toNat (1:Int)) 64))))+(1:Int))),v4)
   else
   rec (v2,v3,(w64 (Int.fdiv (wu64 (w64 (v3+v4))) (2 ^ (min (Int.toNat (1:Int)) 64)))))
   else none
   else none
   else none
  else
  bif (decide (v3<v2)) then
   bif (decide (0≤v3)) then
   bif (decide (v3<(a0.length:Int))) then
   ob (impl_pairAt_1.m N (a0.getD (Int.toNat v3) pairOf.dz) a1) fun y2=>
   some (v3,(bif true then (y2==(0:Int)) else false))
   else none
   else none
  else
  some (v3,false)
noncomputable def lp3 (N:Nat) (a0:List pairOf) (a1:ByteArray):(Int×Int×Int)→Option R:=
 miter (fun rec=>step3 N a0 a1 rec) N
noncomputable def m0 (N:Nat) (a0:List pairOf) (a1:ByteArray) (lp3:Int×Int×Int→Option R):Option R:=
 lp3 ((a0.length:Int),(0:Int),(a0.length:Int))
@[reducible] noncomputable def m (N:Nat) (a0:List pairOf) (a1:ByteArray):Option R:=m0 N a0 a1 (lp3 N a0 a1)
@[reducible] noncomputable def sp (N:Nat):Spec E:=⟨[.val (.slice 98 (.st 98)),.val .str,.clo 138 []],[(.int .i64),.bool],true,false,R,fun x=>m N x.1 x.2.1,fun r=>(r.1,r.2,()),fun r=>((),(),(),()),fun a b=>(a.1,a.2.1),fun _ _=>rfl,fun _ _=>rfl⟩
end slices_BinarySearchFunc_impl_pairOf_impl_pairOf_string__impl_pairAt_1
namespace impl_pairAt
abbrev R:=Int×Bool
noncomputable def m (N:Nat) (a0:List pairOf) (a1:ByteArray):Option R:=
 ob (impl_hash.m N a1) fun y1=>
 ob (slices_BinarySearchFunc_impl_pairOf_impl_pairOf_string__impl_pairAt_1.m N a0 y1) fun y2=>
 some (y2.1,y2.2)
@[reducible] noncomputable def sp (N:Nat):Spec E:=⟨[.val (.slice 98 (.st 98)),.val .str],[(.int .i64),.bool],true,false,R,fun x=>m N x.1 x.2.1,fun r=>(r.1,r.2,()),fun r=>((),(),()),fun a b=>(a.1,a.2.1),fun _ _=>rfl,fun _ _=>rfl⟩
end impl_pairAt
namespace slices_Delete_impl_pairOf
abbrev R:=List pairOf
def m (N:Nat) (a0:List pairOf) (a1:Int) (a2:Int):Option R:=delM a0 a1 a2
@[reducible] noncomputable def sp (N:Nat):Spec E:={ ps:=[.mov false (.slice 98 (.st 98)),.val (.int .i64),.val (.int .i64)],rs:=[(.slice 98 (.st 98))],own:=true,dp:=false,R:=R,fn:=fun x=>m N x.1 x.2.1 x.2.2.1,res:=fun r=>(r,()),out:=fun r=>((),(),(),()),shut:=fun a b=>a.1,res_shut:=fun _ _=>rfl,out_shut:=fun _ _=>rfl }
end slices_Delete_impl_pairOf
namespace impl_Command_bytes
abbrev R:=ByteArray
noncomputable def m (N:Nat) (a0:Command):Option R:=
 ob (impl_number.m N a0.Kind (1:Int)) fun y1=>
 ob (impl_number.m N a0.Session (2:Int)) fun y2=>
 bif (decide (y1.size+y2.size≤9223372036854775807)) then
 ob (impl_number.m N a0.Seq (2:Int)) fun y3=>
 bif (decide ((y1++y2).size+y3.size≤9223372036854775807)) then
 ob (impl_counted.m N a0.Key) fun y4=>
 bif (decide (((y1++y2)++y3).size+y4.size≤9223372036854775807)) then
 ob (impl_counted.m N a0.Value) fun y5=>
 bif (decide ((((y1++y2)++y3)++y4).size+y5.size≤9223372036854775807)) then
 some ((((y1++y2)++y3)++y4)++y5)
 else none
 else none
 else none
 else none
@[reducible] noncomputable def sp (N:Nat):Spec E:=⟨[.val (.st 31)],[.str],true,false,R,fun x=>m N x.1,fun r=>(r,()),fun r=>((),()),fun a b=>a.1,fun _ _=>rfl,fun _ _=>rfl⟩
end impl_Command_bytes
namespace impl_leafHash
abbrev R:=ByteArray
noncomputable def m (N:Nat) (a0:ByteArray):Option R:=
 bif (decide ((⟨#[0]⟩:ByteArray).size+a0.size≤9223372036854775807)) then
 ob (impl_hash.m N ((⟨#[0]⟩:ByteArray)++a0)) fun y1=>
 some y1
 else none
@[reducible] noncomputable def sp (N:Nat):Spec E:=⟨[.val .str],[.str],true,false,R,fun x=>m N x.1,fun r=>(r,()),fun r=>((),()),fun a b=>a.1,fun _ _=>rfl,fun _ _=>rfl⟩
end impl_leafHash
namespace slices_Clone_impl_pairOf_impl_pairOf
abbrev R:=(List pairOf)
noncomputable def m (N:Nat) (a0:List pairOf):Option R:=
 amb (a0.isEmpty) true
  (some ([]:List pairOf))
  (bif (room (([]:List pairOf).length+a0.length) 48) then
  some (([]:List pairOf)++a0)
  else none)
@[reducible] noncomputable def sp (N:Nat):Spec E:=⟨[.val (.slice 98 (.st 98))],[(.slice 98 (.st 98))],true,false,R,fun x=>m N x.1,fun r=>(r,()),fun r=>((),()),fun a b=>a.1,fun _ _=>rfl,fun _ _=>rfl⟩
end slices_Clone_impl_pairOf_impl_pairOf
namespace slices_Insert_impl_pairOf
abbrev R:=List pairOf
def m (N:Nat) (a0:List pairOf) (a1:Int) (a2:List pairOf):Option R:=insM 48 a0 a1 a2
@[reducible] noncomputable def sp (N:Nat):Spec E:={ ps:=[.mov false (.slice 98 (.st 98)),.val (.int .i64),.mov false (.slice 98 (.st 98))],rs:=[(.slice 98 (.st 98))],own:=true,dp:=false,R:=R,fn:=fun x=>m N x.1 x.2.1 x.2.2.1,res:=fun r=>(r,()),out:=fun r=>((),(),(),()),shut:=fun a b=>a.1,res_shut:=fun _ _=>rfl,out_shut:=fun _ _=>rfl }
end slices_Insert_impl_pairOf
namespace impl_mapPut
abbrev R:=(List pairOf)×Int
noncomputable def m (N:Nat) (a0:List pairOf) (a1:ByteArray) (a2:ByteArray):Option R:=
 ob (slices_Clone_impl_pairOf_impl_pairOf.m N a0) fun y1=>
 ob (impl_hash.m N a1) fun y2=>
 ob (impl_pairAt.m N y1 a1) fun y3=>
 bif y3.2 then
  bif (decide (0≤y3.1)) then
  bif (decide (y3.1<(y1.length:Int))) then
  some ((y1.set (Int.toNat y3.1) (pairOf.mk a1 a2 y2)),(0:Int))
  else none
  else none
 else
 bif ((y1.length:Int)==(40:Int)) then
  some (([]:List pairOf),(7:Int))
 else
 ob (slices_Insert_impl_pairOf.m N y1 y3.1 ([(pairOf.mk a1 a2 y2)])) fun y4=>
 some (y4,(0:Int))
@[reducible] noncomputable def sp (N:Nat):Spec E:=⟨[.val (.slice 98 (.st 98)),.val .str,.val .str],[(.slice 98 (.st 98)),(.int .i64)],true,false,R,fun x=>m N x.1 x.2.1 x.2.2.1,fun r=>(r.1,r.2,()),fun r=>((),(),(),()),fun a b=>(a.1,a.2.1),fun _ _=>rfl,fun _ _=>rfl⟩
end impl_mapPut
namespace impl_books_write
abbrev R:=Reply×books
noncomputable def m (N:Nat) (a0:books) (a1:Command):Option R:=
 ob (impl_pairAt.m N a0.pairs a1.Key) fun y1=>
 bif y1.2 then
  bif (decide (0≤y1.1)) then
  bif (decide (y1.1<(a0.pairs.length:Int))) then
  bif (a1.Kind==(2:Int)) then
   bif (decide (((a0.pairs.getD (Int.toNat y1.1) pairOf.dz).value).size+a1.Value.size≤9223372036854775807)) then
   bif ((a0.leaves.length:Int)==(50:Int)) then
    some ((Reply.mk (6:Int) (0:Int) ByteArray.empty),(books.mk a0.leaves a0.pairs ([])))
   else
   ob (impl_isValue.m N (((a0.pairs.getD (Int.toNat y1.1) pairOf.dz).value)++a1.Value)) fun y2=>
   bif (bif false then true else (!y2)) then
    some ((Reply.mk (6:Int) (0:Int) ByteArray.empty),(books.mk a0.leaves a0.pairs ([])))
   else
   bif (a1.Kind==(3:Int)) then
    ob (slices_Delete_impl_pairOf.m N a0.pairs y1.1 (w64 (y1.1+(1:Int)))) fun y3=>
    ob (impl_Command_bytes.m N a1) fun y4=>
    ob (impl_leafHash.m N y4) fun y5=>
    bif (room (a0.leaves.length+([y5]).length) 16) then
    some ((Reply.mk (1:Int) ((a0.leaves++[y5]).length:Int) (((a0.pairs.getD (Int.toNat y1.1) pairOf.dz).value)++a1.Value)),(books.mk (a0.leaves++[y5]) y3 ([])))
    else none
   else
   ob (impl_mapPut.m N a0.pairs a1.Key (((a0.pairs.getD (Int.toNat y1.1) pairOf.dz).value)++a1.Value)) fun y6=>
   bif (y6.2 != (0:Int)) then
    some ((Reply.mk (6:Int) (0:Int) ByteArray.empty),(books.mk a0.leaves a0.pairs ([])))
   else
   ob (impl_Command_bytes.m N a1) fun y7=>
   ob (impl_leafHash.m N y7) fun y8=>
   bif (room (a0.leaves.length+([y8]).length) 16) then
   some ((Reply.mk (1:Int) ((a0.leaves++[y8]).length:Int) (((a0.pairs.getD (Int.toNat y1.1) pairOf.dz).value)++a1.Value)),(books.mk (a0.leaves++[y8]) y6.1 ([])))
   else none
   else none
  else
  bif (a1.Kind==(3:Int)) then
   bif (!y1.2) then
    some ((Reply.mk (2:Int) (0:Int) ByteArray.empty),(books.mk a0.leaves a0.pairs ([])))
   else
   bif ((a0.leaves.length:Int)==(50:Int)) then
    some ((Reply.mk (6:Int) (0:Int) ByteArray.empty),(books.mk a0.leaves a0.pairs ([])))
   else
   ob (impl_isValue.m N ((a0.pairs.getD (Int.toNat y1.1) pairOf.dz).value)) fun y9=>
   bif (bif false then true else (!y9)) then
    some ((Reply.mk (6:Int) (0:Int) ByteArray.empty),(books.mk a0.leaves a0.pairs ([])))
   else
   bif (a1.Kind==(3:Int)) then
    ob (slices_Delete_impl_pairOf.m N a0.pairs y1.1 (w64 (y1.1+(1:Int)))) fun y10=>
    ob (impl_Command_bytes.m N a1) fun y11=>
    ob (impl_leafHash.m N y11) fun y12=>
    bif (room (a0.leaves.length+([y12]).length) 16) then
    some ((Reply.mk (1:Int) ((a0.leaves++[y12]).length:Int) ((a0.pairs.getD (Int.toNat y1.1) pairOf.dz).value)),(books.mk (a0.leaves++[y12]) y10 ([])))
    else none
   else
   ob (impl_mapPut.m N a0.pairs a1.Key ((a0.pairs.getD (Int.toNat y1.1) pairOf.dz).value)) fun y13=>
   bif (y13.2 != (0:Int)) then
    some ((Reply.mk (6:Int) (0:Int) ByteArray.empty),(books.mk a0.leaves a0.pairs ([])))
   else
   ob (impl_Command_bytes.m N a1) fun y14=>
   ob (impl_leafHash.m N y14) fun y15=>
   bif (room (a0.leaves.length+([y15]).length) 16) then
   some ((Reply.mk (1:Int) ((a0.leaves++[y15]).length:Int) ((a0.pairs.getD (Int.toNat y1.1) pairOf.dz).value)),(books.mk (a0.leaves++[y15]) y13.1 ([])))
   else none
  else
  bif ((a0.leaves.length:Int)==(50:Int)) then
   some ((Reply.mk (6:Int) (0:Int) ByteArray.empty),(books.mk a0.leaves a0.pairs ([])))
  else
  ob (impl_isValue.m N a1.Value) fun y16=>
  bif (bif false then true else (!y16)) then
   some ((Reply.mk (6:Int) (0:Int) ByteArray.empty),(books.mk a0.leaves a0.pairs ([])))
  else
  bif (a1.Kind==(3:Int)) then
   ob (slices_Delete_impl_pairOf.m N a0.pairs y1.1 (w64 (y1.1+(1:Int)))) fun y17=>
   ob (impl_Command_bytes.m N a1) fun y18=>
   ob (impl_leafHash.m N y18) fun y19=>
   bif (room (a0.leaves.length+([y19]).length) 16) then
   some ((Reply.mk (1:Int) ((a0.leaves++[y19]).length:Int) a1.Value),(books.mk (a0.leaves++[y19]) y17 ([])))
   else none
  else
  ob (impl_mapPut.m N a0.pairs a1.Key a1.Value) fun y20=>
  bif (y20.2 != (0:Int)) then
   some ((Reply.mk (6:Int) (0:Int) ByteArray.empty),(books.mk a0.leaves a0.pairs ([])))
  else
  ob (impl_Command_bytes.m N a1) fun y21=>
  ob (impl_leafHash.m N y21) fun y22=>
  bif (room (a0.leaves.length+([y22]).length) 16) then
  some ((Reply.mk (1:Int) ((a0.leaves++[y22]).length:Int) a1.Value),(books.mk (a0.leaves++[y22]) y20.1 ([])))
  else none
  else none
  else none
 else
 bif (a1.Kind==(2:Int)) then
  bif (decide (ByteArray.empty.size+a1.Value.size≤9223372036854775807)) then
  bif ((a0.leaves.length:Int)==(50:Int)) then
   some ((Reply.mk (6:Int) (0:Int) ByteArray.empty),(books.mk a0.leaves a0.pairs ([])))
  else
  ob (impl_isValue.m N (ByteArray.empty++a1.Value)) fun y23=>
  bif (bif false then true else (!y23)) then
   some ((Reply.mk (6:Int) (0:Int) ByteArray.empty),(books.mk a0.leaves a0.pairs ([])))
  else
  bif (a1.Kind==(3:Int)) then
   ob (slices_Delete_impl_pairOf.m N a0.pairs y1.1 (w64 (y1.1+(1:Int)))) fun y24=>
   ob (impl_Command_bytes.m N a1) fun y25=>
   ob (impl_leafHash.m N y25) fun y26=>
   bif (room (a0.leaves.length+([y26]).length) 16) then
   some ((Reply.mk (1:Int) ((a0.leaves++[y26]).length:Int) (ByteArray.empty++a1.Value)),(books.mk (a0.leaves++[y26]) y24 ([])))
   else none
  else
  ob (impl_mapPut.m N a0.pairs a1.Key (ByteArray.empty++a1.Value)) fun y27=>
  bif (y27.2 != (0:Int)) then
   some ((Reply.mk (6:Int) (0:Int) ByteArray.empty),(books.mk a0.leaves a0.pairs ([])))
  else
  ob (impl_Command_bytes.m N a1) fun y28=>
  ob (impl_leafHash.m N y28) fun y29=>
  bif (room (a0.leaves.length+([y29]).length) 16) then
  some ((Reply.mk (1:Int) ((a0.leaves++[y29]).length:Int) (ByteArray.empty++a1.Value)),(books.mk (a0.leaves++[y29]) y27.1 ([])))
  else none
  else none
 else
 bif (a1.Kind==(3:Int)) then
  bif (!y1.2) then
   some ((Reply.mk (2:Int) (0:Int) ByteArray.empty),(books.mk a0.leaves a0.pairs ([])))
  else
  bif ((a0.leaves.length:Int)==(50:Int)) then
   some ((Reply.mk (6:Int) (0:Int) ByteArray.empty),(books.mk a0.leaves a0.pairs ([])))
  else
  ob (impl_isValue.m N ByteArray.empty) fun y30=>
  bif (bif false then true else (!y30)) then
   some ((Reply.mk (6:Int) (0:Int) ByteArray.empty),(books.mk a0.leaves a0.pairs ([])))
  else
  bif (a1.Kind==(3:Int)) then
   ob (slices_Delete_impl_pairOf.m N a0.pairs y1.1 (w64 (y1.1+(1:Int)))) fun y31=>
   ob (impl_Command_bytes.m N a1) fun y32=>
   ob (impl_leafHash.m N y32) fun y33=>
   bif (room (a0.leaves.length+([y33]).length) 16) then
   some ((Reply.mk (1:Int) ((a0.leaves++[y33]).length:Int) ByteArray.empty),(books.mk (a0.leaves++[y33]) y31 ([])))
   else none
  else
  ob (impl_mapPut.m N a0.pairs a1.Key ByteArray.empty) fun y34=>
  bif (y34.2 != (0:Int)) then
   some ((Reply.mk (6:Int) (0:Int) ByteArray.empty),(books.mk a0.leaves a0.pairs ([])))
  else
  ob (impl_Command_bytes.m N a1) fun y35=>
  ob (impl_leafHash.m N y35) fun y36=>
  bif (room (a0.leaves.length+([y36]).length) 16) then
  some ((Reply.mk (1:Int) ((a0.leaves++[y36]).length:Int) ByteArray.empty),(books.mk (a0.leaves++[y36]) y34.1 ([])))
  else none
 else
 bif ((a0.leaves.length:Int)==(50:Int)) then
  some ((Reply.mk (6:Int) (0:Int) ByteArray.empty),(books.mk a0.leaves a0.pairs ([])))
 else
 ob (impl_isValue.m N a1.Value) fun y37=>
 bif (bif false then true else (!y37)) then
  some ((Reply.mk (6:Int) (0:Int) ByteArray.empty),(books.mk a0.leaves a0.pairs ([])))
 else
 bif (a1.Kind==(3:Int)) then
  ob (slices_Delete_impl_pairOf.m N a0.pairs y1.1 (w64 (y1.1+(1:Int)))) fun y38=>
  ob (impl_Command_bytes.m N a1) fun y39=>
  ob (impl_leafHash.m N y39) fun y40=>
  bif (room (a0.leaves.length+([y40]).length) 16) then
  some ((Reply.mk (1:Int) ((a0.leaves++[y40]).length:Int) a1.Value),(books.mk (a0.leaves++[y40]) y38 ([])))
  else none
 else
 ob (impl_mapPut.m N a0.pairs a1.Key a1.Value) fun y41=>
 bif (y41.2 != (0:Int)) then
  some ((Reply.mk (6:Int) (0:Int) ByteArray.empty),(books.mk a0.leaves a0.pairs ([])))
 else
 ob (impl_Command_bytes.m N a1) fun y42=>
 ob (impl_leafHash.m N y42) fun y43=>
 bif (room (a0.leaves.length+([y43]).length) 16) then
 some ((Reply.mk (1:Int) ((a0.leaves++[y43]).length:Int) a1.Value),(books.mk (a0.leaves++[y43]) y41.1 ([])))
 else none
@[reducible] noncomputable def sp (N:Nat):Spec E:=⟨[.box false 93 92,.val (.st 31)],[(.st 27)],true,false,R,fun x=>m N x.1 x.2.1,fun r=>(r.1,()),fun r=>(r.2,(),()),fun a b=>(a.1,b.1),fun _ _=>rfl,fun _ _=>rfl⟩
end impl_books_write
namespace impl_books_apply
abbrev R:=Reply×books
noncomputable def m (N:Nat) (a0:books) (a1:Command):Option R:=
 bif a1.Kind==(4:Int) then impl_books_open.m N a0 a1.Session
 else bif a1.Kind==(5:Int) then impl_books_shut.m N a0 a1.Session
 else ob (impl_books_sessionAt_.m N a0 a1.Session) fun y=>
  bif !y.2 then some (Reply.mk 4 0 ByteArray.empty,a0)
  else bif decide (0≤y.1)&&decide (y.1<(a0.sessions.length:Int)) then
   bif decide (a1.Seq=(a0.sessions.getD y.1.toNat Session.dz).Seq) then bif decide ((a0.sessions.getD y.1.toNat Session.dz).Last.Kind=0) then none else some ((a0.sessions.getD y.1.toNat Session.dz).Last,a0)
   else bif decide (a1.Seq≤(a0.sessions.getD y.1.toNat Session.dz).Seq) then some (Reply.mk 3 0 ByteArray.empty,a0)
   else ob (impl_books_write.m N a0 a1) fun w=>some (w.1,books.mk w.2.leaves w.2.pairs (a0.sessions.set y.1.toNat (Session.mk (a0.sessions.getD y.1.toNat Session.dz).Id a1.Seq w.1)))
  else none
@[reducible] noncomputable def sp (N:Nat):Spec E:={ ps:=[.box false 93 93,.val (.st 31)],rs:=[(.st 27)],own:=true,dp:=false,R:=R,fn:=fun x=>m N x.1 x.2.1,res:=fun r=>(r.1,()),out:=fun r=>(r.2,(),()),shut:=fun a b=>(a.1,b.1),res_shut:=fun _ _=>rfl,out_shut:=fun _ _=>rfl }
end impl_books_apply
namespace impl_Apply
abbrev R:=Ledger×Reply×Int
noncomputable def m (N:Nat) (a0:Ledger) (a1:Command):Option R:=
 ob (impl_LedgerOK.m N (Ledger.mk a0.Leaves (Branch.mk a0.Map.Key a0.Map.Value a0.Map.At a0.Map.Kids) a0.Sessions)) fun y1=>
 bif (!y1) then
  some ((Ledger.mk ([]:List ByteArray) (Branch.mk ByteArray.empty ByteArray.empty (0:Int) ([]:List Branch)) ([]:List Session)),(Reply.mk (0:Int) (0:Int) ByteArray.empty),(1:Int))
 else
 ob (impl_CommandOK.m N a1) fun y2=>
 bif (bif false then true else (!y2)) then
  some ((Ledger.mk ([]:List ByteArray) (Branch.mk ByteArray.empty ByteArray.empty (0:Int) ([]:List Branch)) ([]:List Session)),(Reply.mk (0:Int) (0:Int) ByteArray.empty),(1:Int))
 else
 ob (impl_booksOf.m N (Ledger.mk a0.Leaves (Branch.mk a0.Map.Key a0.Map.Value a0.Map.At a0.Map.Kids) a0.Sessions)) fun y3=>
 ob (impl_books_apply.m N y3 a1) fun y4=>
 ob (impl_books_ledger.m N y4.2) fun y5=>
 some ((Ledger.mk y5.Leaves (Branch.mk y5.Map.Key y5.Map.Value y5.Map.At y5.Map.Kids) y5.Sessions),y4.1,(0:Int))
@[reducible] noncomputable def sp (N:Nat):Spec E:=⟨[.val (.st 39),.val (.st 31)],[(.st 39),(.st 27),(.int .i64)],true,false,R,fun x=>m N x.1 x.2.1,fun r=>(r.1,r.2.1,r.2.2,()),fun r=>((),(),()),fun a b=>(a.1,a.2.1,a.2.2.1),fun _ _=>rfl,fun _ _=>rfl⟩
end impl_Apply
namespace impl_split
abbrev R:=Int
noncomputable def step2 (N:Nat) (a0:Int) (rec:Int→Option R):Int→Option R
 | v1=>
  bif (decide ((w64 ((2:Int) * v1))<a0)) then
   rec (w64 (v1 * (2:Int)))
  else
  some v1
noncomputable def lp2 (N:Nat) (a0:Int):Int→Option R:=
 miter (fun rec=>step2 N a0 rec) N
noncomputable def m0 (N:Nat) (a0:Int) (lp2:Int→Option R):Option R:=
 lp2 (1:Int)
@[reducible] noncomputable def m (N:Nat) (a0:Int):Option R:=m0 N a0 (lp2 N a0)
@[reducible] noncomputable def sp (N:Nat):Spec E:=⟨[.val (.int .i64)],[(.int .i64)],true,false,R,fun x=>m N x.1,fun r=>(r,()),fun r=>((),()),fun a b=>a.1,fun _ _=>rfl,fun _ _=>rfl⟩
end impl_split
namespace impl_nodeHash
abbrev R:=ByteArray
noncomputable def m (N:Nat) (a0:ByteArray) (a1:ByteArray):Option R:=
 bif (decide ((⟨#[1]⟩:ByteArray).size+a0.size≤9223372036854775807)) then
 bif (decide (((⟨#[1]⟩:ByteArray)++a0).size+a1.size≤9223372036854775807)) then
 ob (impl_hash.m N (((⟨#[1]⟩:ByteArray)++a0)++a1)) fun y1=>
 some y1
 else none
 else none
@[reducible] noncomputable def sp (N:Nat):Spec E:=⟨[.val .str,.val .str],[.str],true,false,R,fun x=>m N x.1 x.2.1,fun r=>(r,()),fun r=>((),(),()),fun a b=>a.1,fun _ _=>rfl,fun _ _=>rfl⟩
end impl_nodeHash
namespace impl_treeHash
abbrev R:=ByteArray
@[reducible] noncomputable def spf (f:(List ByteArray)→Option R):Spec E:=⟨[.val (.slice 9 .str)],[.str],true,false,R,fun x=>f x.1,fun r=>(r,()),fun r=>((),()),fun a b=>a.1,fun _ _=>rfl,fun _ _=>rfl⟩
end impl_treeHash
namespace impl_treeHash
noncomputable def mb (N:Nat) (slf:(List ByteArray)→Option R) (a0:List ByteArray):Option R:=
 bif ((a0.length:Int)==(0:Int)) then
  ob (impl_hash.m N ByteArray.empty) fun y1=>
  some y1
 else
 bif ((a0.length:Int)==(1:Int)) then
  bif (decide (0≤(0:Int))) then
  bif (decide ((0:Int)<(a0.length:Int))) then
  some (a0.getD 0 ByteArray.empty)
  else none
  else none
 else
 ob (impl_split.m N (a0.length:Int)) fun y2=>
 bif (decide (0≤y2)) then
 bif (decide (y2≤((a0.length:Nat):Int))) then
 ob (slf (a0.take (Int.toNat y2))) fun y3=>
 bif (decide (0≤y2)) then
 bif (decide (y2≤((a0.length:Nat):Int))) then
 ob (slf (a0.drop (Int.toNat y2))) fun y4=>
 ob (impl_nodeHash.m N y3 y4) fun y5=>
 some y5
 else none
 else none
 else none
 else none
noncomputable def mF (N:Nat):Nat→(List ByteArray)→Option R
 | 0=>fun _=>none
 | n+1=>fun a0=>mb N (mF N n) a0
noncomputable def m (N:Nat):(List ByteArray)→Option R:=mF N N
@[reducible] noncomputable def sp (N:Nat):Spec E:=spf (m N)
end impl_treeHash
namespace impl_leafRoot
abbrev R:=ByteArray
noncomputable def m (N:Nat) (a0:ByteArray) (a1:ByteArray):Option R:=
 ob (impl_counted.m N a0) fun y1=>
 bif (decide ((⟨#[0]⟩:ByteArray).size+y1.size≤9223372036854775807)) then
 bif (decide (((⟨#[0]⟩:ByteArray)++y1).size+a1.size≤9223372036854775807)) then
 ob (impl_hash.m N (((⟨#[0]⟩:ByteArray)++y1)++a1)) fun y2=>
 some y2
 else none
 else none
@[reducible] noncomputable def sp (N:Nat):Spec E:=⟨[.val .str,.val .str],[.str],true,false,R,fun x=>m N x.1 x.2.1,fun r=>(r,()),fun r=>((),(),()),fun a b=>a.1,fun _ _=>rfl,fun _ _=>rfl⟩
end impl_leafRoot
end Mir.Y
