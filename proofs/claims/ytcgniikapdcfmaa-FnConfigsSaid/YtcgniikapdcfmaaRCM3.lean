/- Models of functions. -/
import Derived.Test.YtcgniikapdcfmaaRCM2
namespace Mir.Y
set_option linter.unusedVariables false
set_option maxRecDepth 10000
open Go Go.Proofs Mir
namespace impl_NodeOK
abbrev R:=Bool
noncomputable def m (N:Nat) (a0:Node):Option R:=
 ob (impl_isNumber.m N a0.Id) fun y1=>
 bif (!y1) then
  some false
 else
 ob (impl_StateOK.m N (State.mk a0.Term a0.Vote a0.Log)) fun y2=>
 bif (bif false then true else (!y2)) then
  some false
 else
 ob (impl_membersOK.m N a0.Start) fun y3=>
 bif (bif false then true else (!y3)) then
  some false
 else
 ob (impl_areNumbers.m N a0.Votes) fun y4=>
 bif (bif false then true else (!y4)) then
  some false
 else
 ob (impl_areRising.m N a0.Votes) fun y5=>
 bif (bif false then true else (!y5)) then
  some false
 else
 ob (impl_within.m N a0.Role (0:Int) (2:Int)) fun y6=>
 bif (!y6) then
  some false
 else
 bif (!a0.Up) then
  bif (bif false then true else (bif true then (a0.Role != (0:Int)) else false)) then
   some false
  else
  ob (impl_reachOK.m N a0.Next a0.Match (a0.Log.length:Int)) fun y7=>
  bif (bif false then true else (!y7)) then
   some false
  else
  ob (impl_within.m N a0.Commit (0:Int) (a0.Log.length:Int)) fun y8=>
  bif y8 then
   ob (impl_within.m N a0.Elapsed (0:Int) (1000:Int)) fun y9=>
   bif (bif true then y9 else false) then
    ob (impl_within.m N a0.Wait (5:Int) (100:Int)) fun y10=>
    some (bif true then y10 else false)
   else
   some false
  else
  some false
 else
 bif (bif false then true else false) then
  some false
 else
 ob (impl_reachOK.m N a0.Next a0.Match (a0.Log.length:Int)) fun y11=>
 bif (bif false then true else (!y11)) then
  some false
 else
 ob (impl_within.m N a0.Commit (0:Int) (a0.Log.length:Int)) fun y12=>
 bif y12 then
  ob (impl_within.m N a0.Elapsed (0:Int) (1000:Int)) fun y13=>
  bif (bif true then y13 else false) then
   ob (impl_within.m N a0.Wait (5:Int) (100:Int)) fun y14=>
   some (bif true then y14 else false)
  else
  some false
 else
 some false
@[reducible] noncomputable def sp (N:Nat):Spec E:=⟨[.val (.st 26)],[.bool],true,false,R,fun x=>m N x.1,fun r=>(r,()),fun r=>((),()),fun a b=>a.1,fun _ _=>rfl,fun _ _=>rfl⟩
end impl_NodeOK
namespace slices_Clone_int_int
abbrev R:=(List Int)
noncomputable def m (N:Nat) (a0:List Int):Option R:=
 amb (a0.isEmpty) true
  (some ([]:List Int))
  (bif (room (([]:List Int).length+a0.length) 8) then
  some (([]:List Int)++a0)
  else none)
@[reducible] noncomputable def sp (N:Nat):Spec E:=⟨[.val (.slice 3 (.int .i64))],[(.slice 3 (.int .i64))],true,false,R,fun x=>m N x.1,fun r=>(r,()),fun r=>((),()),fun a b=>a.1,fun _ _=>rfl,fun _ _=>rfl⟩
end slices_Clone_int_int
namespace impl_Node_members
abbrev R:=List Int
noncomputable def m (N:Nat) (a0:Node):Option R:=
 bif decide (a0.Log.length≤1048576000)&&a0.Log.all (fun e=>!(e.Kind==2)||(impl_readMembers.m N e.Data).isSome) then
  match a0.Log.reverse.find? (fun e=>e.Kind==2) with
  | some e=>(impl_readMembers.m N e.Data).map (·.1)
  | none=>slices_Clone_int_int.m N a0.Start
 else none
@[reducible] noncomputable def sp (N:Nat):Spec E:={ ps:=[.val (.st 26)],rs:=[(.slice 3 (.int .i64))],own:=true,dp:=false,R:=R,fn:=fun x=>m N x.1,res:=fun r=>(r,()),out:=fun r=>((),()),shut:=fun a b=>a.1,res_shut:=fun _ _=>rfl,out_shut:=fun _ _=>rfl }
end impl_Node_members
namespace slices_Index_int_int
abbrev R:=Int
noncomputable def step2 (N:Nat) (a0:List Int) (a1:Int) (rec:(Int×Int)→Option R):(Int×Int)→Option R
 | (v2,v3)=>
  bif (decide (v3<v2)) then
   bif (decide (0≤v3)) then
   bif (decide (v3<(a0.length:Int))) then
   bif (a1==(a0.getD (Int.toNat v3) (0:Int))) then
    some v3
   else
   rec (v2,(w64 (v3+(1:Int))))
   else none
   else none
  else
  some (-1:Int)
noncomputable def lp2 (N:Nat) (a0:List Int) (a1:Int):(Int×Int)→Option R:=
 miter (fun rec=>step2 N a0 a1 rec) N
noncomputable def m0 (N:Nat) (a0:List Int) (a1:Int) (lp2:Int×Int→Option R):Option R:=
 lp2 ((a0.length:Int),(0:Int))
@[reducible] noncomputable def m (N:Nat) (a0:List Int) (a1:Int):Option R:=m0 N a0 a1 (lp2 N a0 a1)
@[reducible] noncomputable def sp (N:Nat):Spec E:=⟨[.val (.slice 3 (.int .i64)),.val (.int .i64)],[(.int .i64)],true,false,R,fun x=>m N x.1 x.2.1,fun r=>(r,()),fun r=>((),(),()),fun a b=>a.1,fun _ _=>rfl,fun _ _=>rfl⟩
end slices_Index_int_int
namespace slices_Contains_int_int
abbrev R:=Bool
noncomputable def m (N:Nat) (a0:List Int) (a1:Int):Option R:=
 ob (slices_Index_int_int.m N a0 a1) fun y1=>
 some (decide (y1≥(0:Int)))
@[reducible] noncomputable def sp (N:Nat):Spec E:=⟨[.val (.slice 3 (.int .i64)),.val (.int .i64)],[.bool],true,false,R,fun x=>m N x.1 x.2.1,fun r=>(r,()),fun r=>((),(),()),fun a b=>a.1,fun _ _=>rfl,fun _ _=>rfl⟩
end slices_Contains_int_int
namespace impl_configAllowed_1
abbrev R:=Bool
noncomputable def m (N:Nat) (a0:Entry):Option R:=
 some (a0.Kind==(2:Int))
@[reducible] noncomputable def sp (N:Nat):Spec E:=⟨[.val (.st 35)],[.bool],true,false,R,fun x=>m N x.1,fun r=>(r,()),fun r=>((),()),fun a b=>a.1,fun _ _=>rfl,fun _ _=>rfl⟩
end impl_configAllowed_1
namespace slices_IndexFunc_impl_Entry_impl_Entry__impl_configAllowed_1
abbrev R:=Int
noncomputable def step2 (N:Nat) (a0:List Entry) (rec:(Int×Int)→Option R):(Int×Int)→Option R
 | (v1,v2)=>
  bif (decide (v2<v1)) then
   bif (decide (0≤v2)) then
   bif (decide (v2<(a0.length:Int))) then
   ob (impl_configAllowed_1.m N (a0.getD (Int.toNat v2) Entry.dz)) fun y1=>
   bif y1 then
    some v2
   else
   rec (v1,(w64 (v2+(1:Int))))
   else none
   else none
  else
  some (-1:Int)
noncomputable def lp2 (N:Nat) (a0:List Entry):(Int×Int)→Option R:=
 miter (fun rec=>step2 N a0 rec) N
noncomputable def m0 (N:Nat) (a0:List Entry) (lp2:Int×Int→Option R):Option R:=
 lp2 ((a0.length:Int),(0:Int))
@[reducible] noncomputable def m (N:Nat) (a0:List Entry):Option R:=m0 N a0 (lp2 N a0)
@[reducible] noncomputable def sp (N:Nat):Spec E:=⟨[.val (.slice 35 (.st 35)),.clo 32 []],[(.int .i64)],true,false,R,fun x=>m N x.1,fun r=>(r,()),fun r=>((),(),()),fun a b=>a.1,fun _ _=>rfl,fun _ _=>rfl⟩
end slices_IndexFunc_impl_Entry_impl_Entry__impl_configAllowed_1
namespace slices_ContainsFunc_impl_Entry_impl_Entry__impl_configAllowed_1
abbrev R:=Bool
noncomputable def m (N:Nat) (a0:List Entry):Option R:=
 ob (slices_IndexFunc_impl_Entry_impl_Entry__impl_configAllowed_1.m N a0) fun y1=>
 some (decide (y1≥(0:Int)))
@[reducible] noncomputable def sp (N:Nat):Spec E:=⟨[.val (.slice 35 (.st 35)),.clo 32 []],[.bool],true,false,R,fun x=>m N x.1,fun r=>(r,()),fun r=>((),(),()),fun a b=>a.1,fun _ _=>rfl,fun _ _=>rfl⟩
end slices_ContainsFunc_impl_Entry_impl_Entry__impl_configAllowed_1
namespace impl_Node_termAt
abbrev R:=Int
noncomputable def m (N:Nat) (a0:Node) (a1:Int):Option R:=
 bif (a1==(0:Int)) then
  some (0:Int)
 else
 bif (decide (0≤(w64 (a1 - (1:Int))))) then
 bif (decide ((w64 (a1 - (1:Int)))<(a0.Log.length:Int))) then
 some ((a0.Log.getD (Int.toNat (w64 (a1 - (1:Int)))) Entry.dz).Term)
 else none
 else none
@[reducible] noncomputable def sp (N:Nat):Spec E:=⟨[.val (.st 26),.val (.int .i64)],[(.int .i64)],true,false,R,fun x=>m N x.1 x.2.1,fun r=>(r,()),fun r=>((),(),()),fun a b=>a.1,fun _ _=>rfl,fun _ _=>rfl⟩
end impl_Node_termAt
namespace impl_configAllowed
abbrev R:=Bool
noncomputable def step3 (N:Nat) (a0:Node) (a1:List Int) (rec:(Int×Int×(List Int))→Option R):(Int×Int×(List Int))→Option R
 | (v1,v2,v16)=>
  bif (decide (v2<(7:Int))) then
   ob (slices_Contains_int_int.m N v16 v2) fun y2=>
   ob (slices_Contains_int_int.m N a1 v2) fun y3=>
   bif (!(y2==y3)) then
    rec ((w64 (v1+(1:Int))),(w64 (v2+(1:Int))),v16)
   else
   rec (v1,(w64 (v2+(1:Int))),v16)
  else
  bif (decide (0≤a0.Commit)) then
  bif (decide (a0.Commit≤((a0.Log.length:Nat):Int))) then
  ob (slices_ContainsFunc_impl_Entry_impl_Entry__impl_configAllowed_1.m N (a0.Log.drop (Int.toNat a0.Commit))) fun y4=>
  bif (v1==(1:Int)) then
   bif (bif true then (a0.Role==(2:Int)) else false) then
    bif (bif true then (decide (a0.Commit > (0:Int))) else false) then
     ob (impl_Node_termAt.m N a0 a0.Commit) fun y5=>
     bif (bif true then (y5==a0.Term) else false) then
      some (bif true then (!y4) else false)
     else
     some false
    else
    some false
   else
   some false
  else
  some false
  else none
  else none
noncomputable def lp3 (N:Nat) (a0:Node) (a1:List Int):(Int×Int×(List Int))→Option R:=
 miter (fun rec=>step3 N a0 a1 rec) N
noncomputable def m0 (N:Nat) (a0:Node) (a1:List Int) (lp3:Int×Int×(List Int)→Option R):Option R:=
 ob (impl_Node_members.m N a0) fun y1=>
 lp3 ((0:Int),(0:Int),y1)
@[reducible] noncomputable def m (N:Nat) (a0:Node) (a1:List Int):Option R:=m0 N a0 a1 (lp3 N a0 a1)
@[reducible] noncomputable def sp (N:Nat):Spec E:=⟨[.val (.st 26),.val (.slice 3 (.int .i64))],[.bool],true,false,R,fun x=>m N x.1 x.2.1,fun r=>(r,()),fun r=>((),(),()),fun a b=>a.1,fun _ _=>rfl,fun _ _=>rfl⟩
end impl_configAllowed
namespace impl_ConfigAllowed
abbrev R:=Bool×Int
noncomputable def m (N:Nat) (a0:Node) (a1:List Int):Option R:=
 ob (impl_isList_int.m N a1) fun y1=>
 bif (!y1) then
  some (false,(2:Int))
 else
 ob (impl_NodeOK.m N (Node.mk a0.Id a0.Term a0.Vote a0.Log a0.Start a0.Role a0.Votes a0.Next a0.Match a0.Commit a0.Elapsed a0.Wait a0.Up)) fun y2=>
 bif (!y2) then
  some (false,(1:Int))
 else
 ob (impl_membersOK.m N a1) fun y3=>
 bif (bif false then true else (!y3)) then
  some (false,(1:Int))
 else
 ob (impl_configAllowed.m N a0 a1) fun y4=>
 some (y4,(0:Int))
@[reducible] noncomputable def sp (N:Nat):Spec E:=⟨[.val (.st 26),.val (.slice 3 (.int .i64))],[.bool,(.int .i64)],true,false,R,fun x=>m N x.1 x.2.1,fun r=>(r.1,r.2,()),fun r=>((),(),()),fun a b=>(a.1,a.2.1),fun _ _=>rfl,fun _ _=>rfl⟩
end impl_ConfigAllowed
namespace spec_l02Entry
abbrev R:=Bool
noncomputable def m (N:Nat) (a0:Entry):Option R:=
 ob (spec_l01In.m N a0.Term (1:Int) (1000000:Int)) fun y1=>
 bif (!y1) then
  some false
 else
 bif (a0.Kind==(0:Int)) then
  some (seq a0.Data ByteArray.empty)
 else
 bif (a0.Kind==(1:Int)) then
  bif (decide ((a0.Data.size:Int)≥(1:Int))) then
   some (bif true then (decide ((a0.Data.size:Int)≤(100:Int))) else false)
  else
  some false
 else
 bif (a0.Kind==(2:Int)) then
  ob (spec_l02Members.m N a0.Data) fun y2=>
  some y2.2
 else
 some false
@[reducible] noncomputable def sp (N:Nat):Spec E:=⟨[.val (.st 35)],[.bool],true,false,R,fun x=>m N x.1,fun r=>(r,()),fun r=>((),()),fun a b=>a.1,fun _ _=>rfl,fun _ _=>rfl⟩
end spec_l02Entry
namespace spec_StateOK
abbrev R:=Bool
noncomputable def step4 (N:Nat) (a0:State) (rec:Int→Option R):Int→Option R
 | v0=>
  bif (decide (v0<(a0.Log.length:Int))) then
   bif (decide (0≤v0)) then
   bif (decide (v0<(a0.Log.length:Int))) then
   ob (spec_l02Entry.m N (a0.Log.getD (Int.toNat v0) Entry.dz)) fun y3=>
   bif (!y3) then
    some false
   else
   bif (decide (0≤v0)) then
   bif (decide (v0<(a0.Log.length:Int))) then
   bif (bif false then true else (decide ((a0.Log.getD (Int.toNat v0) Entry.dz).Term > a0.Term))) then
    some false
   else
   bif (decide (v0 > (0:Int))) then
    bif (decide (0≤(w64 (v0 - (1:Int))))) then
    bif (decide ((w64 (v0 - (1:Int)))<(a0.Log.length:Int))) then
    bif (decide (0≤v0)) then
    bif (decide (v0<(a0.Log.length:Int))) then
    (let w4:Bool:=(bif true then (decide ((a0.Log.getD (Int.toNat (w64 (v0 - (1:Int)))) Entry.dz).Term > (a0.Log.getD (Int.toNat v0) Entry.dz).Term)) else false)
    bif (bif false then true else w4) then
     some false
    else
    rec (w64 (v0+(1:Int))))
    else none
    else none
    else none
    else none
   else
   bif (bif false then true else false) then
    some false
   else
   rec (w64 (v0+(1:Int)))
   else none
   else none
   else none
   else none
  else
  some true
noncomputable def lp4 (N:Nat) (a0:State):Int→Option R:=
 miter (fun rec=>step4 N a0 rec) N
noncomputable def m0 (N:Nat) (a0:State) (lp4:Int→Option R):Option R:=
 ob (spec_l01In.m N a0.Term (0:Int) (1000000:Int)) fun y1=>
 bif (!y1) then
  some false
 else
 ob (spec_l01In.m N a0.Vote (-1:Int) (6:Int)) fun y2=>
 bif (bif false then true else (!y2)) then
  some false
 else
 bif (bif false then true else (decide ((a0.Log.length:Int) > (60:Int)))) then
  some false
 else
 lp4 (0:Int)
@[reducible] noncomputable def m (N:Nat) (a0:State):Option R:=m0 N a0 (lp4 N a0)
@[reducible] noncomputable def sp (N:Nat):Spec E:=⟨[.val (.st 58)],[.bool],true,false,R,fun x=>m N x.1,fun r=>(r,()),fun r=>((),()),fun a b=>a.1,fun _ _=>rfl,fun _ _=>rfl⟩
end spec_StateOK
namespace spec_l10Ids
abbrev R:=Bool
noncomputable def step2 (N:Nat) (a0:List Int) (rec:Int→Option R):Int→Option R
 | v1=>
  bif (decide (v1<(a0.length:Int))) then
   bif (decide (0≤v1)) then
   bif (decide (v1<(a0.length:Int))) then
   ob (spec_l01In.m N (a0.getD (Int.toNat v1) (0:Int)) (0:Int) (6:Int)) fun y1=>
   bif (!y1) then
    some false
   else
   bif (decide (v1 > (0:Int))) then
    bif (decide (0≤(w64 (v1 - (1:Int))))) then
    bif (decide ((w64 (v1 - (1:Int)))<(a0.length:Int))) then
    bif (decide (0≤v1)) then
    bif (decide (v1<(a0.length:Int))) then
    (let w2:Bool:=(bif false then true else (bif true then (decide ((a0.getD (Int.toNat (w64 (v1 - (1:Int)))) (0:Int))≥(a0.getD (Int.toNat v1) (0:Int)))) else false))
    bif w2 then
     some false
    else
    rec (w64 (v1+(1:Int))))
    else none
    else none
    else none
    else none
   else
   bif (bif false then true else false) then
    some false
   else
   rec (w64 (v1+(1:Int)))
   else none
   else none
  else
  some true
noncomputable def lp2 (N:Nat) (a0:List Int):Int→Option R:=
 miter (fun rec=>step2 N a0 rec) N
noncomputable def m0 (N:Nat) (a0:List Int) (lp2:Int→Option R):Option R:=
 lp2 (0:Int)
@[reducible] noncomputable def m (N:Nat) (a0:List Int):Option R:=m0 N a0 (lp2 N a0)
@[reducible] noncomputable def sp (N:Nat):Spec E:=⟨[.val (.slice 3 (.int .i64))],[.bool],true,false,R,fun x=>m N x.1,fun r=>(r,()),fun r=>((),()),fun a b=>a.1,fun _ _=>rfl,fun _ _=>rfl⟩
end spec_l10Ids
namespace spec_NodeOK
abbrev R:=Bool
noncomputable def step6 (N:Nat) (a0:Node) (rec:Int→Option R):Int→Option R
 | v0=>
  bif (decide (v0<(7:Int))) then
   bif (decide (0≤v0)) then
   bif (decide (v0<(a0.Next.length:Int))) then
   ob (spec_l01In.m N (a0.Next.getD (Int.toNat v0) (0:Int)) (1:Int) (w64 ((a0.Log.length:Int)+(1:Int)))) fun y9=>
   bif (!y9) then
    some false
   else
   bif (decide (0≤v0)) then
   bif (decide (v0<(a0.Match.length:Int))) then
   bif (decide (0≤v0)) then
   bif (decide (v0<(a0.Next.length:Int))) then
   ob (spec_l01In.m N (a0.Match.getD (Int.toNat v0) (0:Int)) (0:Int) (w64 ((a0.Next.getD (Int.toNat v0) (0:Int)) - (1:Int)))) fun y10=>
   bif (bif false then true else (!y10)) then
    some false
   else
   rec (w64 (v0+(1:Int)))
   else none
   else none
   else none
   else none
   else none
   else none
  else
  bif a0.Up then
   some true
  else
  some (bif false then true else (a0.Role==(0:Int)))
noncomputable def lp6 (N:Nat) (a0:Node):Int→Option R:=
 miter (fun rec=>step6 N a0 rec) N
noncomputable def m0 (N:Nat) (a0:Node) (lp6:Int→Option R):Option R:=
 ob (spec_l01In.m N a0.Id (0:Int) (6:Int)) fun y1=>
 bif (!y1) then
  some false
 else
 ob (spec_StateOK.m N (State.mk a0.Term a0.Vote a0.Log)) fun y2=>
 bif (bif false then true else (!y2)) then
  some false
 else
 ob (spec_l10Ids.m N a0.Start) fun y3=>
 bif (bif false then true else (!y3)) then
  some false
 else
 bif (bif false then true else ((a0.Start.length:Int)==(0:Int))) then
  some false
 else
 ob (spec_l10Ids.m N a0.Votes) fun y4=>
 bif (bif false then true else (!y4)) then
  some false
 else
 ob (spec_l01In.m N a0.Role (0:Int) (2:Int)) fun y5=>
 bif (bif false then true else (!y5)) then
  some false
 else
 bif ((a0.Next.length:Int) != (7:Int)) then
  some false
 else
 bif (bif false then true else ((a0.Match.length:Int) != (7:Int))) then
  some false
 else
 ob (spec_l01In.m N a0.Commit (0:Int) (a0.Log.length:Int)) fun y6=>
 bif (bif false then true else (!y6)) then
  some false
 else
 ob (spec_l01In.m N a0.Elapsed (0:Int) (1000:Int)) fun y7=>
 bif (bif false then true else (!y7)) then
  some false
 else
 ob (spec_l01In.m N a0.Wait (5:Int) (100:Int)) fun y8=>
 bif (bif false then true else (!y8)) then
  some false
 else
 lp6 (0:Int)
@[reducible] noncomputable def m (N:Nat) (a0:Node):Option R:=m0 N a0 (lp6 N a0)
@[reducible] noncomputable def sp (N:Nat):Spec E:=⟨[.val (.st 26)],[.bool],true,false,R,fun x=>m N x.1,fun r=>(r,()),fun r=>((),()),fun a b=>a.1,fun _ _=>rfl,fun _ _=>rfl⟩
end spec_NodeOK
namespace spec_ConfigAllowed
abbrev R:=Bool×Int
noncomputable def m (N:Nat) (a0:Node) (a1:List Int):Option R:=
 bif (decide ((a1.length:Int) > (4096:Int))) then
  some (false,(2:Int))
 else
 ob (spec_NodeOK.m N a0) fun y1=>
 bif (!y1) then
  some (false,(1:Int))
 else
 ob (spec_l10Ids.m N a1) fun y2=>
 bif (bif false then true else (!y2)) then
  some (false,(1:Int))
 else
 bif (bif false then true else ((a1.length:Int)==(0:Int))) then
  some (false,(1:Int))
 else
 ob (spec_l11Allowed.m N a0 a1) fun y3=>
 some (y3,(0:Int))
@[reducible] noncomputable def sp (N:Nat):Spec E:=⟨[.val (.st 26),.val (.slice 3 (.int .i64))],[.bool,(.int .i64)],true,false,R,fun x=>m N x.1 x.2.1,fun r=>(r.1,r.2,()),fun r=>((),(),()),fun a b=>(a.1,a.2.1),fun _ _=>rfl,fun _ _=>rfl⟩
end spec_ConfigAllowed
namespace impl_MembersOf
abbrev R:=(List Int)×Int
noncomputable def m (N:Nat) (a0:Node):Option R:=
 ob (impl_NodeOK.m N a0) fun y1=>
 bif (!y1) then
  some (([]:List Int),(1:Int))
 else
 ob (impl_Node_members.m N a0) fun y2=>
 some (y2,(0:Int))
@[reducible] noncomputable def sp (N:Nat):Spec E:=⟨[.val (.st 26)],[(.slice 3 (.int .i64)),(.int .i64)],true,false,R,fun x=>m N x.1,fun r=>(r.1,r.2,()),fun r=>((),()),fun a b=>(a.1,a.2.1),fun _ _=>rfl,fun _ _=>rfl⟩
end impl_MembersOf
namespace spec_MembersOf
abbrev R:=(List Int)×Int
noncomputable def m (N:Nat) (a0:Node):Option R:=
 ob (spec_NodeOK.m N a0) fun y1=>
 bif (!y1) then
  some (([]:List Int),(1:Int))
 else
 ob (spec_l10Members_.m N a0) fun y2=>
 bif (room (([]:List Int).length+y2.length) 8) then
 some ((([]:List Int)++y2),(0:Int))
 else none
@[reducible] noncomputable def sp (N:Nat):Spec E:=⟨[.val (.st 26)],[(.slice 3 (.int .i64)),(.int .i64)],true,false,R,fun x=>m N x.1,fun r=>(r.1,r.2,()),fun r=>((),()),fun a b=>(a.1,a.2.1),fun _ _=>rfl,fun _ _=>rfl⟩
end spec_MembersOf
namespace laws_sameInts
abbrev R:=Bool
noncomputable def step4 (N:Nat) (a0:List Int) (a1:List Int) (rec:Int→Option R):Int→Option R
 | v2=>
  bif (decide (v2<(a0.length:Int))) then
   bif (decide (0≤v2)) then
   bif (decide (v2<(a0.length:Int))) then
   bif (decide (0≤v2)) then
   bif (decide (v2<(a1.length:Int))) then
   bif ((a0.getD (Int.toNat v2) (0:Int)) != (a1.getD (Int.toNat v2) (0:Int))) then
    some false
   else
   rec (w64 (v2+(1:Int)))
   else none
   else none
   else none
   else none
  else
  some true
noncomputable def lp4 (N:Nat) (a0:List Int) (a1:List Int):Int→Option R:=
 miter (fun rec=>step4 N a0 a1 rec) N
noncomputable def m0 (N:Nat) (a0:List Int) (a1:List Int) (lp4:Int→Option R):Option R:=
 bif ((a0.length:Int) != (a1.length:Int)) then
  some false
 else
 lp4 (0:Int)
@[reducible] noncomputable def m (N:Nat) (a0:List Int) (a1:List Int):Option R:=m0 N a0 a1 (lp4 N a0 a1)
@[reducible] noncomputable def sp (N:Nat):Spec E:=⟨[.val (.slice 3 (.int .i64)),.val (.slice 3 (.int .i64))],[.bool],true,false,R,fun x=>m N x.1 x.2.1,fun r=>(r,()),fun r=>((),(),()),fun a b=>a.1,fun _ _=>rfl,fun _ _=>rfl⟩
end laws_sameInts
namespace laws_FnConfigs
abbrev R:=Bool
inductive A32 where
 | s0 (v0:Int) (v1:Int) (v2:Int) (v3:Int) (v4:Int) (v5:Int) (v6:List Entry) (v7:List Int) (v8:Int) (v9:List Int) (v10:List Int) (v11:List Int) (v12:Int) (v13:Int) (v14:Int) (v15:Bool) (v16:List Int) (v17:List Int)
 | s1 (v0:Int) (v1:Int) (v2:Bool) (v3:Int) (v4:Int) (v5:Int) (v6:Int) (v7:List Entry) (v8:List Int) (v9:Int) (v10:List Int) (v11:List Int) (v12:List Int) (v13:Int) (v14:Int) (v15:Int) (v16:Bool) (v17:List Int) (v18:List Int)
 | s2 (v0:Int) (v1:Int) (v2:Int) (v3:Int) (v4:Int) (v5:Int) (v6:List Entry) (v7:List Int) (v8:Int) (v9:List Int) (v10:List Int) (v11:List Int) (v12:Int) (v13:Int) (v14:Int) (v15:Bool) (v16:List Int) (v17:List Int)
inductive A36 where
 | s0 (v0:Int) (v1:Int) (v2:Int) (v3:Int) (v4:Int) (v5:Int) (v6:List Entry) (v7:List Int) (v8:Int) (v9:List Int) (v10:List Int) (v11:List Int) (v12:Int) (v13:Int) (v14:Int) (v15:Bool) (v16:List Int) (v17:List Int)
 | s1 (v0:Int) (v1:Int) (v2:Bool) (v3:Int) (v4:Int) (v5:Int) (v6:Int) (v7:List Entry) (v8:List Int) (v9:Int) (v10:List Int) (v11:List Int) (v12:List Int) (v13:Int) (v14:Int) (v15:Int) (v16:Bool) (v17:List Int) (v18:List Int)
 | s2 (v0:Int) (v1:Int) (v2:Bool) (v3:Int) (v4:Int) (v5:Int) (v6:Int) (v7:List Entry) (v8:List Int) (v9:Int) (v10:List Int) (v11:List Int) (v12:List Int) (v13:Int) (v14:Int) (v15:Int) (v16:Bool) (v17:List Int) (v18:List Int)
 | s3 (v0:Int) (v1:Int) (v2:Int) (v3:Int) (v4:Int) (v5:Int) (v6:List Entry) (v7:List Int) (v8:Int) (v9:List Int) (v10:List Int) (v11:List Int) (v12:Int) (v13:Int) (v14:Int) (v15:Bool) (v16:List Int) (v17:List Int)
 | s4 (v0:Int) (v1:Int) (v2:Bool) (v3:Bool) (v4:Int) (v5:Int) (v6:Int) (v7:Int) (v8:List Entry) (v9:List Int) (v10:Int) (v11:List Int) (v12:List Int) (v13:List Int) (v14:Int) (v15:Int) (v16:Int) (v17:Bool) (v18:List Int) (v19:List Int)
 | s5 (v0:Int) (v1:Int) (v2:Int) (v3:Int) (v4:Int) (v5:Int) (v6:List Entry) (v7:List Int) (v8:Int) (v9:List Int) (v10:List Int) (v11:List Int) (v12:Int) (v13:Int) (v14:Int) (v15:Bool) (v16:List Int) (v17:List Int)
 | s6 (v0:Int) (v1:Int) (v2:Bool) (v3:Int) (v4:Int) (v5:Int) (v6:Int) (v7:List Entry) (v8:List Int) (v9:Int) (v10:List Int) (v11:List Int) (v12:List Int) (v13:Int) (v14:Int) (v15:Int) (v16:Bool) (v17:List Int) (v18:List Int)
 | s7 (v0:Int) (v1:Int) (v2:Bool) (v3:Int) (v4:Int) (v5:Int) (v6:Int) (v7:List Entry) (v8:List Int) (v9:Int) (v10:List Int) (v11:List Int) (v12:List Int) (v13:Int) (v14:Int) (v15:Int) (v16:Bool) (v17:List Int) (v18:List Int)
 | s8 (v0:Int) (v1:Int) (v2:Int) (v3:Int) (v4:Int) (v5:Int) (v6:List Entry) (v7:List Int) (v8:Int) (v9:List Int) (v10:List Int) (v11:List Int) (v12:Int) (v13:Int) (v14:Int) (v15:Bool) (v16:List Int) (v17:List Int)
noncomputable def step6 (N:Nat) (a0:List Int) (a1:List Int) (lp21:Int×Int×Int×Int×(List Entry)×(List Int)×Int×(List Int)×(List Int)×(List Int)×Int×Int×Int×Bool×(List Int)×(List Int)→Option R) (rec:(Int×Int×Int×Int×(List Entry)×(List Int)×Int×(List Int)×(List Int)×(List Int)×Int×Int×Int×Bool×(List Int))→Option R):(Int×Int×Int×Int×(List Entry)×(List Int)×Int×(List Int)×(List Int)×(List Int)×Int×Int×Int×Bool×(List Int))→Option R
 | (v1,v2,v3,v4,v5,v6,v7,v8,v9,v10,v11,v12,v13,v14,v15)=>
  bif (decide (v1<(7:Int))) then
   ob (laws_at.m N a1 v1 (2:Int)) fun y2=>
   bif (y2==(1:Int)) then
    bif (room (v15.length+([v1]).length) 8) then
    rec ((w64 (v1+(1:Int))),v2,v3,v4,v5,v6,v7,v8,v9,v10,v11,v12,v13,v14,(v15++[v1]))
    else none
   else
   rec ((w64 (v1+(1:Int))),v2,v3,v4,v5,v6,v7,v8,v9,v10,v11,v12,v13,v14,v15)
  else
  bif ((v15.length:Int)==(0:Int)) then
   some true
  else
  ob (impl_ConfigAllowed.m N (Node.mk v2 v3 v4 v5 v6 v7 v8 v9 v10 v11 v12 v13 v14) v15) fun y3=>
  ob (spec_ConfigAllowed.m N (Node.mk v2 v3 v4 v5 v6 v7 v8 v9 v10 v11 v12 v13 v14) v15) fun y4=>
  ob (impl_MembersOf.m N (Node.mk v2 v3 v4 v5 v6 v7 v8 v9 v10 v11 v12 v13 v14)) fun y5=>
  ob (spec_MembersOf.m N (Node.mk v2 v3 v4 v5 v6 v7 v8 v9 v10 v11 v12 v13 v14)) fun y6=>
  bif (y3.2 != (0:Int)) then
   some false
  else
  bif (bif false then true else (y5.2 != (0:Int))) then
   some false
  else
  bif (bif false then true else (!(y3.1==y4.1))) then
   some false
  else
  ob (laws_sameInts.m N y5.1 y6.1) fun y7=>
  bif (bif false then true else (!y7)) then
   some false
  else
  bif (!y3.1) then
   some true
  else
  lp21 (v11,v2,v3,v4,v5,v6,v7,v8,v9,v10,v11,v12,v13,v14,v15,y5.1)
noncomputable def step21 (N:Nat) (a0:List Int) (a1:List Int) (lp27:Int×Int×Int×Int×Int×(List Entry)×(List Int)×Int×(List Int)×(List Int)×(List Int)×Int×Int×Int×Bool×(List Int)×(List Int)→Option R) (rec:(Int×Int×Int×Int×(List Entry)×(List Int)×Int×(List Int)×(List Int)×(List Int)×Int×Int×Int×Bool×(List Int)×(List Int))→Option R):(Int×Int×Int×Int×(List Entry)×(List Int)×Int×(List Int)×(List Int)×(List Int)×Int×Int×Int×Bool×(List Int)×(List Int))→Option R
 | (v0,v1,v2,v3,v4,v5,v6,v7,v8,v9,v10,v11,v12,v13,v14,v15)=>
  bif (decide (v0<(v4.length:Int))) then
   bif (decide (0≤v0)) then
   bif (decide (v0<(v4.length:Int))) then
   bif ((v4.getD (Int.toNat v0) Entry.dz).Kind==(2:Int)) then
    some false
   else
   rec ((w64 (v0+(1:Int))),v1,v2,v3,v4,v5,v6,v7,v8,v9,v10,v11,v12,v13,v14,v15)
   else none
   else none
  else
  lp27 ((0:Int),(0:Int),v1,v2,v3,v4,v5,v6,v7,v8,v9,v10,v11,v12,v13,v14,v15)
noncomputable def step27 (N:Nat) (a0:List Int) (a1:List Int) (lp32:A32→Option R) (rec:(Int×Int×Int×Int×Int×(List Entry)×(List Int)×Int×(List Int)×(List Int)×(List Int)×Int×Int×Int×Bool×(List Int)×(List Int))→Option R):(Int×Int×Int×Int×Int×(List Entry)×(List Int)×Int×(List Int)×(List Int)×(List Int)×Int×Int×Int×Bool×(List Int)×(List Int))→Option R
 | (v0,v1,v2,v3,v4,v5,v6,v7,v8,v9,v10,v11,v12,v13,v14,v15,v16)=>
  bif (decide (v1<(7:Int))) then
   lp32 (.s0 v0 v1 (0:Int) v2 v3 v4 v5 v6 v7 v8 v9 v10 v11 v12 v13 v14 v15 v16)
  else
  bif (v0==(1:Int)) then
   bif (bif true then (v7==(2:Int)) else false) then
    bif (bif true then (decide (v11 > (0:Int))) else false) then
     bif (decide (0≤(w64 (v11 - (1:Int))))) then
     bif (decide ((w64 (v11 - (1:Int)))<(v5.length:Int))) then
     some (bif true then ((v5.getD (Int.toNat (w64 (v11 - (1:Int)))) Entry.dz).Term==v3) else false)
     else none
     else none
    else
    some false
   else
   some false
  else
  some false
noncomputable def step32 (N:Nat) (a0:List Int) (a1:List Int) (lp36:A36→Option R) (rec:A32→Option R):A32→Option R
 | .s0 v0 v1 v2 v3 v4 v5 v6 v7 v8 v9 v10 v11 v12 v13 v14 v15 v16 v17=>
  bif (decide (v2<(v17.length:Int))) then
   bif (decide (0≤v2)) then
   bif (decide (v2<(v17.length:Int))) then
   rec (.s1 v0 v1 (bif false then true else ((v17.getD (Int.toNat v2) (0:Int))==v1)) (w64 (v2+(1:Int))) v3 v4 v5 v6 v7 v8 v9 v10 v11 v12 v13 v14 v15 v16 v17)
   else none
   else none
  else
  lp36 (.s0 v0 v1 (0:Int) v3 v4 v5 v6 v7 v8 v9 v10 v11 v12 v13 v14 v15 v16 v17)
 | .s1 v0 v1 v2 v3 v4 v5 v6 v7 v8 v9 v10 v11 v12 v13 v14 v15 v16 v17 v18=>
  bif (decide (v3<(v18.length:Int))) then
   bif v2 then
    rec (.s2 v0 v1 (w64 (v3+(1:Int))) v4 v5 v6 v7 v8 v9 v10 v11 v12 v13 v14 v15 v16 v17 v18)
   else
   bif (decide (0≤v3)) then
   bif (decide (v3<(v18.length:Int))) then
   rec (.s1 v0 v1 (bif false then true else ((v18.getD (Int.toNat v3) (0:Int))==v1)) (w64 (v3+(1:Int))) v4 v5 v6 v7 v8 v9 v10 v11 v12 v13 v14 v15 v16 v17 v18)
   else none
   else none
  else
  lp36 (.s1 v0 v1 v2 (0:Int) v4 v5 v6 v7 v8 v9 v10 v11 v12 v13 v14 v15 v16 v17 v18)
 | .s2 v0 v1 v2 v3 v4 v5 v6 v7 v8 v9 v10 v11 v12 v13 v14 v15 v16 v17=>
  bif (decide (v2<(v17.length:Int))) then
   rec (.s2 v0 v1 (w64 (v2+(1:Int))) v3 v4 v5 v6 v7 v8 v9 v10 v11 v12 v13 v14 v15 v16 v17)
  else
  lp36 (.s3 v0 v1 (0:Int) v3 v4 v5 v6 v7 v8 v9 v10 v11 v12 v13 v14 v15 v16 v17)
noncomputable def step36 (N:Nat) (a0:List Int) (a1:List Int) (lp27:Int×Int×Int×Int×Int×(List Entry)×(List Int)×Int×(List Int)×(List Int)×(List Int)×Int×Int×Int×Bool×(List Int)×(List Int)→Option R) (rec:A36→Option R):A36→Option R
 | .s0 v0 v1 v2 v3 v4 v5 v6 v7 v8 v9 v10 v11 v12 v13 v14 v15 v16 v17=>
  bif (decide (v2<(v16.length:Int))) then
   bif (decide (0≤v2)) then
   bif (decide (v2<(v16.length:Int))) then
   rec (.s2 v0 v1 (bif false then true else ((v16.getD (Int.toNat v2) (0:Int))==v1)) (w64 (v2+(1:Int))) v3 v4 v5 v6 v7 v8 v9 v10 v11 v12 v13 v14 v15 v16 v17)
   else none
   else none
  else
  bif (!(false==false)) then
   lp27 ((w64 (v0+(1:Int))),(w64 (v1+(1:Int))),v3,v4,v5,v6,v7,v8,v9,v10,v11,v12,v13,v14,v15,v16,v17)
  else
  lp27 (v0,(w64 (v1+(1:Int))),v3,v4,v5,v6,v7,v8,v9,v10,v11,v12,v13,v14,v15,v16,v17)
 | .s1 v0 v1 v2 v3 v4 v5 v6 v7 v8 v9 v10 v11 v12 v13 v14 v15 v16 v17 v18=>
  bif (decide (v3<(v17.length:Int))) then
   bif (decide (0≤v3)) then
   bif (decide (v3<(v17.length:Int))) then
   rec (.s4 v0 v1 v2 (bif false then true else ((v17.getD (Int.toNat v3) (0:Int))==v1)) (w64 (v3+(1:Int))) v4 v5 v6 v7 v8 v9 v10 v11 v12 v13 v14 v15 v16 v17 v18)
   else none
   else none
  else
  bif (!(v2==false)) then
   lp27 ((w64 (v0+(1:Int))),(w64 (v1+(1:Int))),v4,v5,v6,v7,v8,v9,v10,v11,v12,v13,v14,v15,v16,v17,v18)
  else
  lp27 (v0,(w64 (v1+(1:Int))),v4,v5,v6,v7,v8,v9,v10,v11,v12,v13,v14,v15,v16,v17,v18)
 | .s2 v0 v1 v2 v3 v4 v5 v6 v7 v8 v9 v10 v11 v12 v13 v14 v15 v16 v17 v18=>
  bif (decide (v3<(v17.length:Int))) then
   bif v2 then
    rec (.s5 v0 v1 (w64 (v3+(1:Int))) v4 v5 v6 v7 v8 v9 v10 v11 v12 v13 v14 v15 v16 v17 v18)
   else
   bif (decide (0≤v3)) then
   bif (decide (v3<(v17.length:Int))) then
   rec (.s2 v0 v1 (bif false then true else ((v17.getD (Int.toNat v3) (0:Int))==v1)) (w64 (v3+(1:Int))) v4 v5 v6 v7 v8 v9 v10 v11 v12 v13 v14 v15 v16 v17 v18)
   else none
   else none
  else
  bif (!(false==v2)) then
   lp27 ((w64 (v0+(1:Int))),(w64 (v1+(1:Int))),v4,v5,v6,v7,v8,v9,v10,v11,v12,v13,v14,v15,v16,v17,v18)
  else
  lp27 (v0,(w64 (v1+(1:Int))),v4,v5,v6,v7,v8,v9,v10,v11,v12,v13,v14,v15,v16,v17,v18)
 | .s3 v0 v1 v2 v3 v4 v5 v6 v7 v8 v9 v10 v11 v12 v13 v14 v15 v16 v17=>
  bif (decide (v2<(v16.length:Int))) then
   bif (decide (0≤v2)) then
   bif (decide (v2<(v16.length:Int))) then
   rec (.s6 v0 v1 (bif false then true else ((v16.getD (Int.toNat v2) (0:Int))==v1)) (w64 (v2+(1:Int))) v3 v4 v5 v6 v7 v8 v9 v10 v11 v12 v13 v14 v15 v16 v17)
   else none
   else none
  else
  bif (!(true==false)) then
   lp27 ((w64 (v0+(1:Int))),(w64 (v1+(1:Int))),v3,v4,v5,v6,v7,v8,v9,v10,v11,v12,v13,v14,v15,v16,v17)
  else
  lp27 (v0,(w64 (v1+(1:Int))),v3,v4,v5,v6,v7,v8,v9,v10,v11,v12,v13,v14,v15,v16,v17)
 | .s4 v0 v1 v2 v3 v4 v5 v6 v7 v8 v9 v10 v11 v12 v13 v14 v15 v16 v17 v18 v19=>
  bif (decide (v4<(v18.length:Int))) then
   bif v3 then
    rec (.s7 v0 v1 v2 (w64 (v4+(1:Int))) v5 v6 v7 v8 v9 v10 v11 v12 v13 v14 v15 v16 v17 v18 v19)
   else
   bif (decide (0≤v4)) then
   bif (decide (v4<(v18.length:Int))) then
   rec (.s4 v0 v1 v2 (bif false then true else ((v18.getD (Int.toNat v4) (0:Int))==v1)) (w64 (v4+(1:Int))) v5 v6 v7 v8 v9 v10 v11 v12 v13 v14 v15 v16 v17 v18 v19)
   else none
   else none
  else
  bif (!(v2==v3)) then
   lp27 ((w64 (v0+(1:Int))),(w64 (v1+(1:Int))),v5,v6,v7,v8,v9,v10,v11,v12,v13,v14,v15,v16,v17,v18,v19)
  else
  lp27 (v0,(w64 (v1+(1:Int))),v5,v6,v7,v8,v9,v10,v11,v12,v13,v14,v15,v16,v17,v18,v19)
 | .s5 v0 v1 v2 v3 v4 v5 v6 v7 v8 v9 v10 v11 v12 v13 v14 v15 v16 v17=>
  bif (decide (v2<(v16.length:Int))) then
   rec (.s5 v0 v1 (w64 (v2+(1:Int))) v3 v4 v5 v6 v7 v8 v9 v10 v11 v12 v13 v14 v15 v16 v17)
  else
  bif (!(false==true)) then
   lp27 ((w64 (v0+(1:Int))),(w64 (v1+(1:Int))),v3,v4,v5,v6,v7,v8,v9,v10,v11,v12,v13,v14,v15,v16,v17)
  else
  lp27 (v0,(w64 (v1+(1:Int))),v3,v4,v5,v6,v7,v8,v9,v10,v11,v12,v13,v14,v15,v16,v17)
 | .s6 v0 v1 v2 v3 v4 v5 v6 v7 v8 v9 v10 v11 v12 v13 v14 v15 v16 v17 v18=>
  bif (decide (v3<(v17.length:Int))) then
   bif v2 then
    rec (.s8 v0 v1 (w64 (v3+(1:Int))) v4 v5 v6 v7 v8 v9 v10 v11 v12 v13 v14 v15 v16 v17 v18)
   else
   bif (decide (0≤v3)) then
   bif (decide (v3<(v17.length:Int))) then
   rec (.s6 v0 v1 (bif false then true else ((v17.getD (Int.toNat v3) (0:Int))==v1)) (w64 (v3+(1:Int))) v4 v5 v6 v7 v8 v9 v10 v11 v12 v13 v14 v15 v16 v17 v18)
   else none
   else none
  else
  bif (!(true==v2)) then
   lp27 ((w64 (v0+(1:Int))),(w64 (v1+(1:Int))),v4,v5,v6,v7,v8,v9,v10,v11,v12,v13,v14,v15,v16,v17,v18)
  else
  lp27 (v0,(w64 (v1+(1:Int))),v4,v5,v6,v7,v8,v9,v10,v11,v12,v13,v14,v15,v16,v17,v18)
 | .s7 v0 v1 v2 v3 v4 v5 v6 v7 v8 v9 v10 v11 v12 v13 v14 v15 v16 v17 v18=>
  bif (decide (v3<(v17.length:Int))) then
   rec (.s7 v0 v1 v2 (w64 (v3+(1:Int))) v4 v5 v6 v7 v8 v9 v10 v11 v12 v13 v14 v15 v16 v17 v18)
  else
  bif (!(v2==true)) then
   lp27 ((w64 (v0+(1:Int))),(w64 (v1+(1:Int))),v4,v5,v6,v7,v8,v9,v10,v11,v12,v13,v14,v15,v16,v17,v18)
  else
  lp27 (v0,(w64 (v1+(1:Int))),v4,v5,v6,v7,v8,v9,v10,v11,v12,v13,v14,v15,v16,v17,v18)
 | .s8 v0 v1 v2 v3 v4 v5 v6 v7 v8 v9 v10 v11 v12 v13 v14 v15 v16 v17=>
  bif (decide (v2<(v16.length:Int))) then
   rec (.s8 v0 v1 (w64 (v2+(1:Int))) v3 v4 v5 v6 v7 v8 v9 v10 v11 v12 v13 v14 v15 v16 v17)
  else
  bif (!(true==true)) then
   lp27 ((w64 (v0+(1:Int))),(w64 (v1+(1:Int))),v3,v4,v5,v6,v7,v8,v9,v10,v11,v12,v13,v14,v15,v16,v17)
  else
  lp27 (v0,(w64 (v1+(1:Int))),v3,v4,v5,v6,v7,v8,v9,v10,v11,v12,v13,v14,v15,v16,v17)
noncomputable def lp36 (N:Nat) (a0:List Int) (a1:List Int) (r27:Int×Int×Int×Int×Int×(List Entry)×(List Int)×Int×(List Int)×(List Int)×(List Int)×Int×Int×Int×Bool×(List Int)×(List Int)→Option R):A36→Option R:=
 miter (fun rec=>step36 N a0 a1 r27 rec) N
noncomputable def lp32 (N:Nat) (a0:List Int) (a1:List Int) (r27:Int×Int×Int×Int×Int×(List Entry)×(List Int)×Int×(List Int)×(List Int)×(List Int)×Int×Int×Int×Bool×(List Int)×(List Int)→Option R):A32→Option R:=
 miter (fun rec=>step32 N a0 a1 (lp36 N a0 a1 r27) rec) N
noncomputable def lp27 (N:Nat) (a0:List Int) (a1:List Int):(Int×Int×Int×Int×Int×(List Entry)×(List Int)×Int×(List Int)×(List Int)×(List Int)×Int×Int×Int×Bool×(List Int)×(List Int))→Option R:=
 miter (fun rec=>step27 N a0 a1 (lp32 N a0 a1 rec) rec) N
noncomputable def lp21 (N:Nat) (a0:List Int) (a1:List Int):(Int×Int×Int×Int×(List Entry)×(List Int)×Int×(List Int)×(List Int)×(List Int)×Int×Int×Int×Bool×(List Int)×(List Int))→Option R:=
 miter (fun rec=>step21 N a0 a1 (lp27 N a0 a1) rec) N
noncomputable def lp6 (N:Nat) (a0:List Int) (a1:List Int):(Int×Int×Int×Int×(List Entry)×(List Int)×Int×(List Int)×(List Int)×(List Int)×Int×Int×Int×Bool×(List Int))→Option R:=
 miter (fun rec=>step6 N a0 a1 (lp21 N a0 a1) rec) N
noncomputable def m0 (N:Nat) (a0:List Int) (a1:List Int) (lp6:Int×Int×Int×Int×(List Entry)×(List Int)×Int×(List Int)×(List Int)×(List Int)×Int×Int×Int×Bool×(List Int)→Option R):Option R:=
 bif (decide ((a0.length:Int) > (1048576:Int))) then
  some true
 else
 bif (bif false then true else (decide ((a1.length:Int) > (1048576:Int)))) then
  some true
 else
 ob (spec_NodeOf.m N a0) fun y1=>
 lp6 ((0:Int),y1.Id,y1.Term,y1.Vote,y1.Log,y1.Start,y1.Role,y1.Votes,y1.Next,y1.Match,y1.Commit,y1.Elapsed,y1.Wait,y1.Up,([]:List Int))
@[reducible] noncomputable def m (N:Nat) (a0:List Int) (a1:List Int):Option R:=m0 N a0 a1 (lp6 N a0 a1)
@[reducible] noncomputable def sp (N:Nat):Spec E:=⟨[.val (.slice 5 (.int .u8)),.val (.slice 5 (.int .u8))],[.bool],true,false,R,fun x=>m N x.1 x.2.1,fun r=>(r,()),fun r=>((),(),()),fun a b=>a.1,fun _ _=>rfl,fun _ _=>rfl⟩
end laws_FnConfigs
end Mir.Y
