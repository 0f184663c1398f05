/- Models of functions. -/
import Derived.Test.YtmjmhkpkmejbnaaGreatQSM4
namespace Mir.Y
set_option linter.unusedVariables false
set_option maxRecDepth 10000
open Go Go.Proofs Mir
set_option linter.unusedSectionVars false
variable [UU]
namespace impl_forkRoot
abbrev R:=ByteArray
noncomputable def m (N:Nat) (a0:Int) (a1:ByteArray) (a2:ByteArray):Option R:=
 ob (impl_number.m N a0 (1:Int)) fun y1=>
 bif (decide ((⟨#[1]⟩:ByteArray).size+y1.size≤9223372036854775807)) then
 bif (decide (((⟨#[1]⟩:ByteArray)++y1).size+a1.size≤9223372036854775807)) then
 bif (decide ((((⟨#[1]⟩:ByteArray)++y1)++a1).size+a2.size≤9223372036854775807)) then
 ob (impl_hash.m N ((((⟨#[1]⟩:ByteArray)++y1)++a1)++a2)) fun y2=>
 some y2
 else none
 else none
 else none
@[reducible] noncomputable def sp (N:Nat):Spec E:=⟨[.val (.int .i64),.val .str,.val .str],[.str],true,false,R,fun x=>m N x.1 x.2.1 x.2.2.1,fun r=>(r,()),fun r=>((),(),(),()),fun a b=>a.1,fun _ _=>rfl,fun _ _=>rfl⟩
end impl_forkRoot
namespace impl_mapRoot
abbrev R:=ByteArray
@[reducible] noncomputable def spf (f:Branch→Option R):Spec E:=⟨[.val (.st 36)],[.str],true,false,R,fun x=>f x.1,fun r=>(r,()),fun r=>((),()),fun a b=>a.1,fun _ _=>rfl,fun _ _=>rfl⟩
end impl_mapRoot
namespace impl_mapRoot
noncomputable def mb (N:Nat) (slf:Branch→Option R) (a0:Branch):Option R:=
 ob (impl_Branch_isEmpty.m N (Branch.mk a0.Key a0.Value a0.At a0.Kids)) fun y1=>
 bif y1 then
  ob (impl_hash.m N (⟨#[2]⟩:ByteArray)) fun y2=>
  some y2
 else
 bif (a0.At==(256:Int)) then
  ob (impl_leafRoot.m N a0.Key a0.Value) fun y3=>
  some y3
 else
 bif (decide (0≤(0:Int))) then
 bif (decide ((0:Int)<(a0.Kids.length:Int))) then
 ob (slf (Branch.mk ((a0.Kids.getD 0 Branch.dz).Key) ((a0.Kids.getD 0 Branch.dz).Value) ((a0.Kids.getD 0 Branch.dz).At) ((a0.Kids.getD 0 Branch.dz).Kids))) fun y4=>
 bif (decide (0≤(1:Int))) then
 bif (decide ((1:Int)<(a0.Kids.length:Int))) then
 ob (slf (Branch.mk ((a0.Kids.getD 1 Branch.dz).Key) ((a0.Kids.getD 1 Branch.dz).Value) ((a0.Kids.getD 1 Branch.dz).At) ((a0.Kids.getD 1 Branch.dz).Kids))) fun y5=>
 ob (impl_forkRoot.m N a0.At y4 y5) fun y6=>
 some y6
 else none
 else none
 else none
 else none
noncomputable def mF (N:Nat):Nat→Branch→Option R
 | 0=>fun _=>none
 | n+1=>fun a0=>mb N (mF N n) a0
noncomputable def m (N:Nat):Branch→Option R:=mF N N
@[reducible] noncomputable def sp (N:Nat):Spec E:=spf (m N)
end impl_mapRoot
namespace impl_ledgerRoot
abbrev R:=ByteArray
noncomputable def m (N:Nat) (a0:Ledger):Option R:=
 ob (impl_treeHash.m N a0.Leaves) fun y1=>
 bif (decide ((⟨#[114,111,111,116]⟩:ByteArray).size+y1.size≤9223372036854775807)) then
 ob (impl_mapRoot.m N (Branch.mk a0.Map.Key a0.Map.Value a0.Map.At a0.Map.Kids)) fun y2=>
 bif (decide (((⟨#[114,111,111,116]⟩:ByteArray)++y1).size+y2.size≤9223372036854775807)) then
 ob (impl_hash.m N (((⟨#[114,111,111,116]⟩:ByteArray)++y1)++y2)) fun y3=>
 some y3
 else none
 else none
@[reducible] noncomputable def sp (N:Nat):Spec E:=⟨[.val (.st 39)],[.str],true,false,R,fun x=>m N x.1,fun r=>(r,()),fun r=>((),()),fun a b=>a.1,fun _ _=>rfl,fun _ _=>rfl⟩
end impl_ledgerRoot
namespace impl_LedgerRoot
abbrev R:=ByteArray×Int
noncomputable def m (N:Nat) (a0:Ledger):Option R:=
 ob (impl_LedgerOK.m N (Ledger.mk a0.Leaves (Branch.mk a0.Map.Key a0.Map.Value a0.Map.At a0.Map.Kids) a0.Sessions)) fun y1=>
 bif (!y1) then
  some (ByteArray.empty,(1:Int))
 else
 ob (impl_ledgerRoot.m N (Ledger.mk a0.Leaves (Branch.mk a0.Map.Key a0.Map.Value a0.Map.At a0.Map.Kids) a0.Sessions)) fun y2=>
 some (y2,(0:Int))
@[reducible] noncomputable def sp (N:Nat):Spec E:=⟨[.val (.st 39)],[.str,(.int .i64)],true,false,R,fun x=>m N x.1,fun r=>(r.1,r.2,()),fun r=>((),()),fun a b=>(a.1,a.2.1),fun _ _=>rfl,fun _ _=>rfl⟩
end impl_LedgerRoot
namespace laws_FnSnapshot
abbrev R:=Bool
noncomputable def m (N:Nat) (a0:List Int) (a1:List Int):Option R:=
 bif (decide ((a0.length:Int) > (1048576:Int))) then
  some true
 else
 bif (bif false then true else (decide ((a1.length:Int) > (1048576:Int)))) then
  some true
 else
 ob (spec_CommandsOf.m N a0) fun y1=>
 ob (spec_ApplyAll.m N y1) fun y2=>
 ob (impl_SnapshotBytes.m N (Ledger.mk y2.1.Leaves (Branch.mk y2.1.Map.Key y2.1.Map.Value y2.1.Map.At y2.1.Map.Kids) y2.1.Sessions)) fun y3=>
 ob (spec_SnapshotBytes.m N (Ledger.mk y2.1.Leaves (Branch.mk y2.1.Map.Key y2.1.Map.Value y2.1.Map.At y2.1.Map.Kids) y2.1.Sessions)) fun y4=>
 ob (impl_ReadSnapshot.m N y3.1) fun y5=>
 bif (y3.2 != (0:Int)) then
  some false
 else
 bif (bif false then true else (!seq (strOf y3.1) (strOf y4.1))) then
  some false
 else
 bif (bif false then true else (y5.2 != (0:Int))) then
  some false
 else
 ob (spec_CommandOf.m N a1) fun y6=>
 ob (impl_Apply.m N (Ledger.mk y2.1.Leaves (Branch.mk y2.1.Map.Key y2.1.Map.Value y2.1.Map.At y2.1.Map.Kids) y2.1.Sessions) y6) fun y7=>
 ob (impl_Apply.m N (Ledger.mk y5.1.Leaves (Branch.mk y5.1.Map.Key y5.1.Map.Value y5.1.Map.At y5.1.Map.Kids) y5.1.Sessions) y6) fun y8=>
 ob (impl_LedgerRoot.m N (Ledger.mk y7.1.Leaves (Branch.mk y7.1.Map.Key y7.1.Map.Value y7.1.Map.At y7.1.Map.Kids) y7.1.Sessions)) fun y9=>
 ob (impl_LedgerRoot.m N (Ledger.mk y8.1.Leaves (Branch.mk y8.1.Map.Key y8.1.Map.Value y8.1.Map.At y8.1.Map.Kids) y8.1.Sessions)) fun y10=>
 bif (y7.2.2==(0:Int)) then
  bif (bif true then (y8.2.2==(0:Int)) else false) then
   bif (bif true then ((y7.2.1.Kind==y8.2.1.Kind)&&((y7.2.1.Place==y8.2.1.Place)&&(seq y7.2.1.Value y8.2.1.Value))) else false) then
    bif (bif true then (y9.2==(0:Int)) else false) then
     bif (bif true then (y10.2==(0:Int)) else false) then
      some (bif true then (seq y9.1 y10.1) else false)
     else
     some false
    else
    some false
   else
   some false
  else
  some false
 else
 some false
@[reducible] noncomputable def sp (N:Nat):Spec E:=⟨[.val (.slice 5 (.int .u8)),.val (.slice 5 (.int .u8))],[.bool],true,false,R,fun x=>m N x.1 x.2.1,fun r=>(r,()),fun r=>((),(),()),fun a b=>a.1,fun _ _=>rfl,fun _ _=>rfl⟩
end laws_FnSnapshot
end Mir.Y
