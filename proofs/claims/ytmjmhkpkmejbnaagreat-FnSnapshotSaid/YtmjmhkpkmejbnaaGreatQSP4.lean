/- The models are what the functions do. -/
import Derived.Test.YtmjmhkpkmejbnaaGreatQSP3
import Derived.Test.YtmjmhkpkmejbnaaGreatQSCmpLays
import Derived.Test.YtmjmhkpkmejbnaaGreatQSDel102
import Derived.Test.YtmjmhkpkmejbnaaGreatQSDel97
import Derived.Test.YtmjmhkpkmejbnaaGreatQSIns141
import Derived.Test.YtmjmhkpkmejbnaaGreatQSIns96
namespace Mir.Y
set_option linter.unusedVariables false
set_option maxRecDepth 10000
open Go Go.Proofs Mir
set_option linter.unusedSectionVars false
variable [UU]
namespace cmp_isNaN_int
noncomputable def code:Code:=Tryz.f136.body.getD .skip
abbrev live:Live:=[]
noncomputable def G (N:Nat):Ctx E:=gam []
theorem run (N:Nat) (o0:Orc E R) (a0:Int):runF T (G N) live [] Tryz.f136 code (sp N) o0 (a0,())=m N a0:=by kernel_rfl
theorem G_ok (N:Nat):GamOK Tryz.prog (G N):=gam_ok (trivial)
theorem snd (N:Nat):Sound Tryz.prog E 136 (sp N):=
 Mir.sound T_OK (G_ok N) mixed Tryz.func136 (c:=code) (by kernel_rfl) (by kernel_rfl) (sp N) (Nat.le_of_ble_eq_true (by kernel_rfl)) live [] (by
  rintro ⟨a0,_⟩ r h
  exact ⟨N,2,((run N _ a0).trans rfl).trans h⟩)
end cmp_isNaN_int
namespace cmp_Compare_int
noncomputable def code:Code:=Tryz.f100.body.getD .skip
abbrev live:Live:=[]
noncomputable def G (N:Nat):Ctx E:=gam [(136,[],cmp_isNaN_int.sp N)]
theorem run (N:Nat) (o0:Orc E R) (a0:Int) (a1:Int):runF T (G N) live [] Tryz.f100 code (sp N) o0 (a0,a1,())=m N a0 a1:=by kernel_rfl
theorem G_ok (N:Nat):GamOK Tryz.prog (G N):=gam_ok (⟨cmp_isNaN_int.snd N,trivial⟩)
theorem snd (N:Nat):Sound Tryz.prog E 100 (sp N):=
 Mir.sound T_OK (G_ok N) mixed Tryz.func100 (c:=code) (by kernel_rfl) (by kernel_rfl) (sp N) (Nat.le_of_ble_eq_true (by kernel_rfl)) live [] (by
  rintro ⟨a0,a1,_⟩ r h
  exact ⟨N,2,((run N _ a0 a1).trans rfl).trans h⟩)
end cmp_Compare_int
namespace impl_books_sessionAt_1
noncomputable def code:Code:=Tryz.f99.body.getD .skip
abbrev live:Live:=[]
noncomputable def G (N:Nat):Ctx E:=gam [(100,[],cmp_Compare_int.sp N)]
theorem run (N:Nat) (o0:Orc E R) (a0:Session) (a1:Int):runF T (G N) live [] Tryz.f99 code (sp N) o0 (a0,a1,())=m N a0 a1:=by kernel_rfl
theorem G_ok (N:Nat):GamOK Tryz.prog (G N):=gam_ok (⟨cmp_Compare_int.snd N,trivial⟩)
theorem snd (N:Nat):Sound Tryz.prog E 99 (sp N):=
 Mir.sound T_OK (G_ok N) mixed Tryz.func99 (c:=code) (by kernel_rfl) (by kernel_rfl) (sp N) (Nat.le_of_ble_eq_true (by kernel_rfl)) live [] (by
  rintro ⟨a0,a1,_⟩ r h
  exact ⟨N,2,((run N _ a0 a1).trans rfl).trans h⟩)
end impl_books_sessionAt_1
namespace slices_BinarySearchFunc_impl_Session_impl_Session_int__impl_books_sessionAt_1
noncomputable def code:Code:=Tryz.f98.body.getD .skip
abbrev live:Live:=[(3,[0,1,2,8,9,10])]
noncomputable def G (N:Nat):Ctx E:=gam [(99,[],impl_books_sessionAt_1.sp N)]
noncomputable def loop3:Code:=codeAt code [1,1,1,0,0]
noncomputable def body3:Code:=codeAt loop3 [0]
noncomputable def K3 (N:Nat) (o0:Orc E R):KT E R:=kAt T (G N) live [] o0 code [1,1,1,0,0] (kfin T Tryz.f98 (sp N))
noncomputable def St3 (a0:List Session) (a1:Int):(Int×Int×Int)→St E
 | (v2,v3,v4)=>{ ρ:=[(0,.c (.at (.ro 72 (.st 72) a0))),(1,.c (.at (.int .i64 a1))),(2,.clo 99 []),(8,.c (.at (.int .i64 v2))),(9,.c (.at (.int .i64 v3))),(10,.c (.at (.int .i64 v4)))],H:=[],nx:=0,n:=49,pin:=[] }
theorem run (N:Nat) (o0:Orc E R) (a0:List Session) (a1:Int):runF T (G N) live [] Tryz.f98 code (sp N) o0 (a0,a1,(),())=m0 N a0 a1 (fun a=>o0 loop3 (K3 N o0) (St3 a0 a1 a)):=by kernel_rfl
theorem body3_0 (N:Nat) (o0:Orc E R) (o1:Orc E R) (q1:St E→Option R) (a0:List Session) (a1:Int) (v2:Int) (v3:Int) (v4:Int):runA T (G N) live [] o1 body3 (St3 a0 a1 (v2,v3,v4)) (kloop [0,1,2,8,9,10] q1 (K3 N o0))=step3 N a0 a1 (fun a=>q1 (St3 a0 a1 a)) (v2,v3,v4):=by kernel_rfl
theorem lp3_eq (N:Nat) (a0:List Session) (a1:Int) (a:Int×Int×Int):(orc T (G N) live [] N 2) loop3 (K3 N (orc T (G N) live [] N 2)) (St3 a0 a1 a)=lp3 N a0 a1 a:=
 (orc_loop (b:=body3) (live:=[0,1,2,8,9,10]) (by kernel_rfl)).trans (iter_eq (St3 a0 a1) _ _ (fun q1 a=>by
  have hc:=congrFun (congrFun (rfl:(step3 N a0 a1)=(step3 N a0 a1)) (fun a=>q1 (St3 a0 a1 a))) a
  obtain ⟨u0,u1,u2⟩:=a
  exact (body3_0 N (orc T (G N) live [] N 2) (orc T (G N) live [] N 1) q1 a0 a1 u0 u1 u2).trans hc) N a)
theorem G_ok (N:Nat):GamOK Tryz.prog (G N):=gam_ok (⟨impl_books_sessionAt_1.snd N,trivial⟩)
theorem snd (N:Nat):Sound Tryz.prog E 98 (sp N):=
 Mir.sound T_OK (G_ok N) mixed Tryz.func98 (c:=code) (by kernel_rfl) (by kernel_rfl) (sp N) (Nat.le_of_ble_eq_true (by kernel_rfl)) live [] (by
  rintro ⟨a0,a1,_,_⟩ r h
  exact ⟨N,2,((run N _ a0 a1).trans (congrArg (m0 N a0 a1) (funext fun a=>lp3_eq N a0 a1 a))).trans h⟩)
end slices_BinarySearchFunc_impl_Session_impl_Session_int__impl_books_sessionAt_1
namespace impl_books_sessionAt_
noncomputable def code:Code:=Tryz.f67.body.getD .skip
abbrev live:Live:=[]
noncomputable def G (N:Nat):Ctx E:=gam [(98,[99],slices_BinarySearchFunc_impl_Session_impl_Session_int__impl_books_sessionAt_1.sp N)]
theorem run (N:Nat) (o0:Orc E R) (a0:books) (a1:Int):runF T (G N) live [] Tryz.f67 code (sp N) o0 (a0,a1,())=m N a0 a1:=by kernel_rfl
theorem G_ok (N:Nat):GamOK Tryz.prog (G N):=gam_ok (⟨slices_BinarySearchFunc_impl_Session_impl_Session_int__impl_books_sessionAt_1.snd N,trivial⟩)
theorem snd (N:Nat):Sound Tryz.prog E 67 (sp N):=
 Mir.sound T_OK (G_ok N) mixed Tryz.func67 (c:=code) (by kernel_rfl) (by kernel_rfl) (sp N) (Nat.le_of_ble_eq_true (by kernel_rfl)) live [] (by
  rintro ⟨a0,a1,_⟩ r h
  exact ⟨N,2,((run N _ a0 a1).trans rfl).trans h⟩)
end impl_books_sessionAt_
namespace slices_Insert_impl_Session
theorem snd (N:Nat):Sound Tryz.prog E 96 (sp N):=
 insert_sound (E:=E) (ty:=(.st 72)) rfl (fun args W=>run_callFunc_go Tryz.func96 (c:=Tryz.f96.body.getD .skip) (by kernel_rfl) (by kernel_rfl) args W) Tryz.underlying37 (i:=Tryz.t72) (by kernel_rfl) (z:=Tryz.t72.zero.getD undef) (by kernel_rfl) (by kernel_rfl) (by kernel_rfl) (Nat.le_of_ble_eq_true (by kernel_rfl)) Go.Proofs.InsW96.ov Go.Proofs.InsW96.at_end Go.Proofs.InsW96.grow (by kernel_rfl) Go.Proofs.InsW96.shift
end slices_Insert_impl_Session
namespace impl_books_open
noncomputable def code:Code:=Tryz.f65.body.getD .skip
abbrev live:Live:=[]
noncomputable def G (N:Nat):Ctx E:=gam [(67,[],impl_books_sessionAt_.sp N),(96,[],slices_Insert_impl_Session.sp N)]
theorem run (N:Nat) (o0:Orc E R) (a0:books) (a1:Int):runF T (G N) live [] Tryz.f65 code (sp N) o0 (a0,a1,())=m N a0 a1:=by kernel_rfl
theorem G_ok (N:Nat):GamOK Tryz.prog (G N):=gam_ok (⟨impl_books_sessionAt_.snd N,slices_Insert_impl_Session.snd N,trivial⟩)
theorem snd (N:Nat):Sound Tryz.prog E 65 (sp N):=
 Mir.sound T_OK (G_ok N) mixed Tryz.func65 (c:=code) (by kernel_rfl) (by kernel_rfl) (sp N) (Nat.le_of_ble_eq_true (by kernel_rfl)) live [] (by
  rintro ⟨a0,a1,_⟩ r h
  exact ⟨N,2,((run N _ a0 a1).trans rfl).trans h⟩)
end impl_books_open
namespace slices_Delete_impl_Session
theorem snd (N:Nat):Sound Tryz.prog E 97 (sp N):=
 delete_sound (E:=E) (ty:=(.st 72)) (fun args W=>run_callFunc_go Tryz.func97 (c:=Tryz.f97.body.getD .skip) (by kernel_rfl) (by kernel_rfl) args W) Tryz.underlying37 (i:=Tryz.t72) (by kernel_rfl) (z:=Tryz.t72.zero.getD undef) (by kernel_rfl) (by kernel_rfl) (by kernel_rfl) (fun v hv=>List.all_eq_true.1 (show (Tryz.t72.zero.getD undef).cells.toList.all Value.oneCell'=true by kernel_rfl) v hv) Go.Proofs.DelW97.del
end slices_Delete_impl_Session
namespace impl_books_shut
noncomputable def code:Code:=Tryz.f66.body.getD .skip
abbrev live:Live:=[]
noncomputable def G (N:Nat):Ctx E:=gam [(67,[],impl_books_sessionAt_.sp N),(97,[],slices_Delete_impl_Session.sp N)]
theorem run (N:Nat) (o0:Orc E R) (a0:books) (a1:Int):runF T (G N) live [] Tryz.f66 code (sp N) o0 (a0,a1,())=m N a0 a1:=by kernel_rfl
theorem G_ok (N:Nat):GamOK Tryz.prog (G N):=gam_ok (⟨impl_books_sessionAt_.snd N,slices_Delete_impl_Session.snd N,trivial⟩)
theorem snd (N:Nat):Sound Tryz.prog E 66 (sp N):=
 Mir.sound T_OK (G_ok N) mixed Tryz.func66 (c:=code) (by kernel_rfl) (by kernel_rfl) (sp N) (Nat.le_of_ble_eq_true (by kernel_rfl)) live [] (by
  rintro ⟨a0,a1,_⟩ r h
  exact ⟨N,2,((run N _ a0 a1).trans rfl).trans h⟩)
end impl_books_shut
namespace strings_Compare
theorem str_of {W:World} {F:Nat→Prop} {s:ByteArray} {v:Value} (h:RoV E W F .str s v):v = .string s:=by
 obtain ⟨d,h⟩:=h;cases d<;>exact h
theorem snd (N:Nat):Sound Tryz.prog E 139 (sp N):=by
 refine ⟨fun args W=>run_callFunc_go Tryz.func139 (c:=Tryz.f139.body.getD .skip) (by kernel_rfl) (by kernel_rfl) args W,?_⟩
 rintro W F ⟨a0,a1,_⟩ r args fp hfn ⟨v,vs,f1,f2,rfl,rfl,⟨h0,rfl⟩,⟨w,ws,g1,g2,rfl,rfl,⟨h1,rfl⟩,⟨rfl,rfl⟩⟩⟩ _ _ hF
 obtain rfl:=str_of h0
 obtain rfl:=str_of h1
 cases hfn
 have hcall:=Go.Proofs.Any.strings_Compare Tryz.cmpLays a0 a1 W
 refine (show Calls Tryz.prog 139 #[.string a0,.string a1] W _ from hcall).mono ?_
 rintro e W' ⟨rfl,rfl⟩
 exact ⟨_,rfl,⟨F,[.int .i64 (Go.Lib.compareBytes a0.data.toList a1.data.toList)],[],[],rfl,fun b h=>h,fun b h=>⟨.inl h,hF b h⟩,⟨_,[],[],[],rfl,rfl,⟨rfl,rfl⟩,⟨rfl,rfl⟩⟩,⟨_,_,[],[],rfl,rfl,rfl,⟨_,_,[],[],rfl,rfl,rfl,⟨rfl,rfl⟩⟩⟩,List.nodup_nil,fun b h=>by cases h⟩,rfl,rfl,rfl,Nat.le_refl _,fun b h _=>rfl⟩
end strings_Compare
namespace impl_pairAt_1
noncomputable def code:Code:=Tryz.f138.body.getD .skip
abbrev live:Live:=[]
noncomputable def G (N:Nat):Ctx E:=gam [(139,[],strings_Compare.sp N)]
theorem run (N:Nat) (o0:Orc E R) (a0:pairOf) (a1:ByteArray):runF T (G N) live [] Tryz.f138 code (sp N) o0 (a0,a1,())=m N a0 a1:=by kernel_rfl
theorem G_ok (N:Nat):GamOK Tryz.prog (G N):=gam_ok (⟨strings_Compare.snd N,trivial⟩)
theorem snd (N:Nat):Sound Tryz.prog E 138 (sp N):=
 Mir.sound T_OK (G_ok N) mixed Tryz.func138 (c:=code) (by kernel_rfl) (by kernel_rfl) (sp N) (Nat.le_of_ble_eq_true (by kernel_rfl)) live [] (by
  rintro ⟨a0,a1,_⟩ r h
  exact ⟨N,2,((run N _ a0 a1).trans rfl).trans h⟩)
end impl_pairAt_1
namespace slices_BinarySearchFunc_impl_pairOf_impl_pairOf_string__impl_pairAt_1
noncomputable def code:Code:=Tryz.f137.body.getD .skip
abbrev live:Live:=[(3,[0,1,2,8,9,10])]
noncomputable def G (N:Nat):Ctx E:=gam [(138,[],impl_pairAt_1.sp N)]
noncomputable def loop3:Code:=codeAt code [1,1,1,0,0]
noncomputable def body3:Code:=codeAt loop3 [0]
noncomputable def K3 (N:Nat) (o0:Orc E R):KT E R:=kAt T (G N) live [] o0 code [1,1,1,0,0] (kfin T Tryz.f137 (sp N))
noncomputable def St3 (a0:List pairOf) (a1:ByteArray):(Int×Int×Int)→St E
 | (v2,v3,v4)=>{ ρ:=[(0,.c (.at (.ro 98 (.st 98) a0))),(1,.c (.at (.str a1))),(2,.clo 138 []),(8,.c (.at (.int .i64 v2))),(9,.c (.at (.int .i64 v3))),(10,.c (.at (.int .i64 v4)))],H:=[],nx:=0,n:=49,pin:=[] }
theorem run (N:Nat) (o0:Orc E R) (a0:List pairOf) (a1:ByteArray):runF T (G N) live [] Tryz.f137 code (sp N) o0 (a0,a1,(),())=m0 N a0 a1 (fun a=>o0 loop3 (K3 N o0) (St3 a0 a1 a)):=by kernel_rfl
theorem body3_0 (N:Nat) (o0:Orc E R) (o1:Orc E R) (q1:St E→Option R) (a0:List pairOf) (a1:ByteArray) (v2:Int) (v3:Int) (v4:Int):runA T (G N) live [] o1 body3 (St3 a0 a1 (v2,v3,v4)) (kloop [0,1,2,8,9,10] q1 (K3 N o0))=step3 N a0 a1 (fun a=>q1 (St3 a0 a1 a)) (v2,v3,v4):=by kernel_rfl
theorem lp3_eq (N:Nat) (a0:List pairOf) (a1:ByteArray) (a:Int×Int×Int):(orc T (G N) live [] N 2) loop3 (K3 N (orc T (G N) live [] N 2)) (St3 a0 a1 a)=lp3 N a0 a1 a:=
 (orc_loop (b:=body3) (live:=[0,1,2,8,9,10]) (by kernel_rfl)).trans (iter_eq (St3 a0 a1) _ _ (fun q1 a=>by
  have hc:=congrFun (congrFun (rfl:(step3 N a0 a1)=(step3 N a0 a1)) (fun a=>q1 (St3 a0 a1 a))) a
  obtain ⟨u0,u1,u2⟩:=a
  exact (body3_0 N (orc T (G N) live [] N 2) (orc T (G N) live [] N 1) q1 a0 a1 u0 u1 u2).trans hc) N a)
theorem G_ok (N:Nat):GamOK Tryz.prog (G N):=gam_ok (⟨impl_pairAt_1.snd N,trivial⟩)
theorem snd (N:Nat):Sound Tryz.prog E 137 (sp N):=
 Mir.sound T_OK (G_ok N) mixed Tryz.func137 (c:=code) (by kernel_rfl) (by kernel_rfl) (sp N) (Nat.le_of_ble_eq_true (by kernel_rfl)) live [] (by
  rintro ⟨a0,a1,_,_⟩ r h
  exact ⟨N,2,((run N _ a0 a1).trans (congrArg (m0 N a0 a1) (funext fun a=>lp3_eq N a0 a1 a))).trans h⟩)
end slices_BinarySearchFunc_impl_pairOf_impl_pairOf_string__impl_pairAt_1
namespace impl_pairAt
noncomputable def code:Code:=Tryz.f101.body.getD .skip
abbrev live:Live:=[]
noncomputable def G (N:Nat):Ctx E:=gam [(70,[],impl_hash.sp N),(137,[138],slices_BinarySearchFunc_impl_pairOf_impl_pairOf_string__impl_pairAt_1.sp N)]
theorem run (N:Nat) (o0:Orc E R) (a0:List pairOf) (a1:ByteArray):runF T (G N) live [] Tryz.f101 code (sp N) o0 (a0,a1,())=m N a0 a1:=by kernel_rfl
theorem G_ok (N:Nat):GamOK Tryz.prog (G N):=gam_ok (⟨impl_hash.snd N,slices_BinarySearchFunc_impl_pairOf_impl_pairOf_string__impl_pairAt_1.snd N,trivial⟩)
theorem snd (N:Nat):Sound Tryz.prog E 101 (sp N):=
 Mir.sound T_OK (G_ok N) mixed Tryz.func101 (c:=code) (by kernel_rfl) (by kernel_rfl) (sp N) (Nat.le_of_ble_eq_true (by kernel_rfl)) live [] (by
  rintro ⟨a0,a1,_⟩ r h
  exact ⟨N,2,((run N _ a0 a1).trans rfl).trans h⟩)
end impl_pairAt
namespace slices_Delete_impl_pairOf
theorem snd (N:Nat):Sound Tryz.prog E 102 (sp N):=
 delete_sound (E:=E) (ty:=(.st 98)) (fun args W=>run_callFunc_go Tryz.func102 (c:=Tryz.f102.body.getD .skip) (by kernel_rfl) (by kernel_rfl) args W) Tryz.underlying91 (i:=Tryz.t98) (by kernel_rfl) (z:=Tryz.t98.zero.getD undef) (by kernel_rfl) (by kernel_rfl) (by kernel_rfl) (fun v hv=>List.all_eq_true.1 (show (Tryz.t98.zero.getD undef).cells.toList.all Value.oneCell'=true by kernel_rfl) v hv) Go.Proofs.DelW102.del
end slices_Delete_impl_pairOf
namespace impl_Command_bytes
noncomputable def code:Code:=Tryz.f105.body.getD .skip
abbrev live:Live:=[]
noncomputable def G (N:Nat):Ctx E:=gam [(57,[],impl_number.sp N),(58,[],impl_counted.sp N)]
theorem run (N:Nat) (o0:Orc E R) (a0:Command):runF T (G N) live [] Tryz.f105 code (sp N) o0 (a0,())=m N a0:=by kernel_rfl
theorem G_ok (N:Nat):GamOK Tryz.prog (G N):=gam_ok (⟨impl_number.snd N,impl_counted.snd N,trivial⟩)
theorem snd (N:Nat):Sound Tryz.prog E 105 (sp N):=
 Mir.sound T_OK (G_ok N) mixed Tryz.func105 (c:=code) (by kernel_rfl) (by kernel_rfl) (sp N) (Nat.le_of_ble_eq_true (by kernel_rfl)) live [] (by
  rintro ⟨a0,_⟩ r h
  exact ⟨N,2,((run N _ a0).trans rfl).trans h⟩)
end impl_Command_bytes
namespace impl_leafHash
noncomputable def code:Code:=Tryz.f104.body.getD .skip
abbrev live:Live:=[]
noncomputable def G (N:Nat):Ctx E:=gam [(70,[],impl_hash.sp N)]
theorem run (N:Nat) (o0:Orc E R) (a0:ByteArray):runF T (G N) live [] Tryz.f104 code (sp N) o0 (a0,())=m N a0:=by kernel_rfl
theorem G_ok (N:Nat):GamOK Tryz.prog (G N):=gam_ok (⟨impl_hash.snd N,trivial⟩)
theorem snd (N:Nat):Sound Tryz.prog E 104 (sp N):=
 Mir.sound T_OK (G_ok N) mixed Tryz.func104 (c:=code) (by kernel_rfl) (by kernel_rfl) (sp N) (Nat.le_of_ble_eq_true (by kernel_rfl)) live [] (by
  rintro ⟨a0,_⟩ r h
  exact ⟨N,2,((run N _ a0).trans rfl).trans h⟩)
end impl_leafHash
namespace slices_Clone_impl_pairOf_impl_pairOf
noncomputable def code:Code:=Tryz.f140.body.getD .skip
abbrev live:Live:=[]
noncomputable def G (N:Nat):Ctx E:=gam []
theorem run (N:Nat) (o0:Orc E R) (a0:List pairOf):runF T (G N) live [] Tryz.f140 code (sp N) o0 (a0,())=m N a0:=by kernel_rfl
theorem G_ok (N:Nat):GamOK Tryz.prog (G N):=gam_ok (trivial)
theorem snd (N:Nat):Sound Tryz.prog E 140 (sp N):=
 Mir.sound T_OK (G_ok N) mixed Tryz.func140 (c:=code) (by kernel_rfl) (by kernel_rfl) (sp N) (Nat.le_of_ble_eq_true (by kernel_rfl)) live [] (by
  rintro ⟨a0,_⟩ r h
  exact ⟨N,2,((run N _ a0).trans rfl).trans h⟩)
end slices_Clone_impl_pairOf_impl_pairOf
namespace slices_Insert_impl_pairOf
theorem snd (N:Nat):Sound Tryz.prog E 141 (sp N):=
 insert_sound (E:=E) (ty:=(.st 98)) rfl (fun args W=>run_callFunc_go Tryz.func141 (c:=Tryz.f141.body.getD .skip) (by kernel_rfl) (by kernel_rfl) args W) Tryz.underlying91 (i:=Tryz.t98) (by kernel_rfl) (z:=Tryz.t98.zero.getD undef) (by kernel_rfl) (by kernel_rfl) (by kernel_rfl) (Nat.le_of_ble_eq_true (by kernel_rfl)) Go.Proofs.InsW141.ov Go.Proofs.InsW141.at_end Go.Proofs.InsW141.grow (by kernel_rfl) Go.Proofs.InsW141.shift
end slices_Insert_impl_pairOf
namespace impl_mapPut
noncomputable def code:Code:=Tryz.f103.body.getD .skip
abbrev live:Live:=[]
noncomputable def G (N:Nat):Ctx E:=gam [(140,[],slices_Clone_impl_pairOf_impl_pairOf.sp N),(70,[],impl_hash.sp N),(101,[],impl_pairAt.sp N),(141,[],slices_Insert_impl_pairOf.sp N)]
theorem run (N:Nat) (o0:Orc E R) (a0:List pairOf) (a1:ByteArray) (a2:ByteArray):runF T (G N) live [] Tryz.f103 code (sp N) o0 (a0,a1,a2,())=m N a0 a1 a2:=by kernel_rfl
theorem G_ok (N:Nat):GamOK Tryz.prog (G N):=gam_ok (⟨slices_Clone_impl_pairOf_impl_pairOf.snd N,impl_hash.snd N,impl_pairAt.snd N,slices_Insert_impl_pairOf.snd N,trivial⟩)
theorem snd (N:Nat):Sound Tryz.prog E 103 (sp N):=
 Mir.sound T_OK (G_ok N) mixed Tryz.func103 (c:=code) (by kernel_rfl) (by kernel_rfl) (sp N) (Nat.le_of_ble_eq_true (by kernel_rfl)) live [] (by
  rintro ⟨a0,a1,a2,_⟩ r h
  exact ⟨N,2,((run N _ a0 a1 a2).trans rfl).trans h⟩)
end impl_mapPut
namespace impl_books_write
noncomputable def code:Code:=Tryz.f68.body.getD .skip
abbrev live:Live:=[]
noncomputable def G (N:Nat):Ctx E:=gam [(101,[],impl_pairAt.sp N),(48,[],impl_isValue.sp N),(102,[],slices_Delete_impl_pairOf.sp N),(105,[],impl_Command_bytes.sp N),(104,[],impl_leafHash.sp N),(103,[],impl_mapPut.sp N)]
theorem run (N:Nat) (o0:Orc E R) (a0:books) (a1:Command):runF T (G N) live [] Tryz.f68 code (sp N) o0 (a0,a1,())=m N a0 a1:=by kernel_rfl
theorem G_ok (N:Nat):GamOK Tryz.prog (G N):=gam_ok (⟨impl_pairAt.snd N,impl_isValue.snd N,slices_Delete_impl_pairOf.snd N,impl_Command_bytes.snd N,impl_leafHash.snd N,impl_mapPut.snd N,trivial⟩)
theorem snd (N:Nat):Sound Tryz.prog E 68 (sp N):=
 Mir.sound T_OK (G_ok N) mixed Tryz.func68 (c:=code) (by kernel_rfl) (by kernel_rfl) (sp N) (Nat.le_of_ble_eq_true (by kernel_rfl)) live [] (by
  rintro ⟨a0,a1,_⟩ r h
  exact ⟨N,2,((run N _ a0 a1).trans rfl).trans h⟩)
end impl_books_write
end Mir.Y
