/- The models are what the functions do. -/
import Derived.Test.YtbbkpgpfppnakaaGreatJTP1
import Derived.Test.YtbbkpgpfppnakaaGreatJTIns81
namespace Mir.Y
set_option linter.unusedVariables false
set_option maxRecDepth 10000
open Go Go.Proofs Mir
namespace impl_within
noncomputable def code:Code:=Tryz.f52.body.getD .skip
abbrev live:Live:=[]
noncomputable def G (N:Nat):Ctx E:=gam []
theorem run (N:Nat) (o0:Orc E R) (a0:Int) (a1:Int) (a2:Int):runF T (G N) live [] Tryz.f52 code (sp N) o0 (a0,a1,a2,())=m N a0 a1 a2:=by kernel_rfl
theorem G_ok (N:Nat):GamOK Tryz.prog (G N):=gam_ok (trivial)
theorem snd (N:Nat):Sound Tryz.prog E 52 (sp N):=
 Mir.sound T_OK (G_ok N) mixed Tryz.func52 (c:=code) (by kernel_rfl) (by kernel_rfl) (sp N) (Nat.le_of_ble_eq_true (by kernel_rfl)) live [] (by
  rintro ⟨a0,a1,a2,_⟩ r h
  exact ⟨N,2,((run N _ a0 a1 a2).trans rfl).trans h⟩)
end impl_within
namespace impl_isNumber
noncomputable def code:Code:=Tryz.f47.body.getD .skip
abbrev live:Live:=[]
noncomputable def G (N:Nat):Ctx E:=gam [(52,[],impl_within.sp N)]
theorem run (N:Nat) (o0:Orc E R) (a0:Int):runF T (G N) live [] Tryz.f47 code (sp N) o0 (a0,())=m N a0:=by kernel_rfl
theorem G_ok (N:Nat):GamOK Tryz.prog (G N):=gam_ok (⟨impl_within.snd N,trivial⟩)
theorem snd (N:Nat):Sound Tryz.prog E 47 (sp N):=
 Mir.sound T_OK (G_ok N) mixed Tryz.func47 (c:=code) (by kernel_rfl) (by kernel_rfl) (sp N) (Nat.le_of_ble_eq_true (by kernel_rfl)) live [] (by
  rintro ⟨a0,_⟩ r h
  exact ⟨N,2,((run N _ a0).trans rfl).trans h⟩)
end impl_isNumber
namespace impl_areNumbers_1
noncomputable def code:Code:=Tryz.f75.body.getD .skip
abbrev live:Live:=[]
noncomputable def G (N:Nat):Ctx E:=gam [(52,[],impl_within.sp N)]
theorem run (N:Nat) (o0:Orc E R) (a0:Int):runF T (G N) live [] Tryz.f75 code (sp N) o0 (a0,())=m N a0:=by kernel_rfl
theorem G_ok (N:Nat):GamOK Tryz.prog (G N):=gam_ok (⟨impl_within.snd N,trivial⟩)
theorem snd (N:Nat):Sound Tryz.prog E 75 (sp N):=
 Mir.sound T_OK (G_ok N) mixed Tryz.func75 (c:=code) (by kernel_rfl) (by kernel_rfl) (sp N) (Nat.le_of_ble_eq_true (by kernel_rfl)) live [] (by
  rintro ⟨a0,_⟩ r h
  exact ⟨N,2,((run N _ a0).trans rfl).trans h⟩)
end impl_areNumbers_1
namespace slices_IndexFunc_int_int__impl_areNumbers_1
noncomputable def code:Code:=Tryz.f90.body.getD .skip
abbrev live:Live:=[(2,[0,1,7,8])]
noncomputable def G (N:Nat):Ctx E:=gam [(75,[],impl_areNumbers_1.sp N)]
noncomputable def loop2:Code:=codeAt code [1,0,1,0]
noncomputable def body2:Code:=codeAt loop2 [0]
noncomputable def K2 (N:Nat) (o0:Orc E R):KT E R:=kAt T (G N) live [] o0 code [1,0,1,0] (kfin T Tryz.f90 (sp N))
noncomputable def St2 (a0:List Int):(Int×Int)→St E
 | (v1,v2)=>{ ρ:=[(0,.c (.at (.ro 3 (.int .i64) a0))),(1,.clo 75 []),(7,.c (.at (.int .i64 v1))),(8,.c (.at (.int .i64 v2)))],H:=[],nx:=0,n:=19,pin:=[] }
theorem run (N:Nat) (o0:Orc E R) (a0:List Int):runF T (G N) live [] Tryz.f90 code (sp N) o0 (a0,(),())=m0 N a0 (fun a=>o0 loop2 (K2 N o0) (St2 a0 a)):=by kernel_rfl
theorem body2_0 (N:Nat) (o0:Orc E R) (o1:Orc E R) (q1:St E→Option R) (a0:List Int) (v1:Int) (v2:Int):runA T (G N) live [] o1 body2 (St2 a0 (v1,v2)) (kloop [0,1,7,8] q1 (K2 N o0))=step2 N a0 (fun a=>q1 (St2 a0 a)) (v1,v2):=by kernel_rfl
theorem lp2_eq (N:Nat) (a0:List Int) (a:Int×Int):(orc T (G N) live [] N 2) loop2 (K2 N (orc T (G N) live [] N 2)) (St2 a0 a)=lp2 N a0 a:=
 (orc_loop (b:=body2) (live:=[0,1,7,8]) (by kernel_rfl)).trans (iter_eq (St2 a0) _ _ (fun q1 a=>by
  have hc:=congrFun (congrFun (rfl:(step2 N a0)=(step2 N a0)) (fun a=>q1 (St2 a0 a))) a
  obtain ⟨u0,u1⟩:=a
  exact (body2_0 N (orc T (G N) live [] N 2) (orc T (G N) live [] N 1) q1 a0 u0 u1).trans hc) N a)
theorem G_ok (N:Nat):GamOK Tryz.prog (G N):=gam_ok (⟨impl_areNumbers_1.snd N,trivial⟩)
theorem snd (N:Nat):Sound Tryz.prog E 90 (sp N):=
 Mir.sound T_OK (G_ok N) mixed Tryz.func90 (c:=code) (by kernel_rfl) (by kernel_rfl) (sp N) (Nat.le_of_ble_eq_true (by kernel_rfl)) live [] (by
  rintro ⟨a0,_,_⟩ r h
  exact ⟨N,2,((run N _ a0).trans (congrArg (m0 N a0) (funext fun a=>lp2_eq N a0 a))).trans h⟩)
end slices_IndexFunc_int_int__impl_areNumbers_1
namespace slices_ContainsFunc_int_int__impl_areNumbers_1
noncomputable def code:Code:=Tryz.f74.body.getD .skip
abbrev live:Live:=[]
noncomputable def G (N:Nat):Ctx E:=gam [(90,[75],slices_IndexFunc_int_int__impl_areNumbers_1.sp N)]
theorem run (N:Nat) (o0:Orc E R) (a0:List Int):runF T (G N) live [] Tryz.f74 code (sp N) o0 (a0,(),())=m N a0:=by kernel_rfl
theorem G_ok (N:Nat):GamOK Tryz.prog (G N):=gam_ok (⟨slices_IndexFunc_int_int__impl_areNumbers_1.snd N,trivial⟩)
theorem snd (N:Nat):Sound Tryz.prog E 74 (sp N):=
 Mir.sound T_OK (G_ok N) mixed Tryz.func74 (c:=code) (by kernel_rfl) (by kernel_rfl) (sp N) (Nat.le_of_ble_eq_true (by kernel_rfl)) live [] (by
  rintro ⟨a0,_,_⟩ r h
  exact ⟨N,2,((run N _ a0).trans rfl).trans h⟩)
end slices_ContainsFunc_int_int__impl_areNumbers_1
namespace impl_areNumbers
noncomputable def code:Code:=Tryz.f50.body.getD .skip
abbrev live:Live:=[]
noncomputable def G (N:Nat):Ctx E:=gam [(74,[75],slices_ContainsFunc_int_int__impl_areNumbers_1.sp N)]
theorem run (N:Nat) (o0:Orc E R) (a0:List Int):runF T (G N) live [] Tryz.f50 code (sp N) o0 (a0,())=m N a0:=by kernel_rfl
theorem G_ok (N:Nat):GamOK Tryz.prog (G N):=gam_ok (⟨slices_ContainsFunc_int_int__impl_areNumbers_1.snd N,trivial⟩)
theorem snd (N:Nat):Sound Tryz.prog E 50 (sp N):=
 Mir.sound T_OK (G_ok N) mixed Tryz.func50 (c:=code) (by kernel_rfl) (by kernel_rfl) (sp N) (Nat.le_of_ble_eq_true (by kernel_rfl)) live [] (by
  rintro ⟨a0,_⟩ r h
  exact ⟨N,2,((run N _ a0).trans rfl).trans h⟩)
end impl_areNumbers
namespace impl_areRising
noncomputable def code:Code:=Tryz.f51.body.getD .skip
abbrev live:Live:=[(2,[0,3])]
noncomputable def G (N:Nat):Ctx E:=gam []
noncomputable def loop2:Code:=codeAt code [1,0,1,0]
noncomputable def body2:Code:=codeAt loop2 [0]
noncomputable def K2 (N:Nat) (o0:Orc E R):KT E R:=kAt T (G N) live [] o0 code [1,0,1,0] (kfin T Tryz.f51 (sp N))
noncomputable def St2 (a0:List Int):Int→St E
 | v1=>{ ρ:=[(0,.c (.at (.ro 3 (.int .i64) a0))),(3,.c (.at (.int .i64 v1)))],H:=[],nx:=0,n:=20,pin:=[] }
theorem run (N:Nat) (o0:Orc E R) (a0:List Int):runF T (G N) live [] Tryz.f51 code (sp N) o0 (a0,())=m0 N a0 (fun a=>o0 loop2 (K2 N o0) (St2 a0 a)):=by kernel_rfl
theorem body2_0 (N:Nat) (o0:Orc E R) (o1:Orc E R) (q1:St E→Option R) (a0:List Int) (v1:Int):runA T (G N) live [] o1 body2 (St2 a0 v1) (kloop [0,3] q1 (K2 N o0))=step2 N a0 (fun a=>q1 (St2 a0 a)) v1:=by kernel_rfl
theorem lp2_eq (N:Nat) (a0:List Int) (a:Int):(orc T (G N) live [] N 2) loop2 (K2 N (orc T (G N) live [] N 2)) (St2 a0 a)=lp2 N a0 a:=
 (orc_loop (b:=body2) (live:=[0,3]) (by kernel_rfl)).trans (iter_eq (St2 a0) _ _ (fun q1 a=>by
  have hc:=congrFun (congrFun (rfl:(step2 N a0)=(step2 N a0)) (fun a=>q1 (St2 a0 a))) a
  exact (body2_0 N (orc T (G N) live [] N 2) (orc T (G N) live [] N 1) q1 a0 a).trans hc) N a)
theorem G_ok (N:Nat):GamOK Tryz.prog (G N):=gam_ok (trivial)
theorem snd (N:Nat):Sound Tryz.prog E 51 (sp N):=
 Mir.sound T_OK (G_ok N) mixed Tryz.func51 (c:=code) (by kernel_rfl) (by kernel_rfl) (sp N) (Nat.le_of_ble_eq_true (by kernel_rfl)) live [] (by
  rintro ⟨a0,_⟩ r h
  exact ⟨N,2,((run N _ a0).trans (congrArg (m0 N a0) (funext fun a=>lp2_eq N a0 a))).trans h⟩)
end impl_areRising
namespace impl_membersOK
noncomputable def code:Code:=Tryz.f49.body.getD .skip
abbrev live:Live:=[]
noncomputable def G (N:Nat):Ctx E:=gam [(50,[],impl_areNumbers.sp N),(51,[],impl_areRising.sp N)]
theorem run (N:Nat) (o0:Orc E R) (a0:List Int):runF T (G N) live [] Tryz.f49 code (sp N) o0 (a0,())=m N a0:=by kernel_rfl
theorem G_ok (N:Nat):GamOK Tryz.prog (G N):=gam_ok (⟨impl_areNumbers.snd N,impl_areRising.snd N,trivial⟩)
theorem snd (N:Nat):Sound Tryz.prog E 49 (sp N):=
 Mir.sound T_OK (G_ok N) mixed Tryz.func49 (c:=code) (by kernel_rfl) (by kernel_rfl) (sp N) (Nat.le_of_ble_eq_true (by kernel_rfl)) live [] (by
  rintro ⟨a0,_⟩ r h
  exact ⟨N,2,((run N _ a0).trans rfl).trans h⟩)
end impl_membersOK
namespace impl_readMembers
noncomputable def code:Code:=Tryz.f91.body.getD .skip
abbrev live:Live:=[(3,[0,4,8,9])]
noncomputable def G (N:Nat):Ctx E:=gam [(49,[],impl_membersOK.sp N)]
noncomputable def loop3:Code:=codeAt code [1,1,0,1,0]
noncomputable def body3:Code:=codeAt loop3 [0]
noncomputable def K3 (N:Nat) (o0:Orc E R):KT E R:=kAt T (G N) live [] o0 code [1,1,0,1,0] (kfin T Tryz.f91 (sp N))
noncomputable def St3 (a0:ByteArray):(Int×Int×(List Int))→St E
 | (v1,v2,v3)=>{ ρ:=[(0,.c (.at (.str a0))),(4,.c (.at (.own 0))),(8,.c (.at (.int .i64 v1))),(9,.c (.at (.int .i64 v2)))],H:=[(0,.row 3 (.int .i64) v3 false)],nx:=1,n:=23,pin:=[] }
theorem run (N:Nat) (o0:Orc E R) (a0:ByteArray):runF T (G N) live [] Tryz.f91 code (sp N) o0 (a0,())=m0 N a0 (fun a=>o0 loop3 (K3 N o0) (St3 a0 a)):=by kernel_rfl
theorem body3_0 (N:Nat) (o0:Orc E R) (o1:Orc E R) (q1:St E→Option R) (a0:ByteArray) (v1:Int) (v2:Int) (v3:List Int):runA T (G N) live [] o1 body3 (St3 a0 (v1,v2,v3)) (kloop [0,4,8,9] q1 (K3 N o0))=step3 N a0 (fun a=>q1 (St3 a0 a)) (v1,v2,v3):=by kernel_rfl
theorem lp3_eq (N:Nat) (a0:ByteArray) (a:Int×Int×(List Int)):(orc T (G N) live [] N 2) loop3 (K3 N (orc T (G N) live [] N 2)) (St3 a0 a)=lp3 N a0 a:=
 (orc_loop (b:=body3) (live:=[0,4,8,9]) (by kernel_rfl)).trans (iter_eq (St3 a0) _ _ (fun q1 a=>by
  have hc:=congrFun (congrFun (rfl:(step3 N a0)=(step3 N a0)) (fun a=>q1 (St3 a0 a))) a
  obtain ⟨u0,u1,u2⟩:=a
  exact (body3_0 N (orc T (G N) live [] N 2) (orc T (G N) live [] N 1) q1 a0 u0 u1 u2).trans hc) N a)
theorem G_ok (N:Nat):GamOK Tryz.prog (G N):=gam_ok (⟨impl_membersOK.snd N,trivial⟩)
theorem snd (N:Nat):Sound Tryz.prog E 91 (sp N):=
 Mir.sound T_OK (G_ok N) mixed Tryz.func91 (c:=code) (by kernel_rfl) (by kernel_rfl) (sp N) (Nat.le_of_ble_eq_true (by kernel_rfl)) live [] (by
  rintro ⟨a0,_⟩ r h
  exact ⟨N,2,((run N _ a0).trans (congrArg (m0 N a0) (funext fun a=>lp3_eq N a0 a))).trans h⟩)
end impl_readMembers
namespace impl_entryOK
noncomputable def code:Code:=Tryz.f76.body.getD .skip
abbrev live:Live:=[]
noncomputable def G (N:Nat):Ctx E:=gam [(52,[],impl_within.sp N),(91,[],impl_readMembers.sp N)]
theorem run (N:Nat) (o0:Orc E R) (a0:Entry):runF T (G N) live [] Tryz.f76 code (sp N) o0 (a0,())=m N a0:=by kernel_rfl
theorem G_ok (N:Nat):GamOK Tryz.prog (G N):=gam_ok (⟨impl_within.snd N,impl_readMembers.snd N,trivial⟩)
theorem snd (N:Nat):Sound Tryz.prog E 76 (sp N):=
 Mir.sound T_OK (G_ok N) mixed Tryz.func76 (c:=code) (by kernel_rfl) (by kernel_rfl) (sp N) (Nat.le_of_ble_eq_true (by kernel_rfl)) live [] (by
  rintro ⟨a0,_⟩ r h
  exact ⟨N,2,((run N _ a0).trans rfl).trans h⟩)
end impl_entryOK
namespace impl_logOK
noncomputable def code:Code:=Tryz.f73.body.getD .skip
abbrev live:Live:=[(2,[0,1,7,8,9])]
noncomputable def G (N:Nat):Ctx E:=gam [(76,[],impl_entryOK.sp N)]
noncomputable def loop2:Code:=codeAt code [1,0,1,0]
noncomputable def body2:Code:=codeAt loop2 [0]
noncomputable def K2 (N:Nat) (o0:Orc E R):KT E R:=kAt T (G N) live [] o0 code [1,0,1,0] (kfin T Tryz.f73 (sp N))
noncomputable def St2 (a0:List Entry) (a1:Int):(Int×Int)→St E
 | (v3,v4)=>{ ρ:=[(0,.c (.at (.ro 72 (.st 72) a0))),(1,.c (.at (.int .i64 a1))),(7,.c (.at (.ro 72 (.st 72) a0))),(8,.c (.at (.int .i64 v3))),(9,.c (.at (.int .i64 v4)))],H:=[],nx:=0,n:=42,pin:=[] }
theorem run (N:Nat) (o0:Orc E R) (a0:List Entry) (a1:Int):runF T (G N) live [] Tryz.f73 code (sp N) o0 (a0,a1,())=m0 N a0 a1 (fun a=>o0 loop2 (K2 N o0) (St2 a0 a1 a)):=by kernel_rfl
theorem body2_0 (N:Nat) (o0:Orc E R) (o1:Orc E R) (q1:St E→Option R) (a0:List Entry) (a1:Int) (v3:Int) (v4:Int):runA T (G N) live [] o1 body2 (St2 a0 a1 (v3,v4)) (kloop [0,1,7,8,9] q1 (K2 N o0))=step2 N a0 a1 (fun a=>q1 (St2 a0 a1 a)) (v3,v4):=by kernel_rfl
theorem lp2_eq (N:Nat) (a0:List Entry) (a1:Int) (a:Int×Int):(orc T (G N) live [] N 2) loop2 (K2 N (orc T (G N) live [] N 2)) (St2 a0 a1 a)=lp2 N a0 a1 a:=
 (orc_loop (b:=body2) (live:=[0,1,7,8,9]) (by kernel_rfl)).trans (iter_eq (St2 a0 a1) _ _ (fun q1 a=>by
  have hc:=congrFun (congrFun (rfl:(step2 N a0 a1)=(step2 N a0 a1)) (fun a=>q1 (St2 a0 a1 a))) a
  obtain ⟨u0,u1⟩:=a
  exact (body2_0 N (orc T (G N) live [] N 2) (orc T (G N) live [] N 1) q1 a0 a1 u0 u1).trans hc) N a)
theorem G_ok (N:Nat):GamOK Tryz.prog (G N):=gam_ok (⟨impl_entryOK.snd N,trivial⟩)
theorem snd (N:Nat):Sound Tryz.prog E 73 (sp N):=
 Mir.sound T_OK (G_ok N) mixed Tryz.func73 (c:=code) (by kernel_rfl) (by kernel_rfl) (sp N) (Nat.le_of_ble_eq_true (by kernel_rfl)) live [] (by
  rintro ⟨a0,a1,_⟩ r h
  exact ⟨N,2,((run N _ a0 a1).trans (congrArg (m0 N a0 a1) (funext fun a=>lp2_eq N a0 a1 a))).trans h⟩)
end impl_logOK
namespace impl_StateOK
noncomputable def code:Code:=Tryz.f48.body.getD .skip
abbrev live:Live:=[]
noncomputable def G (N:Nat):Ctx E:=gam [(52,[],impl_within.sp N),(73,[],impl_logOK.sp N)]
theorem run (N:Nat) (o0:Orc E R) (a0:State):runF T (G N) live [] Tryz.f48 code (sp N) o0 (a0,())=m N a0:=by kernel_rfl
theorem G_ok (N:Nat):GamOK Tryz.prog (G N):=gam_ok (⟨impl_within.snd N,impl_logOK.snd N,trivial⟩)
theorem snd (N:Nat):Sound Tryz.prog E 48 (sp N):=
 Mir.sound T_OK (G_ok N) mixed Tryz.func48 (c:=code) (by kernel_rfl) (by kernel_rfl) (sp N) (Nat.le_of_ble_eq_true (by kernel_rfl)) live [] (by
  rintro ⟨a0,_⟩ r h
  exact ⟨N,2,((run N _ a0).trans rfl).trans h⟩)
end impl_StateOK
namespace impl_reachOK
noncomputable def code:Code:=Tryz.f53.body.getD .skip
abbrev live:Live:=[(4,[0,1,2,17,18])]
noncomputable def G (N:Nat):Ctx E:=gam [(52,[],impl_within.sp N)]
noncomputable def loop4:Code:=codeAt code [1,1,0,1,0]
noncomputable def body4:Code:=codeAt loop4 [0]
noncomputable def K4 (N:Nat) (o0:Orc E R):KT E R:=kAt T (G N) live [] o0 code [1,1,0,1,0] (kfin T Tryz.f53 (sp N))
noncomputable def St4 (a0:List Int) (a1:List Int) (a2:Int):(Int×Int)→St E
 | (v3,v4)=>{ ρ:=[(0,.c (.at (.ro 3 (.int .i64) a0))),(1,.c (.at (.ro 3 (.int .i64) a1))),(2,.c (.at (.int .i64 a2))),(17,.c (.at (.int .i64 v3))),(18,.c (.at (.int .i64 v4)))],H:=[],nx:=0,n:=43,pin:=[] }
theorem run (N:Nat) (o0:Orc E R) (a0:List Int) (a1:List Int) (a2:Int):runF T (G N) live [] Tryz.f53 code (sp N) o0 (a0,a1,a2,())=m0 N a0 a1 a2 (fun a=>o0 loop4 (K4 N o0) (St4 a0 a1 a2 a)):=by kernel_rfl
theorem body4_0 (N:Nat) (o0:Orc E R) (o1:Orc E R) (q1:St E→Option R) (a0:List Int) (a1:List Int) (a2:Int) (v3:Int) (v4:Int):runA T (G N) live [] o1 body4 (St4 a0 a1 a2 (v3,v4)) (kloop [0,1,2,17,18] q1 (K4 N o0))=step4 N a0 a1 a2 (fun a=>q1 (St4 a0 a1 a2 a)) (v3,v4):=by kernel_rfl
theorem lp4_eq (N:Nat) (a0:List Int) (a1:List Int) (a2:Int) (a:Int×Int):(orc T (G N) live [] N 2) loop4 (K4 N (orc T (G N) live [] N 2)) (St4 a0 a1 a2 a)=lp4 N a0 a1 a2 a:=
 (orc_loop (b:=body4) (live:=[0,1,2,17,18]) (by kernel_rfl)).trans (iter_eq (St4 a0 a1 a2) _ _ (fun q1 a=>by
  have hc:=congrFun (congrFun (rfl:(step4 N a0 a1 a2)=(step4 N a0 a1 a2)) (fun a=>q1 (St4 a0 a1 a2 a))) a
  obtain ⟨u0,u1⟩:=a
  exact (body4_0 N (orc T (G N) live [] N 2) (orc T (G N) live [] N 1) q1 a0 a1 a2 u0 u1).trans hc) N a)
theorem G_ok (N:Nat):GamOK Tryz.prog (G N):=gam_ok (⟨impl_within.snd N,trivial⟩)
theorem snd (N:Nat):Sound Tryz.prog E 53 (sp N):=
 Mir.sound T_OK (G_ok N) mixed Tryz.func53 (c:=code) (by kernel_rfl) (by kernel_rfl) (sp N) (Nat.le_of_ble_eq_true (by kernel_rfl)) live [] (by
  rintro ⟨a0,a1,a2,_⟩ r h
  exact ⟨N,2,((run N _ a0 a1 a2).trans (congrArg (m0 N a0 a1 a2) (funext fun a=>lp4_eq N a0 a1 a2 a))).trans h⟩)
end impl_reachOK
namespace impl_NodeOK
noncomputable def code:Code:=Tryz.f26.body.getD .skip
abbrev live:Live:=[]
noncomputable def G (N:Nat):Ctx E:=gam [(47,[],impl_isNumber.sp N),(48,[],impl_StateOK.sp N),(49,[],impl_membersOK.sp N),(50,[],impl_areNumbers.sp N),(51,[],impl_areRising.sp N),(52,[],impl_within.sp N),(53,[],impl_reachOK.sp N)]
theorem run (N:Nat) (o0:Orc E R) (a0:Node):runF T (G N) live [] Tryz.f26 code (sp N) o0 (a0,())=m N a0:=by kernel_rfl
theorem G_ok (N:Nat):GamOK Tryz.prog (G N):=gam_ok (⟨impl_isNumber.snd N,impl_StateOK.snd N,impl_membersOK.snd N,impl_areNumbers.snd N,impl_areRising.snd N,impl_within.snd N,impl_reachOK.snd N,trivial⟩)
theorem snd (N:Nat):Sound Tryz.prog E 26 (sp N):=
 Mir.sound T_OK (G_ok N) mixed Tryz.func26 (c:=code) (by kernel_rfl) (by kernel_rfl) (sp N) (Nat.le_of_ble_eq_true (by kernel_rfl)) live [] (by
  rintro ⟨a0,_⟩ r h
  exact ⟨N,2,((run N _ a0).trans rfl).trans h⟩)
end impl_NodeOK
namespace impl_Message_entriesOK
noncomputable def code:Code:=Tryz.f54.body.getD .skip
abbrev live:Live:=[(3,[1,3,9,10,11])]
noncomputable def G (N:Nat):Ctx E:=gam [(76,[],impl_entryOK.sp N),(52,[],impl_within.sp N)]
noncomputable def loop3:Code:=codeAt code [1,1,0,1,0]
noncomputable def body3:Code:=codeAt loop3 [0]
noncomputable def K3 (N:Nat) (o0:Orc E R):KT E R:=kAt T (G N) live [] o0 code [1,1,0,1,0] (kfin T Tryz.f54 (sp N))
noncomputable def St3 (a0:Message):(Int×Int×Int)→St E
 | (v0,v2,v3)=>{ ρ:=[(1,.c (.at (.ptr 0 0))),(3,.c (.at (.int .i64 v0))),(9,.c (.at (.ro 72 (.st 72) a0.Entries))),(10,.c (.at (.int .i64 v2))),(11,.c (.at (.int .i64 v3)))],H:=[(0,.box 38 [.int .i64 a0.Kind,.int .i64 a0.From,.int .i64 a0.To,.int .i64 a0.Term,.int .i64 a0.Index,.int .i64 a0.LogTerm,.int .i64 a0.Commit,.ro 72 (.st 72) a0.Entries,.bool a0.Ok])],nx:=1,n:=47,pin:=[] }
theorem run (N:Nat) (o0:Orc E R) (a0:Message):runF T (G N) live [] Tryz.f54 code (sp N) o0 (a0,())=m0 N a0 (fun a=>o0 loop3 (K3 N o0) (St3 a0 a)):=by kernel_rfl
theorem body3_0 (N:Nat) (o0:Orc E R) (o1:Orc E R) (q1:St E→Option R) (a0:Message) (v0:Int) (v2:Int) (v3:Int):runA T (G N) live [] o1 body3 (St3 a0 (v0,v2,v3)) (kloop [1,3,9,10,11] q1 (K3 N o0))=step3 N a0 (fun a=>q1 (St3 a0 a)) (v0,v2,v3):=by kernel_rfl
theorem lp3_eq (N:Nat) (a0:Message) (a:Int×Int×Int):(orc T (G N) live [] N 2) loop3 (K3 N (orc T (G N) live [] N 2)) (St3 a0 a)=lp3 N a0 a:=
 (orc_loop (b:=body3) (live:=[1,3,9,10,11]) (by kernel_rfl)).trans (iter_eq (St3 a0) _ _ (fun q1 a=>by
  have hc:=congrFun (congrFun (rfl:(step3 N a0)=(step3 N a0)) (fun a=>q1 (St3 a0 a))) a
  obtain ⟨u0,u1,u2⟩:=a
  exact (body3_0 N (orc T (G N) live [] N 2) (orc T (G N) live [] N 1) q1 a0 u0 u1 u2).trans hc) N a)
theorem G_ok (N:Nat):GamOK Tryz.prog (G N):=gam_ok (⟨impl_entryOK.snd N,impl_within.snd N,trivial⟩)
theorem snd (N:Nat):Sound Tryz.prog E 54 (sp N):=
 Mir.sound T_OK (G_ok N) mixed Tryz.func54 (c:=code) (by kernel_rfl) (by kernel_rfl) (sp N) (Nat.le_of_ble_eq_true (by kernel_rfl)) live [] (by
  rintro ⟨a0,_⟩ r h
  exact ⟨N,2,((run N _ a0).trans (congrArg (m0 N a0) (funext fun a=>lp3_eq N a0 a))).trans h⟩)
end impl_Message_entriesOK
namespace impl_messageOK
noncomputable def code:Code:=Tryz.f27.body.getD .skip
abbrev live:Live:=[]
noncomputable def G (N:Nat):Ctx E:=gam [(52,[],impl_within.sp N),(47,[],impl_isNumber.sp N),(54,[],impl_Message_entriesOK.sp N)]
theorem run (N:Nat) (o0:Orc E R) (a0:Message):runF T (G N) live [] Tryz.f27 code (sp N) o0 (a0,())=m N a0:=by kernel_rfl
theorem G_ok (N:Nat):GamOK Tryz.prog (G N):=gam_ok (⟨impl_within.snd N,impl_isNumber.snd N,impl_Message_entriesOK.snd N,trivial⟩)
theorem snd (N:Nat):Sound Tryz.prog E 27 (sp N):=
 Mir.sound T_OK (G_ok N) mixed Tryz.func27 (c:=code) (by kernel_rfl) (by kernel_rfl) (sp N) (Nat.le_of_ble_eq_true (by kernel_rfl)) live [] (by
  rintro ⟨a0,_⟩ r h
  exact ⟨N,2,((run N _ a0).trans rfl).trans h⟩)
end impl_messageOK
namespace slices_Clone_impl_Entry_impl_Entry
noncomputable def code:Code:=Tryz.f55.body.getD .skip
abbrev live:Live:=[]
noncomputable def G (N:Nat):Ctx E:=gam []
theorem run (N:Nat) (o0:Orc E R) (a0:List Entry):runF T (G N) live [] Tryz.f55 code (sp N) o0 (a0,())=m N a0:=by kernel_rfl
theorem G_ok (N:Nat):GamOK Tryz.prog (G N):=gam_ok (trivial)
theorem snd (N:Nat):Sound Tryz.prog E 55 (sp N):=
 Mir.sound T_OK (G_ok N) mixed Tryz.func55 (c:=code) (by kernel_rfl) (by kernel_rfl) (sp N) (Nat.le_of_ble_eq_true (by kernel_rfl)) live [] (by
  rintro ⟨a0,_⟩ r h
  exact ⟨N,2,((run N _ a0).trans rfl).trans h⟩)
end slices_Clone_impl_Entry_impl_Entry
namespace slices_Clone_int_int
noncomputable def code:Code:=Tryz.f56.body.getD .skip
abbrev live:Live:=[]
noncomputable def G (N:Nat):Ctx E:=gam []
theorem run (N:Nat) (o0:Orc E R) (a0:List Int):runF T (G N) live [] Tryz.f56 code (sp N) o0 (a0,())=m N a0:=by kernel_rfl
theorem G_ok (N:Nat):GamOK Tryz.prog (G N):=gam_ok (trivial)
theorem snd (N:Nat):Sound Tryz.prog E 56 (sp N):=
 Mir.sound T_OK (G_ok N) mixed Tryz.func56 (c:=code) (by kernel_rfl) (by kernel_rfl) (sp N) (Nat.le_of_ble_eq_true (by kernel_rfl)) live [] (by
  rintro ⟨a0,_⟩ r h
  exact ⟨N,2,((run N _ a0).trans rfl).trans h⟩)
end slices_Clone_int_int
namespace impl_copyNode
noncomputable def code:Code:=Tryz.f28.body.getD .skip
abbrev live:Live:=[]
noncomputable def G (N:Nat):Ctx E:=gam [(55,[],slices_Clone_impl_Entry_impl_Entry.sp N),(56,[],slices_Clone_int_int.sp N)]
theorem run (N:Nat) (o0:Orc E R) (a0:Node):runF T (G N) live [] Tryz.f28 code (sp N) o0 (a0,())=m N a0:=by kernel_rfl
theorem G_ok (N:Nat):GamOK Tryz.prog (G N):=gam_ok (⟨slices_Clone_impl_Entry_impl_Entry.snd N,slices_Clone_int_int.snd N,trivial⟩)
theorem snd (N:Nat):Sound Tryz.prog E 28 (sp N):=
 Mir.sound T_OK (G_ok N) mixed Tryz.func28 (c:=code) (by kernel_rfl) (by kernel_rfl) (sp N) (Nat.le_of_ble_eq_true (by kernel_rfl)) live [] (by
  rintro ⟨a0,_⟩ r h
  exact ⟨N,2,((run N _ a0).trans rfl).trans h⟩)
end impl_copyNode
namespace math_bits_Mul64
noncomputable def code:Code:=Tryz.f103.body.getD .skip
abbrev live:Live:=[]
noncomputable def G (N:Nat):Ctx E:=gam []
theorem run (N:Nat) (o0:Orc E R) (a0:Int) (a1:Int):runF T (G N) live [] Tryz.f103 code (sp N) o0 (a0,a1,())=m N a0 a1:=by kernel_rfl
theorem G_ok (N:Nat):GamOK Tryz.prog (G N):=gam_ok (trivial)
theorem snd (N:Nat):Sound Tryz.prog E 103 (sp N):=
 Mir.sound T_OK (G_ok N) mixed Tryz.func103 (c:=code) (by kernel_rfl) (by kernel_rfl) (sp N) (Nat.le_of_ble_eq_true (by kernel_rfl)) live [] (by
  rintro ⟨a0,a1,_⟩ r h
  exact ⟨N,2,((run N _ a0 a1).trans rfl).trans h⟩)
end math_bits_Mul64
namespace math_bits_Mul
noncomputable def code:Code:=Tryz.f92.body.getD .skip
abbrev live:Live:=[]
noncomputable def G (N:Nat):Ctx E:=gam [(103,[],math_bits_Mul64.sp N)]
theorem run (N:Nat) (o0:Orc E R) (a0:Int) (a1:Int):runF T (G N) live [] Tryz.f92 code (sp N) o0 (a0,a1,())=m N a0 a1:=by kernel_rfl
theorem G_ok (N:Nat):GamOK Tryz.prog (G N):=gam_ok (⟨math_bits_Mul64.snd N,trivial⟩)
theorem snd (N:Nat):Sound Tryz.prog E 92 (sp N):=
 Mir.sound T_OK (G_ok N) mixed Tryz.func92 (c:=code) (by kernel_rfl) (by kernel_rfl) (sp N) (Nat.le_of_ble_eq_true (by kernel_rfl)) live [] (by
  rintro ⟨a0,a1,_⟩ r h
  exact ⟨N,2,((run N _ a0 a1).trans rfl).trans h⟩)
end math_bits_Mul
namespace slices_Repeat_int_int
noncomputable def code:Code:=Tryz.f77.body.getD .skip
abbrev live:Live:=[(8,[7,8])]
noncomputable def G (N:Nat):Ctx E:=gam [(92,[],math_bits_Mul.sp N)]
noncomputable def loop8:Code:=codeAt code [1,1,1,1,1,1,0,0]
noncomputable def body8:Code:=codeAt loop8 [0]
noncomputable def K8 (N:Nat) (o0:Orc E R):KT E R:=kAt T (G N) live [] o0 code [1,1,1,1,1,1,0,0] (kfin T Tryz.f77 (sp N))
noncomputable def St8 (a0:List Int) (a1:Int):(Int×(List Int))→St E
 | (v0,v1)=>{ ρ:=[(7,.c (.at (.own 0))),(8,.c (.at (.int .i64 v0)))],H:=[(0,.row 3 (.int .i64) v1 false)],nx:=1,n:=48,pin:=[] }
theorem run (N:Nat) (o0:Orc E R) (a0:List Int) (a1:Int):runF T (G N) live [] Tryz.f77 code (sp N) o0 (a0,a1,())=m0 N a0 a1 (fun a=>o0 loop8 (K8 N o0) (St8 a0 a1 a)):=by kernel_rfl
theorem body8_0 (N:Nat) (o0:Orc E R) (o1:Orc E R) (q1:St E→Option R) (a0:List Int) (a1:Int) (v0:Int) (v1:List Int):runA T (G N) live [] o1 body8 (St8 a0 a1 (v0,v1)) (kloop [7,8] q1 (K8 N o0))=step8 N a0 a1 (fun a=>q1 (St8 a0 a1 a)) (v0,v1):=by kernel_rfl
theorem lp8_eq (N:Nat) (a0:List Int) (a1:Int) (a:Int×(List Int)):(orc T (G N) live [] N 2) loop8 (K8 N (orc T (G N) live [] N 2)) (St8 a0 a1 a)=lp8 N a0 a1 a:=
 (orc_loop (b:=body8) (live:=[7,8]) (by kernel_rfl)).trans (iter_eq (St8 a0 a1) _ _ (fun q1 a=>by
  have hc:=congrFun (congrFun (rfl:(step8 N a0 a1)=(step8 N a0 a1)) (fun a=>q1 (St8 a0 a1 a))) a
  obtain ⟨u0,u1⟩:=a
  exact (body8_0 N (orc T (G N) live [] N 2) (orc T (G N) live [] N 1) q1 a0 a1 u0 u1).trans hc) N a)
theorem G_ok (N:Nat):GamOK Tryz.prog (G N):=gam_ok (⟨math_bits_Mul.snd N,trivial⟩)
theorem snd (N:Nat):Sound Tryz.prog E 77 (sp N):=
 Mir.sound T_OK (G_ok N) mixed Tryz.func77 (c:=code) (by kernel_rfl) (by kernel_rfl) (sp N) (Nat.le_of_ble_eq_true (by kernel_rfl)) live [] (by
  rintro ⟨a0,a1,_⟩ r h
  exact ⟨N,2,((run N _ a0 a1).trans (congrArg (m0 N a0 a1) (funext fun a=>lp8_eq N a0 a1 a))).trans h⟩)
end slices_Repeat_int_int
namespace impl_Node_follow
noncomputable def code:Code:=Tryz.f57.body.getD .skip
abbrev live:Live:=[]
noncomputable def G (N:Nat):Ctx E:=gam [(77,[],slices_Repeat_int_int.sp N)]
theorem run (N:Nat) (o0:Orc E R) (a0:worker):runF TD (G N) live [] Tryz.f57 code (sp N) o0 (a0,())=m N a0:=by kernel_rfl
theorem G_ok (N:Nat):GamOK Tryz.prog (G N):=gam_ok (⟨slices_Repeat_int_int.snd N,trivial⟩)
theorem snd (N:Nat):Sound Tryz.prog E 57 (sp N):=
 Mir.sound TD_OK (G_ok N) mixed Tryz.func57 (c:=code) (by kernel_rfl) (by kernel_rfl) (sp N) (Nat.le_of_ble_eq_true (by kernel_rfl)) live [] (by
  rintro ⟨a0,_⟩ r h
  exact ⟨N,2,((run N _ a0).trans rfl).trans h⟩)
end impl_Node_follow
namespace impl_Node_termAt
noncomputable def code:Code:=Tryz.f83.body.getD .skip
abbrev live:Live:=[]
noncomputable def G (N:Nat):Ctx E:=gam []
theorem run (N:Nat) (o0:Orc E R) (a0:Node) (a1:Int):runF T (G N) live [] Tryz.f83 code (sp N) o0 (a0,a1,())=m N a0 a1:=by kernel_rfl
theorem G_ok (N:Nat):GamOK Tryz.prog (G N):=gam_ok (trivial)
theorem snd (N:Nat):Sound Tryz.prog E 83 (sp N):=
 Mir.sound T_OK (G_ok N) mixed Tryz.func83 (c:=code) (by kernel_rfl) (by kernel_rfl) (sp N) (Nat.le_of_ble_eq_true (by kernel_rfl)) live [] (by
  rintro ⟨a0,a1,_⟩ r h
  exact ⟨N,2,((run N _ a0 a1).trans rfl).trans h⟩)
end impl_Node_termAt
namespace impl_Node_upToDate
noncomputable def code:Code:=Tryz.f78.body.getD .skip
abbrev live:Live:=[]
noncomputable def G (N:Nat):Ctx E:=gam [(83,[],impl_Node_termAt.sp N)]
theorem run (N:Nat) (o0:Orc E R) (a0:Node) (a1:Int) (a2:Int):runF T (G N) live [] Tryz.f78 code (sp N) o0 (a0,a1,a2,())=m N a0 a1 a2:=by kernel_rfl
theorem G_ok (N:Nat):GamOK Tryz.prog (G N):=gam_ok (⟨impl_Node_termAt.snd N,trivial⟩)
theorem snd (N:Nat):Sound Tryz.prog E 78 (sp N):=
 Mir.sound T_OK (G_ok N) mixed Tryz.func78 (c:=code) (by kernel_rfl) (by kernel_rfl) (sp N) (Nat.le_of_ble_eq_true (by kernel_rfl)) live [] (by
  rintro ⟨a0,a1,a2,_⟩ r h
  exact ⟨N,2,((run N _ a0 a1 a2).trans rfl).trans h⟩)
end impl_Node_upToDate
namespace impl_worker_send
noncomputable def code:Code:=Tryz.f79.body.getD .skip
abbrev live:Live:=[]
noncomputable def G (N:Nat):Ctx E:=gam []
theorem run (N:Nat) (o0:Orc E R) (a0:worker) (a1:Message):runF TD (G N) live [] Tryz.f79 code (sp N) o0 (a0,a1,())=m N a0 a1:=by kernel_rfl
theorem G_ok (N:Nat):GamOK Tryz.prog (G N):=gam_ok (trivial)
theorem snd (N:Nat):Sound Tryz.prog E 79 (sp N):=
 Mir.sound TD_OK (G_ok N) mixed Tryz.func79 (c:=code) (by kernel_rfl) (by kernel_rfl) (sp N) (Nat.le_of_ble_eq_true (by kernel_rfl)) live [] (by
  rintro ⟨a0,a1,_⟩ r h
  exact ⟨N,2,((run N _ a0 a1).trans rfl).trans h⟩)
end impl_worker_send
namespace impl_worker_vote
noncomputable def code:Code:=Tryz.f58.body.getD .skip
abbrev live:Live:=[]
noncomputable def G (N:Nat):Ctx E:=gam [(78,[],impl_Node_upToDate.sp N),(79,[],impl_worker_send.sp N)]
theorem run (N:Nat) (o0:Orc E R) (a0:worker) (a1:Message):runF TD (G N) live [] Tryz.f58 code (sp N) o0 (a0,a1,())=m N a0 a1:=by kernel_rfl
theorem G_ok (N:Nat):GamOK Tryz.prog (G N):=gam_ok (⟨impl_Node_upToDate.snd N,impl_worker_send.snd N,trivial⟩)
theorem snd (N:Nat):Sound Tryz.prog E 58 (sp N):=
 Mir.sound TD_OK (G_ok N) mixed Tryz.func58 (c:=code) (by kernel_rfl) (by kernel_rfl) (sp N) (Nat.le_of_ble_eq_true (by kernel_rfl)) live [] (by
  rintro ⟨a0,a1,_⟩ r h
  exact ⟨N,2,((run N _ a0 a1).trans rfl).trans h⟩)
end impl_worker_vote
namespace cmp_isNaN_int
noncomputable def code:Code:=Tryz.f104.body.getD .skip
abbrev live:Live:=[]
noncomputable def G (N:Nat):Ctx E:=gam []
theorem run (N:Nat) (o0:Orc E R) (a0:Int):runF T (G N) live [] Tryz.f104 code (sp N) o0 (a0,())=m N a0:=by kernel_rfl
theorem G_ok (N:Nat):GamOK Tryz.prog (G N):=gam_ok (trivial)
theorem snd (N:Nat):Sound Tryz.prog E 104 (sp N):=
 Mir.sound T_OK (G_ok N) mixed Tryz.func104 (c:=code) (by kernel_rfl) (by kernel_rfl) (sp N) (Nat.le_of_ble_eq_true (by kernel_rfl)) live [] (by
  rintro ⟨a0,_⟩ r h
  exact ⟨N,2,((run N _ a0).trans rfl).trans h⟩)
end cmp_isNaN_int
namespace cmp_Less_int
noncomputable def code:Code:=Tryz.f93.body.getD .skip
abbrev live:Live:=[]
noncomputable def G (N:Nat):Ctx E:=gam [(104,[],cmp_isNaN_int.sp N)]
theorem run (N:Nat) (o0:Orc E R) (a0:Int) (a1:Int):runF T (G N) live [] Tryz.f93 code (sp N) o0 (a0,a1,())=m N a0 a1:=by kernel_rfl
theorem G_ok (N:Nat):GamOK Tryz.prog (G N):=gam_ok (⟨cmp_isNaN_int.snd N,trivial⟩)
theorem snd (N:Nat):Sound Tryz.prog E 93 (sp N):=
 Mir.sound T_OK (G_ok N) mixed Tryz.func93 (c:=code) (by kernel_rfl) (by kernel_rfl) (sp N) (Nat.le_of_ble_eq_true (by kernel_rfl)) live [] (by
  rintro ⟨a0,a1,_⟩ r h
  exact ⟨N,2,((run N _ a0 a1).trans rfl).trans h⟩)
end cmp_Less_int
namespace slices_isNaN_int
noncomputable def code:Code:=Tryz.f94.body.getD .skip
abbrev live:Live:=[]
noncomputable def G (N:Nat):Ctx E:=gam []
theorem run (N:Nat) (o0:Orc E R) (a0:Int):runF T (G N) live [] Tryz.f94 code (sp N) o0 (a0,())=m N a0:=by kernel_rfl
theorem G_ok (N:Nat):GamOK Tryz.prog (G N):=gam_ok (trivial)
theorem snd (N:Nat):Sound Tryz.prog E 94 (sp N):=
 Mir.sound T_OK (G_ok N) mixed Tryz.func94 (c:=code) (by kernel_rfl) (by kernel_rfl) (sp N) (Nat.le_of_ble_eq_true (by kernel_rfl)) live [] (by
  rintro ⟨a0,_⟩ r h
  exact ⟨N,2,((run N _ a0).trans rfl).trans h⟩)
end slices_isNaN_int
namespace slices_BinarySearch_int_int
noncomputable def code:Code:=Tryz.f80.body.getD .skip
abbrev live:Live:=[(3,[0,1,6,7,8])]
noncomputable def G (N:Nat):Ctx E:=gam [(93,[],cmp_Less_int.sp N),(94,[],slices_isNaN_int.sp N)]
noncomputable def loop3:Code:=codeAt code [1,1,1,0,0]
noncomputable def body3:Code:=codeAt loop3 [0]
noncomputable def K3 (N:Nat) (o0:Orc E R):KT E R:=kAt T (G N) live [] o0 code [1,1,1,0,0] (kfin T Tryz.f80 (sp N))
noncomputable def St3 (a0:List Int) (a1:Int):(Int×Int×Int)→St E
 | (v2,v3,v4)=>{ ρ:=[(0,.c (.at (.ro 3 (.int .i64) a0))),(1,.c (.at (.int .i64 a1))),(6,.c (.at (.int .i64 v2))),(7,.c (.at (.int .i64 v3))),(8,.c (.at (.int .i64 v4)))],H:=[],nx:=0,n:=54,pin:=[] }
theorem run (N:Nat) (o0:Orc E R) (a0:List Int) (a1:Int):runF T (G N) live [] Tryz.f80 code (sp N) o0 (a0,a1,())=m0 N a0 a1 (fun a=>o0 loop3 (K3 N o0) (St3 a0 a1 a)):=by kernel_rfl
theorem body3_0 (N:Nat) (o0:Orc E R) (o1:Orc E R) (q1:St E→Option R) (a0:List Int) (a1:Int) (v2:Int) (v3:Int) (v4:Int):runA T (G N) live [] o1 body3 (St3 a0 a1 (v2,v3,v4)) (kloop [0,1,6,7,8] q1 (K3 N o0))=step3 N a0 a1 (fun a=>q1 (St3 a0 a1 a)) (v2,v3,v4):=by kernel_rfl
theorem lp3_eq (N:Nat) (a0:List Int) (a1:Int) (a:Int×Int×Int):(orc T (G N) live [] N 2) loop3 (K3 N (orc T (G N) live [] N 2)) (St3 a0 a1 a)=lp3 N a0 a1 a:=
 (orc_loop (b:=body3) (live:=[0,1,6,7,8]) (by kernel_rfl)).trans (iter_eq (St3 a0 a1) _ _ (fun q1 a=>by
  have hc:=congrFun (congrFun (rfl:(step3 N a0 a1)=(step3 N a0 a1)) (fun a=>q1 (St3 a0 a1 a))) a
  obtain ⟨u0,u1,u2⟩:=a
  exact (body3_0 N (orc T (G N) live [] N 2) (orc T (G N) live [] N 1) q1 a0 a1 u0 u1 u2).trans hc) N a)
theorem G_ok (N:Nat):GamOK Tryz.prog (G N):=gam_ok (⟨cmp_Less_int.snd N,slices_isNaN_int.snd N,trivial⟩)
theorem snd (N:Nat):Sound Tryz.prog E 80 (sp N):=
 Mir.sound T_OK (G_ok N) mixed Tryz.func80 (c:=code) (by kernel_rfl) (by kernel_rfl) (sp N) (Nat.le_of_ble_eq_true (by kernel_rfl)) live [] (by
  rintro ⟨a0,a1,_⟩ r h
  exact ⟨N,2,((run N _ a0 a1).trans (congrArg (m0 N a0 a1) (funext fun a=>lp3_eq N a0 a1 a))).trans h⟩)
end slices_BinarySearch_int_int
namespace slices_Insert_int
theorem snd (N:Nat):Sound Tryz.prog E 81 (sp N):=
 insert_sound (E:=E) (ty:=(.int .i64)) rfl (fun args W=>run_callFunc_go Tryz.func81 (c:=Tryz.f81.body.getD .skip) (by kernel_rfl) (by kernel_rfl) args W) Tryz.underlying23 (i:=Tryz.t3) (by kernel_rfl) (z:=Tryz.t3.zero.getD undef) (by kernel_rfl) (by kernel_rfl) (by kernel_rfl) (Nat.le_of_ble_eq_true (by kernel_rfl)) Go.Proofs.InsW81.ov Go.Proofs.InsW81.at_end Go.Proofs.InsW81.grow (by kernel_rfl) Go.Proofs.InsW81.shift
end slices_Insert_int
end Mir.Y
