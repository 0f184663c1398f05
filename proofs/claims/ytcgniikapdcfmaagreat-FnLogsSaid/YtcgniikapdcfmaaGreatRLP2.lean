/- The models are what the functions do. -/
import Derived.Test.YtcgniikapdcfmaaGreatRLP1
import Derived.Test.YtcgniikapdcfmaaGreatRLIns97
import Derived.Test.YtcgniikapdcfmaaGreatRLMemA
namespace Mir.Y
set_option linter.unusedVariables false
set_option maxRecDepth 10000
open Go Go.Proofs Mir
namespace impl_logOK
noncomputable def code:Code:=Tryz.f64.body.getD .skip
abbrev live:Live:=[(2,[0,1,7,8,9])]
noncomputable def G (N:Nat):Ctx E:=gam [(67,[],impl_entryOK.sp N)]
noncomputable def loop2:Code:=codeAt code [1,0,1,0]
noncomputable def body2:Code:=codeAt loop2 [0]
noncomputable def K2 (N:Nat) (o0:Orc E R):KT E R:=kAt T (G N) live [] o0 code [1,0,1,0] (kfin T Tryz.f64 (sp N))
noncomputable def St2 (a0:List Entry) (a1:Int):(Int×Int)→St E
 | (v3,v4)=>{ ρ:=[(0,.c (.at (.ro 41 (.st 41) a0))),(1,.c (.at (.int .i64 a1))),(7,.c (.at (.ro 41 (.st 41) a0))),(8,.c (.at (.int .i64 v3))),(9,.c (.at (.int .i64 v4)))],H:=[],nx:=0,n:=42,pin:=[] }
theorem run (N:Nat) (o0:Orc E R) (a0:List Entry) (a1:Int):runF T (G N) live [] Tryz.f64 code (sp N) o0 (a0,a1,())=m0 N a0 a1 (fun a=>o0 loop2 (K2 N o0) (St2 a0 a1 a)):=by kernel_rfl
theorem body2_0 (N:Nat) (o0:Orc E R) (o1:Orc E R) (q1:St E→Option R) (a0:List Entry) (a1:Int) (v3:Int) (v4:Int):runA T (G N) live [] o1 body2 (St2 a0 a1 (v3,v4)) (kloop [0,1,7,8,9] q1 (K2 N o0))=step2 N a0 a1 (fun a=>q1 (St2 a0 a1 a)) (v3,v4):=by kernel_rfl
theorem lp2_eq (N:Nat) (a0:List Entry) (a1:Int) (a:Int×Int):(orc T (G N) live [] N 2) loop2 (K2 N (orc T (G N) live [] N 2)) (St2 a0 a1 a)=lp2 N a0 a1 a:=
 (orc_loop (b:=body2) (live:=[0,1,7,8,9]) (by kernel_rfl)).trans (iter_eq (St2 a0 a1) _ _ (fun q1 a=>by
  have hc:=congrFun (congrFun (rfl:(step2 N a0 a1)=(step2 N a0 a1)) (fun a=>q1 (St2 a0 a1 a))) a
  obtain ⟨u0,u1⟩:=a
  exact (body2_0 N (orc T (G N) live [] N 2) (orc T (G N) live [] N 1) q1 a0 a1 u0 u1).trans hc) N a)
theorem G_ok (N:Nat):GamOK Tryz.prog (G N):=gam_ok (⟨impl_entryOK.snd N,trivial⟩)
theorem snd (N:Nat):Sound Tryz.prog E 64 (sp N):=
 Mir.sound T_OK (G_ok N) mixed Tryz.func64 (c:=code) (by kernel_rfl) (by kernel_rfl) (sp N) (Nat.le_of_ble_eq_true (by kernel_rfl)) live [] (by
  rintro ⟨a0,a1,_⟩ r h
  exact ⟨N,2,((run N _ a0 a1).trans (congrArg (m0 N a0 a1) (funext fun a=>lp2_eq N a0 a1 a))).trans h⟩)
end impl_logOK
namespace impl_StateOK
noncomputable def code:Code:=Tryz.f46.body.getD .skip
abbrev live:Live:=[]
noncomputable def G (N:Nat):Ctx E:=gam [(17,[],impl_within.sp N),(64,[],impl_logOK.sp N)]
theorem run (N:Nat) (o0:Orc E R) (a0:State):runF T (G N) live [] Tryz.f46 code (sp N) o0 (a0,())=m N a0:=by kernel_rfl
theorem G_ok (N:Nat):GamOK Tryz.prog (G N):=gam_ok (⟨impl_within.snd N,impl_logOK.snd N,trivial⟩)
theorem snd (N:Nat):Sound Tryz.prog E 46 (sp N):=
 Mir.sound T_OK (G_ok N) mixed Tryz.func46 (c:=code) (by kernel_rfl) (by kernel_rfl) (sp N) (Nat.le_of_ble_eq_true (by kernel_rfl)) live [] (by
  rintro ⟨a0,_⟩ r h
  exact ⟨N,2,((run N _ a0).trans rfl).trans h⟩)
end impl_StateOK
namespace impl_reachOK
noncomputable def code:Code:=Tryz.f50.body.getD .skip
abbrev live:Live:=[(4,[0,1,2,17,18])]
noncomputable def G (N:Nat):Ctx E:=gam [(17,[],impl_within.sp N)]
noncomputable def loop4:Code:=codeAt code [1,1,0,1,0]
noncomputable def body4:Code:=codeAt loop4 [0]
noncomputable def K4 (N:Nat) (o0:Orc E R):KT E R:=kAt T (G N) live [] o0 code [1,1,0,1,0] (kfin T Tryz.f50 (sp N))
noncomputable def St4 (a0:List Int) (a1:List Int) (a2:Int):(Int×Int)→St E
 | (v3,v4)=>{ ρ:=[(0,.c (.at (.ro 3 (.int .i64) a0))),(1,.c (.at (.ro 3 (.int .i64) a1))),(2,.c (.at (.int .i64 a2))),(17,.c (.at (.int .i64 v3))),(18,.c (.at (.int .i64 v4)))],H:=[],nx:=0,n:=43,pin:=[] }
theorem run (N:Nat) (o0:Orc E R) (a0:List Int) (a1:List Int) (a2:Int):runF T (G N) live [] Tryz.f50 code (sp N) o0 (a0,a1,a2,())=m0 N a0 a1 a2 (fun a=>o0 loop4 (K4 N o0) (St4 a0 a1 a2 a)):=by kernel_rfl
theorem body4_0 (N:Nat) (o0:Orc E R) (o1:Orc E R) (q1:St E→Option R) (a0:List Int) (a1:List Int) (a2:Int) (v3:Int) (v4:Int):runA T (G N) live [] o1 body4 (St4 a0 a1 a2 (v3,v4)) (kloop [0,1,2,17,18] q1 (K4 N o0))=step4 N a0 a1 a2 (fun a=>q1 (St4 a0 a1 a2 a)) (v3,v4):=by kernel_rfl
theorem lp4_eq (N:Nat) (a0:List Int) (a1:List Int) (a2:Int) (a:Int×Int):(orc T (G N) live [] N 2) loop4 (K4 N (orc T (G N) live [] N 2)) (St4 a0 a1 a2 a)=lp4 N a0 a1 a2 a:=
 (orc_loop (b:=body4) (live:=[0,1,2,17,18]) (by kernel_rfl)).trans (iter_eq (St4 a0 a1 a2) _ _ (fun q1 a=>by
  have hc:=congrFun (congrFun (rfl:(step4 N a0 a1 a2)=(step4 N a0 a1 a2)) (fun a=>q1 (St4 a0 a1 a2 a))) a
  obtain ⟨u0,u1⟩:=a
  exact (body4_0 N (orc T (G N) live [] N 2) (orc T (G N) live [] N 1) q1 a0 a1 a2 u0 u1).trans hc) N a)
theorem G_ok (N:Nat):GamOK Tryz.prog (G N):=gam_ok (⟨impl_within.snd N,trivial⟩)
theorem snd (N:Nat):Sound Tryz.prog E 50 (sp N):=
 Mir.sound T_OK (G_ok N) mixed Tryz.func50 (c:=code) (by kernel_rfl) (by kernel_rfl) (sp N) (Nat.le_of_ble_eq_true (by kernel_rfl)) live [] (by
  rintro ⟨a0,a1,a2,_⟩ r h
  exact ⟨N,2,((run N _ a0 a1 a2).trans (congrArg (m0 N a0 a1 a2) (funext fun a=>lp4_eq N a0 a1 a2 a))).trans h⟩)
end impl_reachOK
namespace impl_NodeOK
noncomputable def code:Code:=Tryz.f28.body.getD .skip
abbrev live:Live:=[]
noncomputable def G (N:Nat):Ctx E:=gam [(45,[],impl_isNumber.sp N),(46,[],impl_StateOK.sp N),(47,[],impl_membersOK.sp N),(48,[],impl_areNumbers.sp N),(49,[],impl_areRising.sp N),(17,[],impl_within.sp N),(50,[],impl_reachOK.sp N)]
theorem run (N:Nat) (o0:Orc E R) (a0:Node):runF T (G N) live [] Tryz.f28 code (sp N) o0 (a0,())=m N a0:=by kernel_rfl
theorem G_ok (N:Nat):GamOK Tryz.prog (G N):=gam_ok (⟨impl_isNumber.snd N,impl_StateOK.snd N,impl_membersOK.snd N,impl_areNumbers.snd N,impl_areRising.snd N,impl_within.snd N,impl_reachOK.snd N,trivial⟩)
theorem snd (N:Nat):Sound Tryz.prog E 28 (sp N):=
 Mir.sound T_OK (G_ok N) mixed Tryz.func28 (c:=code) (by kernel_rfl) (by kernel_rfl) (sp N) (Nat.le_of_ble_eq_true (by kernel_rfl)) live [] (by
  rintro ⟨a0,_⟩ r h
  exact ⟨N,2,((run N _ a0).trans rfl).trans h⟩)
end impl_NodeOK
namespace impl_Message_entriesOK
noncomputable def code:Code:=Tryz.f52.body.getD .skip
abbrev live:Live:=[(3,[1,3,9,10,11])]
noncomputable def G (N:Nat):Ctx E:=gam [(67,[],impl_entryOK.sp N),(17,[],impl_within.sp N)]
noncomputable def loop3:Code:=codeAt code [1,1,0,1,0]
noncomputable def body3:Code:=codeAt loop3 [0]
noncomputable def K3 (N:Nat) (o0:Orc E R):KT E R:=kAt T (G N) live [] o0 code [1,1,0,1,0] (kfin T Tryz.f52 (sp N))
noncomputable def St3 (a0:Message):(Int×Int×Int)→St E
 | (v0,v2,v3)=>{ ρ:=[(1,.c (.at (.ptr 0 0))),(3,.c (.at (.int .i64 v0))),(9,.c (.at (.ro 41 (.st 41) a0.Entries))),(10,.c (.at (.int .i64 v2))),(11,.c (.at (.int .i64 v3)))],H:=[(0,.box 74 [.int .i64 a0.Kind,.int .i64 a0.From,.int .i64 a0.To,.int .i64 a0.Term,.int .i64 a0.Index,.int .i64 a0.LogTerm,.int .i64 a0.Commit,.ro 41 (.st 41) a0.Entries,.bool a0.Ok])],nx:=1,n:=47,pin:=[] }
theorem run (N:Nat) (o0:Orc E R) (a0:Message):runF T (G N) live [] Tryz.f52 code (sp N) o0 (a0,())=m0 N a0 (fun a=>o0 loop3 (K3 N o0) (St3 a0 a)):=by kernel_rfl
theorem body3_0 (N:Nat) (o0:Orc E R) (o1:Orc E R) (q1:St E→Option R) (a0:Message) (v0:Int) (v2:Int) (v3:Int):runA T (G N) live [] o1 body3 (St3 a0 (v0,v2,v3)) (kloop [1,3,9,10,11] q1 (K3 N o0))=step3 N a0 (fun a=>q1 (St3 a0 a)) (v0,v2,v3):=by kernel_rfl
theorem lp3_eq (N:Nat) (a0:Message) (a:Int×Int×Int):(orc T (G N) live [] N 2) loop3 (K3 N (orc T (G N) live [] N 2)) (St3 a0 a)=lp3 N a0 a:=
 (orc_loop (b:=body3) (live:=[1,3,9,10,11]) (by kernel_rfl)).trans (iter_eq (St3 a0) _ _ (fun q1 a=>by
  have hc:=congrFun (congrFun (rfl:(step3 N a0)=(step3 N a0)) (fun a=>q1 (St3 a0 a))) a
  obtain ⟨u0,u1,u2⟩:=a
  exact (body3_0 N (orc T (G N) live [] N 2) (orc T (G N) live [] N 1) q1 a0 u0 u1 u2).trans hc) N a)
theorem G_ok (N:Nat):GamOK Tryz.prog (G N):=gam_ok (⟨impl_entryOK.snd N,impl_within.snd N,trivial⟩)
theorem snd (N:Nat):Sound Tryz.prog E 52 (sp N):=
 Mir.sound T_OK (G_ok N) mixed Tryz.func52 (c:=code) (by kernel_rfl) (by kernel_rfl) (sp N) (Nat.le_of_ble_eq_true (by kernel_rfl)) live [] (by
  rintro ⟨a0,_⟩ r h
  exact ⟨N,2,((run N _ a0).trans (congrArg (m0 N a0) (funext fun a=>lp3_eq N a0 a))).trans h⟩)
end impl_Message_entriesOK
namespace impl_messageOK
noncomputable def code:Code:=Tryz.f31.body.getD .skip
abbrev live:Live:=[]
noncomputable def G (N:Nat):Ctx E:=gam [(17,[],impl_within.sp N),(45,[],impl_isNumber.sp N),(52,[],impl_Message_entriesOK.sp N)]
theorem run (N:Nat) (o0:Orc E R) (a0:Message):runF T (G N) live [] Tryz.f31 code (sp N) o0 (a0,())=m N a0:=by kernel_rfl
theorem G_ok (N:Nat):GamOK Tryz.prog (G N):=gam_ok (⟨impl_within.snd N,impl_isNumber.snd N,impl_Message_entriesOK.snd N,trivial⟩)
theorem snd (N:Nat):Sound Tryz.prog E 31 (sp N):=
 Mir.sound T_OK (G_ok N) mixed Tryz.func31 (c:=code) (by kernel_rfl) (by kernel_rfl) (sp N) (Nat.le_of_ble_eq_true (by kernel_rfl)) live [] (by
  rintro ⟨a0,_⟩ r h
  exact ⟨N,2,((run N _ a0).trans rfl).trans h⟩)
end impl_messageOK
namespace impl_Node_follow_
noncomputable def code:Code:=Tryz.f34.body.getD .skip
abbrev live:Live:=[]
noncomputable def G (N:Nat):Ctx E:=gam [(53,[],slices_Repeat_int_int.sp N)]
theorem run (N:Nat) (o0:Orc E R) (a0:worker):runF T (G N) live [] Tryz.f34 code (sp N) o0 (a0,())=m N a0:=by kernel_rfl
theorem G_ok (N:Nat):GamOK Tryz.prog (G N):=gam_ok (⟨slices_Repeat_int_int.snd N,trivial⟩)
theorem snd (N:Nat):Sound Tryz.prog E 34 (sp N):=
 Mir.sound T_OK (G_ok N) mixed Tryz.func34 (c:=code) (by kernel_rfl) (by kernel_rfl) (sp N) (Nat.le_of_ble_eq_true (by kernel_rfl)) live [] (by
  rintro ⟨a0,_⟩ r h
  exact ⟨N,2,((run N _ a0).trans rfl).trans h⟩)
end impl_Node_follow_
namespace impl_Node_termAt
noncomputable def code:Code:=Tryz.f87.body.getD .skip
abbrev live:Live:=[]
noncomputable def G (N:Nat):Ctx E:=gam []
theorem run (N:Nat) (o0:Orc E R) (a0:Node) (a1:Int):runF T (G N) live [] Tryz.f87 code (sp N) o0 (a0,a1,())=m N a0 a1:=by kernel_rfl
theorem G_ok (N:Nat):GamOK Tryz.prog (G N):=gam_ok (trivial)
theorem snd (N:Nat):Sound Tryz.prog E 87 (sp N):=
 Mir.sound T_OK (G_ok N) mixed Tryz.func87 (c:=code) (by kernel_rfl) (by kernel_rfl) (sp N) (Nat.le_of_ble_eq_true (by kernel_rfl)) live [] (by
  rintro ⟨a0,a1,_⟩ r h
  exact ⟨N,2,((run N _ a0 a1).trans rfl).trans h⟩)
end impl_Node_termAt
namespace impl_Node_upToDate
noncomputable def code:Code:=Tryz.f94.body.getD .skip
abbrev live:Live:=[]
noncomputable def G (N:Nat):Ctx E:=gam [(87,[],impl_Node_termAt.sp N)]
theorem run (N:Nat) (o0:Orc E R) (a0:Node) (a1:Int) (a2:Int):runF T (G N) live [] Tryz.f94 code (sp N) o0 (a0,a1,a2,())=m N a0 a1 a2:=by kernel_rfl
theorem G_ok (N:Nat):GamOK Tryz.prog (G N):=gam_ok (⟨impl_Node_termAt.snd N,trivial⟩)
theorem snd (N:Nat):Sound Tryz.prog E 94 (sp N):=
 Mir.sound T_OK (G_ok N) mixed Tryz.func94 (c:=code) (by kernel_rfl) (by kernel_rfl) (sp N) (Nat.le_of_ble_eq_true (by kernel_rfl)) live [] (by
  rintro ⟨a0,a1,a2,_⟩ r h
  exact ⟨N,2,((run N _ a0 a1 a2).trans rfl).trans h⟩)
end impl_Node_upToDate
namespace impl_worker_send
noncomputable def code:Code:=Tryz.f95.body.getD .skip
abbrev live:Live:=[]
noncomputable def G (N:Nat):Ctx E:=gam []
theorem run (N:Nat) (o0:Orc E R) (a0:worker) (a1:Message):runF T (G N) live [] Tryz.f95 code (sp N) o0 (a0,a1,())=m N a0 a1:=by kernel_rfl
theorem G_ok (N:Nat):GamOK Tryz.prog (G N):=gam_ok (trivial)
theorem snd (N:Nat):Sound Tryz.prog E 95 (sp N):=
 Mir.sound T_OK (G_ok N) mixed Tryz.func95 (c:=code) (by kernel_rfl) (by kernel_rfl) (sp N) (Nat.le_of_ble_eq_true (by kernel_rfl)) live [] (by
  rintro ⟨a0,a1,_⟩ r h
  exact ⟨N,2,((run N _ a0 a1).trans rfl).trans h⟩)
end impl_worker_send
namespace impl_worker_vote
noncomputable def code:Code:=Tryz.f80.body.getD .skip
abbrev live:Live:=[]
noncomputable def G (N:Nat):Ctx E:=gam [(94,[],impl_Node_upToDate.sp N),(95,[],impl_worker_send.sp N)]
theorem run (N:Nat) (o0:Orc E R) (a0:worker) (a1:Message):runF T (G N) live [] Tryz.f80 code (sp N) o0 (a0,a1,())=m N a0 a1:=by kernel_rfl
theorem G_ok (N:Nat):GamOK Tryz.prog (G N):=gam_ok (⟨impl_Node_upToDate.snd N,impl_worker_send.snd N,trivial⟩)
theorem snd (N:Nat):Sound Tryz.prog E 80 (sp N):=
 Mir.sound T_OK (G_ok N) mixed Tryz.func80 (c:=code) (by kernel_rfl) (by kernel_rfl) (sp N) (Nat.le_of_ble_eq_true (by kernel_rfl)) live [] (by
  rintro ⟨a0,a1,_⟩ r h
  exact ⟨N,2,((run N _ a0 a1).trans rfl).trans h⟩)
end impl_worker_vote
namespace cmp_isNaN_int
noncomputable def code:Code:=Tryz.f112.body.getD .skip
abbrev live:Live:=[]
noncomputable def G (N:Nat):Ctx E:=gam []
theorem run (N:Nat) (o0:Orc E R) (a0:Int):runF T (G N) live [] Tryz.f112 code (sp N) o0 (a0,())=m N a0:=by kernel_rfl
theorem G_ok (N:Nat):GamOK Tryz.prog (G N):=gam_ok (trivial)
theorem snd (N:Nat):Sound Tryz.prog E 112 (sp N):=
 Mir.sound T_OK (G_ok N) mixed Tryz.func112 (c:=code) (by kernel_rfl) (by kernel_rfl) (sp N) (Nat.le_of_ble_eq_true (by kernel_rfl)) live [] (by
  rintro ⟨a0,_⟩ r h
  exact ⟨N,2,((run N _ a0).trans rfl).trans h⟩)
end cmp_isNaN_int
namespace cmp_Less_int
noncomputable def code:Code:=Tryz.f105.body.getD .skip
abbrev live:Live:=[]
noncomputable def G (N:Nat):Ctx E:=gam [(112,[],cmp_isNaN_int.sp N)]
theorem run (N:Nat) (o0:Orc E R) (a0:Int) (a1:Int):runF T (G N) live [] Tryz.f105 code (sp N) o0 (a0,a1,())=m N a0 a1:=by kernel_rfl
theorem G_ok (N:Nat):GamOK Tryz.prog (G N):=gam_ok (⟨cmp_isNaN_int.snd N,trivial⟩)
theorem snd (N:Nat):Sound Tryz.prog E 105 (sp N):=
 Mir.sound T_OK (G_ok N) mixed Tryz.func105 (c:=code) (by kernel_rfl) (by kernel_rfl) (sp N) (Nat.le_of_ble_eq_true (by kernel_rfl)) live [] (by
  rintro ⟨a0,a1,_⟩ r h
  exact ⟨N,2,((run N _ a0 a1).trans rfl).trans h⟩)
end cmp_Less_int
namespace slices_isNaN_int
noncomputable def code:Code:=Tryz.f106.body.getD .skip
abbrev live:Live:=[]
noncomputable def G (N:Nat):Ctx E:=gam []
theorem run (N:Nat) (o0:Orc E R) (a0:Int):runF T (G N) live [] Tryz.f106 code (sp N) o0 (a0,())=m N a0:=by kernel_rfl
theorem G_ok (N:Nat):GamOK Tryz.prog (G N):=gam_ok (trivial)
theorem snd (N:Nat):Sound Tryz.prog E 106 (sp N):=
 Mir.sound T_OK (G_ok N) mixed Tryz.func106 (c:=code) (by kernel_rfl) (by kernel_rfl) (sp N) (Nat.le_of_ble_eq_true (by kernel_rfl)) live [] (by
  rintro ⟨a0,_⟩ r h
  exact ⟨N,2,((run N _ a0).trans rfl).trans h⟩)
end slices_isNaN_int
namespace slices_BinarySearch_int_int
noncomputable def code:Code:=Tryz.f96.body.getD .skip
abbrev live:Live:=[(3,[0,1,6,7,8])]
noncomputable def G (N:Nat):Ctx E:=gam [(105,[],cmp_Less_int.sp N),(106,[],slices_isNaN_int.sp N)]
noncomputable def loop3:Code:=codeAt code [1,1,1,0,0]
noncomputable def body3:Code:=codeAt loop3 [0]
noncomputable def K3 (N:Nat) (o0:Orc E R):KT E R:=kAt T (G N) live [] o0 code [1,1,1,0,0] (kfin T Tryz.f96 (sp N))
noncomputable def St3 (a0:List Int) (a1:Int):(Int×Int×Int)→St E
 | (v2,v3,v4)=>{ ρ:=[(0,.c (.at (.ro 3 (.int .i64) a0))),(1,.c (.at (.int .i64 a1))),(6,.c (.at (.int .i64 v2))),(7,.c (.at (.int .i64 v3))),(8,.c (.at (.int .i64 v4)))],H:=[],nx:=0,n:=54,pin:=[] }
theorem run (N:Nat) (o0:Orc E R) (a0:List Int) (a1:Int):runF T (G N) live [] Tryz.f96 code (sp N) o0 (a0,a1,())=m0 N a0 a1 (fun a=>o0 loop3 (K3 N o0) (St3 a0 a1 a)):=by kernel_rfl
theorem body3_0 (N:Nat) (o0:Orc E R) (o1:Orc E R) (q1:St E→Option R) (a0:List Int) (a1:Int) (v2:Int) (v3:Int) (v4:Int):runA T (G N) live [] o1 body3 (St3 a0 a1 (v2,v3,v4)) (kloop [0,1,6,7,8] q1 (K3 N o0))=step3 N a0 a1 (fun a=>q1 (St3 a0 a1 a)) (v2,v3,v4):=by kernel_rfl
theorem lp3_eq (N:Nat) (a0:List Int) (a1:Int) (a:Int×Int×Int):(orc T (G N) live [] N 2) loop3 (K3 N (orc T (G N) live [] N 2)) (St3 a0 a1 a)=lp3 N a0 a1 a:=
 (orc_loop (b:=body3) (live:=[0,1,6,7,8]) (by kernel_rfl)).trans (iter_eq (St3 a0 a1) _ _ (fun q1 a=>by
  have hc:=congrFun (congrFun (rfl:(step3 N a0 a1)=(step3 N a0 a1)) (fun a=>q1 (St3 a0 a1 a))) a
  obtain ⟨u0,u1,u2⟩:=a
  exact (body3_0 N (orc T (G N) live [] N 2) (orc T (G N) live [] N 1) q1 a0 a1 u0 u1 u2).trans hc) N a)
theorem G_ok (N:Nat):GamOK Tryz.prog (G N):=gam_ok (⟨cmp_Less_int.snd N,slices_isNaN_int.snd N,trivial⟩)
theorem snd (N:Nat):Sound Tryz.prog E 96 (sp N):=
 Mir.sound T_OK (G_ok N) mixed Tryz.func96 (c:=code) (by kernel_rfl) (by kernel_rfl) (sp N) (Nat.le_of_ble_eq_true (by kernel_rfl)) live [] (by
  rintro ⟨a0,a1,_⟩ r h
  exact ⟨N,2,((run N _ a0 a1).trans (congrArg (m0 N a0 a1) (funext fun a=>lp3_eq N a0 a1 a))).trans h⟩)
end slices_BinarySearch_int_int
namespace slices_Insert_int
theorem snd (N:Nat):Sound Tryz.prog E 97 (sp N):=
 insert_sound (E:=E) (ty:=(.int .i64)) rfl (fun args W=>run_callFunc_go Tryz.func97 (c:=Tryz.f97.body.getD .skip) (by kernel_rfl) (by kernel_rfl) args W) Tryz.underlying30 (i:=Tryz.t3) (by kernel_rfl) (z:=Tryz.t3.zero.getD undef) (by kernel_rfl) (by kernel_rfl) (by kernel_rfl) (Nat.le_of_ble_eq_true (by kernel_rfl)) Go.Proofs.InsW97.ov Go.Proofs.InsW97.at_end Go.Proofs.InsW97.grow (by kernel_rfl) Go.Proofs.InsW97.shift
end slices_Insert_int
end Mir.Y
namespace Go.Proofs
open Go.RowKit Go.Shelf
attribute [local go_sem] Oper.semAt_some
namespace Mem
open Mir Mir.Y
def zOf (l:List Entry) (j:Nat):Ent:=⟨(l.getD j Entry.dz).Term,(l.getD j Entry.dz).Kind,(l.getD j Entry.dz).Data⟩
abbrev EntR (N:Nat):={ x:Ent // x.k=2→∃r,impl_readMembers.m N x.s=some r }
theorem _root_.Mir.CellsAt.int {m:Bool} {W:World} {g:Nat} {cur:Array Value} {e:Nat} (h:Mir.CellsAt m W g cur e) (hm:m=false):W.heap[g]? = some (.cells cur e (0,0)):=by
 obtain ⟨fz,h1,h2⟩:=h
 rcases h2 with rfl | ⟨h2,_⟩
 ·exact h1
 ·rw [hm] at h2;cases h2
theorem shA_slice {W:World} {F:Nat→Prop} {e:Nat} {t:Mir.Ty} {xs:List (Mir.Ty.D Mir.Y.E.S t)} {v:Value} {fp:List Nat} (h:Mir.ShA Mir.Y.E W F e t xs v fp):∃A n c,v = .slice A n c:=by
 rcases h with ⟨A,h,_⟩ | ⟨g,c,cur,d,h,_⟩
 ·exact ⟨_,_,_,h⟩
 ·exact ⟨_,_,_,h⟩
theorem shA_kept {W W':World} {F:Nat→Prop} {xs:List Int} {v:Value} {fp:List Nat} (h:Mir.ShA Mir.Y.E W F 3 (.int .i64) xs v fp) (hk:∀g∈fp,W'.heap[g]? = W.heap[g]?):Mir.ShA Mir.Y.E W' F 3 (.int .i64) xs v fp:=by
 rcases h with h | ⟨g,c,cur,d,k1,k2,k3,k4,k5,k6,k7,k8⟩
 ·exact .inl h
 ·exact .inr ⟨g,c,cur,d,k1,k2,k3,k4.congr (hk g (by rw [k2];simp)),k5,k6,k7,fun i hi=>by obtain ⟨u,hu,h⟩:=k8 i hi;exact ⟨u,hu,by cases d<;>exact h⟩⟩
theorem shA_lt {W:World} {F:Nat→Prop} {xs:List Int} {v:Value} {fp:List Nat} (h:Mir.ShA Mir.Y.E W F 3 (.int .i64) xs v fp):∀g∈fp,g<W.heap.size:=by
 rcases h with ⟨_,_,_,rfl⟩ | ⟨g,c,cur,d,k1,rfl,k3,k4,_⟩
 ·intro g hg;cases hg
 ·intro g' hg;simp at hg;subst hg;exact k4.lt
def Box3 (W:World) (B:Nat) (e:Ent):Prop:=W.heap[B]? = some (.cells #[.int .i64 e.t,.int .i64 e.k,.string e.s] 41 (0,0))
theorem Ents.mono {β:Type} {ev:β→Ent} {n₀ m₀:Nat} {W:World} {sv:Value} {len:Nat} {zs:Nat→β} (h:n₀≤m₀):Ents ev n₀ W sv len zs→Ents ev m₀ W sv len zs
 | .inl e=>.inl e
 | .inr ⟨b,off,cap,e,hb,hc⟩=>.inr ⟨b,off,cap,e,Nat.lt_of_lt_of_le hb h,hc⟩
theorem box3_own {β:Type} (B:Nat) (f:β→Ent):Own (fun s W=>Box3 W B (f s)):=fun s W W' row hs hg hr=>(grownBy_keeps_cells hg hr hs rfl).trans hs
def Ret (N:Nat) (b1:Nat) (F:Nat→Prop) (B:Nat) (r:List Int) (W:World):Prop:=
 ∃v fp,Boxed W b1 30 v∧Mir.ShA Mir.Y.E W F 3 (.int .i64) r v fp∧fp.Nodup∧∀b∈fp,B≤b
set_option maxRecDepth 100000 in
set_option maxHeartbeats 4000000 in
theorem members_in (N:Nat) (n:Nat) (hn:3≤n) (w:World) (F:Nat→Prop) (hF:∀b,F b→b<w.heap.size) (c0 c1 c2 c5 c6 c7 c8 c9 c10 c11 c12:Value) (A A4:Option Addr) (len cap l4 cap4:Nat) (hcs:c0.oneCell'=true)
  (start:List Int) (hreach:len≤1048576000) (zs:Nat→EntR N) (hE:Ents Subtype.val w.heap.size w (.slice A len cap) len zs) (hS:Mir.RoV Mir.Y.E w F (.slice 3 (.int .i64)) start (.slice A4 l4 cap4)) (R:List Int)
  (hR:(∃k q,k<len∧(zs (len - 1 - k)).1.k=2∧(∀j,j<k→(zs (len - 1 - j)).1.k≠2)∧impl_readMembers.m N (zs (len - 1 - k)).1.s=some (R,q))∨((∀j,j<len→(zs (len - 1 - j)).1.k≠2)∧slices_Clone_int_int.m N start=some R)) :
  CallsIn Fence.wide n Tryz.prog 85 #[.agg #[c0,c1,c2,.slice A len cap,.slice A4 l4 cap4,c5,c6,c7,c8,c9,c10,c11,c12]] w fun e W'=>∃v fp,e = .returned v∧Below w.heap.size w W'∧Mir.ShA Mir.Y.E W' F 3 (.int .i64) R v fp∧fp.Nodup∧∀b∈fp,w.heap.size≤b:=by
 have h1:1≤n:=by omega
 refine callsIn_of_wp_marks Tryz.func85 rfl trivial ?_ rfl
 simp only [Tryz.ntmps85,List.size_toArray,List.length_cons,List.length_nil,Nat.reduceAdd,Nat.reduceSub,Array.replicate_succ,Array.replicate_zero,List.push_toArray,List.append_toArray,List.nil_append,List.cons_append]
 gi_wp2_with (refine ⟨trivial,?_⟩;gi_at_call 101;refine (back_in Fence.wide (n - 1) trivial rfl _ _ _ _).mono ?_;rintro e w' ⟨rfl,rfl⟩)
 have bN:(((w.alloc (.cells #[c0,c1,c2,.slice A len cap,.slice A4 l4 cap4,c5,c6,c7,c8,c9,c10,c11,c12] 39)).alloc (.cells #[.slice none 0 0] 30)).alloc (.cells #[.slice A len cap] 37)).cell? ⟨w.heap.size,4,none⟩=some (.slice A4 l4 cap4):=by
  have hN:=(Below.heap_alloc ((w.alloc (.cells #[c0,c1,c2,.slice A len cap,.slice A4 l4 cap4,c5,c6,c7,c8,c9,c10,c11,c12] 39)).alloc (.cells #[.slice none 0 0] 30)) (.cells #[.slice A len cap] 37) w.heap.size (by simp;omega)).trans ((Below.heap_alloc (w.alloc (.cells #[c0,c1,c2,.slice A len cap,.slice A4 l4 cap4,c5,c6,c7,c8,c9,c10,c11,c12] 39)) (.cells #[.slice none 0 0] 30) w.heap.size (by simp)).trans (World.alloc_heap_new w _))
  simp [World.cell?,hN]
 have bR:=(Boxed.new (w.alloc (.cells #[c0,c1,c2,.slice A len cap,.slice A4 l4 cap4,c5,c6,c7,c8,c9,c10,c11,c12] 39)) 30 (.slice none 0 0)).alloc (.cells #[.slice A len cap] 37)
 have bB:=Boxed.new ((w.alloc (.cells #[c0,c1,c2,.slice A len cap,.slice A4 l4 cap4,c5,c6,c7,c8,c9,c10,c11,c12] 39)).alloc (.cells #[.slice none 0 0] 30)) 37 (.slice A len cap)
 simp only [World.size_alloc] at bR bB
 have hB0:Below w.heap.size w (((w.alloc (.cells #[c0,c1,c2,.slice A len cap,.slice A4 l4 cap4,c5,c6,c7,c8,c9,c10,c11,c12] 39)).alloc (.cells #[.slice none 0 0] 30)).alloc (.cells #[.slice A len cap] 37)):=(((Below.refl _ w).alloc (Nat.le_refl _) _).alloc (by simp) _).alloc (by simp;omega) _
 have hsz:(((w.alloc (.cells #[c0,c1,c2,.slice A len cap,.slice A4 l4 cap4,c5,c6,c7,c8,c9,c10,c11,c12] 39)).alloc (.cells #[.slice none 0 0] 30)).alloc (.cells #[.slice A len cap] 37)).heap.size=w.heap.size+3:=by simp
 obtain ⟨W0,hW0⟩:∃W0,(((w.alloc (.cells #[c0,c1,c2,.slice A len cap,.slice A4 l4 cap4,c5,c6,c7,c8,c9,c10,c11,c12] 39)).alloc (.cells #[.slice none 0 0] 30)).alloc (.cells #[.slice A len cap] 37))=W0:=⟨_,rfl⟩
 rw [hW0] at bN bR bB hB0 hsz ⊢
 clear hW0
 have hretOwn:∀(r:List Int) (v:Value) (fp:List Nat),Own (fun (_:Unit) W=>Boxed W (w.heap.size+1) 30 v∧Mir.ShA Mir.Y.E W F 3 (.int .i64) r v fp):=by
  rintro r v fp s X Y row ⟨h1,h2⟩ hg hr
  refine ⟨boxed_own _ 30 (fun (_:Unit)=>v) () X Y row h1 hg hr,?_⟩
  rcases h2 with h2 | ⟨g,c,cur,d,k1,k2,k3,k4,k5,k6,k7,k8⟩
  ·exact .inl h2
  ·have k4':=k4.int rfl
   refine .inr ⟨g,c,cur,d,k1,k2,k3,k4.congr (grownBy_keeps_cells hg hr k4' rfl),k5,k6,k7,fun i hi=>?_⟩
   obtain ⟨u,hu,h⟩:=k8 i hi
   exact ⟨u,hu,by cases d<;>exact h⟩
 have hread:∀(x:EntR N) (W:World),w.heap.size≤W.heap.size→(x.1.k==2)=true→Calls Tryz.prog 75 #[.string x.1.s] W fun e W'=>∃(A':Option Addr) (n' c':Nat) (r:List Int×Bool) (fp:List Nat),e = .returned (.tuple #[.slice A' n' c',.bool r.2])∧impl_readMembers.m N x.1.s=some r∧Below W.heap.size W W'∧Mir.ShA Mir.Y.E W' F 3 (.int .i64) r.1 (.slice A' n' c') fp∧fp.Nodup∧∀b∈fp,W.heap.size≤b:=by
  intro x W hW hx
  obtain ⟨r,hr⟩:=x.2 (by simpa using hx)
  refine ((impl_readMembers.snd N).2 W F (x.1.s,()) r [.string x.1.s] [] hr ⟨_,[],[],[],rfl,rfl,⟨⟨0,rfl⟩,rfl⟩,rfl,rfl⟩ List.nodup_nil (fun b h=>by cases h) (fun b hb=>Nat.lt_of_lt_of_le (hF b hb) hW)).mono ?_
  rintro e W' ⟨v,rfl,hl⟩
  obtain ⟨F',vs,fpR,fpO,rfl,hFF,hF',hres,hout,hnd,hfree⟩:=hl.ex
  obtain ⟨v1,q1,f1,g1,rfl,rfl,ho1,v2,q2,f2,g2,rfl,rfl,ho2,rfl,rfl⟩:=hres
  obtain ⟨rfl,rfl⟩:=ho2
  simp only [List.append_nil] at hnd hfree
  have ho1:Mir.ShA Mir.Y.E W' F' 3 (.int .i64) r.1 v1 f1:=ho1
  obtain ⟨A',n',c',rfl⟩:=shA_slice ho1
  refine ⟨A',n',c',r,f1,rfl,hr,⟨hl.os,hl.tape,hl.output,hl.size,fun k hk=>hl.block k hk (by simp)⟩,?_,(List.nodup_append.1 hnd).1,fun b hb=>?_⟩
  ·rcases ho1 with h | ⟨g,c,cur,d,k1,k2,k3,k4,k5,k6,k7,k8⟩
   ·exact .inl h
   ·exact .inr ⟨g,c,cur,d,k1,k2,k3,k4,k5,k6,k7,fun i hi=>by obtain ⟨u,hu,h⟩:=k8 i hi;exact ⟨u,hu,by cases d<;>exact h⟩⟩
  ·rcases (hfree b (List.mem_append_left _ hb)).2 with h | h
   ·cases h
   ·exact h
 have hclone:slices_Clone_int_int.m N start=some R→∀(W:World),w.heap.size≤W.heap.size→Below w.heap.size w W→Calls Tryz.prog 33 #[.slice A4 l4 cap4] W fun e W'=>∃(A':Option Addr) (n' c':Nat) (fp:List Nat),e = .returned (.slice A' n' c')∧Below W.heap.size W W'∧Mir.ShA Mir.Y.E W' F 3 (.int .i64) R (.slice A' n' c') fp∧fp.Nodup∧∀b∈fp,W.heap.size≤b:=by
  intro hr W hW hBW
  have hS':Mir.RoV Mir.Y.E W F (.slice 3 (.int .i64)) start (.slice A4 l4 cap4):=by
   obtain ⟨d,hd⟩:=hS
   exact ⟨d,Mir.RoA.more (fun _ h=>h) (fun b hb=>hBW.block b (hF b hb)) d d (Nat.le_refl _) _ _ _ hd⟩
  refine ((slices_Clone_int_int.snd N).2 W F (start,()) R [.slice A4 l4 cap4] [] hr ⟨_,[],[],[],rfl,rfl,⟨hS',rfl⟩,rfl,rfl⟩ List.nodup_nil (fun b h=>by cases h) (fun b hb=>Nat.lt_of_lt_of_le (hF b hb) hW)).mono ?_
  rintro e W' ⟨v,rfl,hl⟩
  obtain ⟨F',vs,fpR,fpO,rfl,hFF,hF',hres,hout,hnd,hfree⟩:=hl.ex
  obtain ⟨v1,q1,f1,g1,rfl,rfl,ho1,rfl,rfl⟩:=hres
  simp only [List.append_nil] at hnd hfree
  have ho1:Mir.ShA Mir.Y.E W' F' 3 (.int .i64) R v1 f1:=ho1
  obtain ⟨A',n',c',rfl⟩:=shA_slice ho1
  refine ⟨A',n',c',f1,rfl,⟨hl.os,hl.tape,hl.output,hl.size,fun k hk=>hl.block k hk (by simp)⟩,?_,(List.nodup_append.1 hnd).1,fun b hb=>?_⟩
  ·rcases ho1 with h | ⟨g,c,cur,d,k1,k2,k3,k4,k5,k6,k7,k8⟩
   ·exact .inl h
   ·exact .inr ⟨g,c,cur,d,k1,k2,k3,k4,k5,k6,k7,fun i hi=>by obtain ⟨u,hu,h⟩:=k8 i hi;exact ⟨u,hu,by cases d<;>exact h⟩⟩
  ·rcases (hfree b (List.mem_append_left _ hb)).2 with h | h
   ·cases h
   ·exact h
 refine wpIn_rangeFunc_ownH rfl h1 (gf:=111) (lb:=#[.pointer (some ⟨w.heap.size+1+1,0,none⟩)]) rfl trivial (enters_of Tryz.func111 (by kernel_rfl) rfl)
  (back_stops Subtype.val Fence.wide (n - 1) trivial rfl (by omega) (w.heap.size+1+1) W0.heap.size (.slice A len cap) len zs hreach W0 (by omega) (Nat.le_refl _) bB.cell ((hE.below hB0).mono (by omega))) belowK_t (belowK_b (by omega)) (Below.refl _ _) (fun _=>rfl)
  (fun pre W=>(∀p∈pre,p.2.1.k≠2)∧Below W0.heap.size W0 W)
  (fun c pre W=>(c = .ret∧∃(ini:List (Nat×EntR N)) (last:Nat×EntR N) (r:List Int×Bool) (v:Value) (fp:List Nat),pre=ini++[last]∧(∀p∈ini,p.2.1.k≠2)∧last.2.1.k=2∧impl_readMembers.m N last.2.1.s=some r∧fp.Nodup∧(∀b∈fp,w.heap.size≤b)∧(Boxed W (w.heap.size+1) 30 v∧Mir.ShA Mir.Y.E W F 3 (.int .i64) r.1 v fp))∧Below w.heap.size w W)
  (OwnFrom.and (fun s X Y row hs hg hr=>hs) (ownFrom_below (Nat.le_refl _) (Nat.le_refl _)))
  (fun c=>OwnFrom.and (Own.from (fun s X Y row hs hg hr=>by
   obtain ⟨hc,ini,last,r,v,fp,e1,e2,e3,e4,e5,e6,e7⟩:=hs
   exact ⟨hc,ini,last,r,v,fp,e1,e2,e3,e4,e5,e6,hretOwn r.1 v fp () X Y row e7 hg hr⟩) _) (ownFrom_below (Nat.le_refl _) (by omega)))
  ⟨by simp,Below.refl _ _⟩
  (fun x a' W=>∃Bx,w.heap.size+1<Bx∧Box3 W Bx x.2.1∧a' = { tmps:=#[.agg #[c0,c1,c2,.slice A len cap,.slice A4 l4 cap4,c5,c6,c7,c8,c9,c10,c11,c12],.pointer (some ⟨w.heap.size,0,none⟩),.pointer (some ⟨w.heap.size+1,0,none⟩),undef,.pointer (some ⟨Bx,0,none⟩),undef,undef,.pointer (some ⟨w.heap.size,3,none⟩),.slice A len cap,.func (.func 111) #[] #[.pointer (some ⟨w.heap.size+1+1,0,none⟩)],.int .i64 (x.1:Int),x.2.1.v,undef,undef,undef,undef,undef,undef,undef,undef,undef,undef,undef,undef,undef],defers:=[] })
  (fun x a' _ X Y row hs hg hr=>by obtain ⟨Bx,h1,h2,h3⟩:=hs;exact ⟨Bx,h1,box3_own Bx (fun (_:Unit)=>x.2.1) () X Y row h2 hg (fun r e=>(hr r e).2),h3⟩)
  ?assign ?body ?done ?stop
 case assign=>
  rintro l pre x W K ⟨hp,hB1⟩ hK
  simp only [Ent.v]
  gi_wp2
  exact hK _ _ ((KeepsOthers.alloc _ _).from _) ((Below.refl _ W).alloc hB1.size _) ⟨hp,hB1.alloc hB1.size _⟩ ⟨W.heap.size,by have:=hB1.size;omega,World.alloc_heap_new W _,rfl⟩
 case body=>
  rintro l pre x a' W hl ⟨rr,hr⟩ ⟨hp,hB1⟩ ⟨Bx,hBx,bX,rfl⟩ hlt
  have bR1:Boxed W (w.heap.size+1) 30 (.slice none 0 0):=(hB1.block (w.heap.size+1) (by omega)).trans bR
  have cR1:=bR1.cell
  have fR1:=bR1.frozen
  have cX0:W.cell? ⟨Bx,0,none⟩=some (.int .i64 x.2.1.t):=by simp [World.cell?,show W.heap[Bx]? = _ from bX]
  have cX1:W.cell? ⟨Bx,1,none⟩=some (.int .i64 x.2.1.k):=by simp [World.cell?,show W.heap[Bx]? = _ from bX]
  have cX2:W.cell? ⟨Bx,2,none⟩=some (.string x.2.1.s):=by simp [World.cell?,show W.heap[Bx]? = _ from bX]
  simp only [Ent.v]
  gi_wp2_with (refine ⟨trivial,fun h=>(by cases h),?_⟩;gi_at_call 75;refine (CallsIn.inRound l (callsIn_wide.2 (hread x.2 W (Nat.le_trans hB0.size hB1.size) (by assumption)))).mono ?_;rintro e W' ⟨A',n',c',r,fp,rfl,hr1,hBl,hsh,hnd,hfp⟩;have bR2:Boxed W' (w.heap.size+1) 30 (.slice none 0 0):=(hBl.block (w.heap.size+1) bR1.lt).trans bR1;have cR2:=bR2.cell;have fR2:=bR2.frozen)
  ·have hx2:(x.2.1.k==2)=true:=by assumption
   have hWlt:w.heap.size+1<W.heap.size:=bR1.lt
   refine ⟨(show KeepsFrom _ W W' from ⟨hBl.size,fun i o _ hi _=>(hBl.block i (Array.getElem?_eq_some_iff.1 hi).1).trans hi⟩).trans ((KeepsOthers.setCell _ _ _).from _),⟨rfl,pre,x,r,.slice A' n' c',fp,rfl,hp,by simpa using hx2,hr1,hnd,fun b hb=>by have:=hfp b hb;omega,bR2.set _,shA_kept hsh fun g hg=>?_⟩,((hB0.trans (hB1.mono (by omega))).trans (hBl.mono (by have:=hB1.size;omega))).setCell (p:=⟨w.heap.size+1,0,none⟩) (by simp) _⟩
   refine (grownBy_setCell' W' (w.heap.size+1) (.slice A' n' c')).block g (shA_lt hsh g hg) (fun e=>?_)
   cases e
   have:=hfp _ hg
   omega
  ·have hx2:(x.2.1.k==2)=false:=by assumption
   have hnot:∀p∈pre++[x],p.2.1.k≠2:=by
    intro p hp'
    rcases List.mem_append.1 hp' with h | h
    ·exact hp p h
    ·rw [List.mem_singleton] at h;subst h;simpa using hx2
   exact ⟨KeepsFrom.refl _ _,Below.refl _ _,hnot,hB1⟩
 case done=>
  rintro D ys W hD rfl ⟨hp,hB1⟩ hK
  have bR1:Boxed W (w.heap.size+1) 30 (.slice none 0 0):=(hB1.block (w.heap.size+1) (by omega)).trans bR
  have bN1:W.cell? ⟨w.heap.size,4,none⟩=some (.slice A4 l4 cap4):=(hB1.cell (p:=⟨w.heap.size,4,none⟩) (by show w.heap.size<W0.heap.size;omega)).trans bN
  have cR1:=bR1.cell
  have fR1:=bR1.frozen
  have hclone':=hclone ?_ W (Nat.le_trans hB0.size hB1.size) (hB0.trans (hB1.mono (by omega)))
  gi_wp2_with (refine ⟨trivial,?_⟩;gi_at_call 33;refine (callsIn_wide.2 hclone').mono ?_;rintro e W' ⟨A',n',c',fp,rfl,hBl,hsh,hnd,hfp⟩;have bR2:Boxed W' (w.heap.size+1) 30 (.slice none 0 0):=(hBl.block (w.heap.size+1) bR1.lt).trans bR1;have cR2:=bR2.cell;have fR2:=bR2.frozen)
  ·have hWlt:w.heap.size+1<W.heap.size:=bR1.lt
   have hKD:W'.heap[D]? = some (.deferred (some [])):=(hBl.block D (Array.getElem?_eq_some_iff.1 hK).1).trans hK
   have hK':=(KeepsOthers.setCell W' ⟨w.heap.size+1,0,none⟩ (.slice A' n' c')).same D _ hKD rfl
   have hb:=bR2.set (.slice A' n' c')
   have hsh':Mir.ShA Mir.Y.E (W'.setCell ⟨w.heap.size+1,0,none⟩ (.slice A' n' c')) F 3 (.int .i64) R (.slice A' n' c') fp:=shA_kept hsh fun g hg=>by
    refine (grownBy_setCell' W' (w.heap.size+1) (.slice A' n' c')).block g (shA_lt hsh g hg) (fun e=>?_)
    cases e
    have:=hfp _ hg
    omega
   have hfin:=hretOwn R (.slice A' n' c') fp () _ _ (some D) ⟨hb,hsh'⟩ (grownBy_putObj' _ D (.deferred none)) (fun r e=>by cases e;exact ⟨_,hK',rfl⟩)
   have hcell:=hfin.1.cell
   have hBel:Below w.heap.size w (W'.setCell ⟨w.heap.size+1,0,none⟩ (.slice A' n' c')):=((hB0.trans (hB1.mono (by omega))).trans (hBl.mono (by have:=hB1.size;omega))).setCell (p:=⟨w.heap.size+1,0,none⟩) (by simp) _
   refine ⟨by simp,.inl ⟨_,_,rfl,run_takeDeferred hK',?_⟩⟩
   refine ⟨.slice A' n' c',?_,.slice A' n' c',fp,rfl,hBel.trans (belowK_b (w:=w) (Nat.le_refl _) _ D _ _ (by omega) hK' rfl rfl),hfin.2,hnd,fun b hb=>by have:=hfp b hb;omega⟩
   simp [results,Tryz.f85,go_sem,hcell]
  ·rcases hR with ⟨k,q,k1,k2,_⟩ | ⟨_,h⟩
   ·exact absurd k2 (hp _ (downto_mem (fun j=>(j,zs j)) len k1))
   ·exact h
 case stop=>
  rintro D c pre W hD ⟨k,hk,hpre⟩ ⟨⟨rfl,ini,last,r,v,fp,e1,e2,e3,e4,e5,e6,e7,e8⟩,hB1⟩ hK
  obtain ⟨A',n',c',rfl⟩:=shA_slice e8
  have hRr:r.1=R:=by
   obtain ⟨k',rfl⟩:∃k',k=k'+1:=by
    cases k with
    | zero=>rw [e1] at hpre;simp [downto] at hpre
    | succ k'=>exact ⟨k',rfl⟩
   rw [e1] at hpre
   simp only [downto] at hpre
   obtain ⟨h1,h2⟩:=List.append_inj' hpre rfl
   have h2:last=(len - 1 - k',zs (len - 1 - k')):=by simpa using h2
   subst h1 h2
   rcases hR with ⟨kk,q,k1,k2,k3,k4⟩ | ⟨h,_⟩
   ·have hkk:kk=k':=by
     rcases Nat.lt_trichotomy kk k' with h | h | h
     ·exact absurd k2 (e2 _ (downto_mem (fun j=>(j,zs j)) len h))
     ·exact h
     ·exact absurd e3 (k3 k' h)
    subst hkk
    have:=e4.symm.trans k4
    cases this
    rfl
   ·exact absurd e3 (h k' (by omega))
  subst hRr
  gi_wp2
  have hfin:=hretOwn r.1 (.slice A' n' c') fp () _ _ (some D) ⟨e7,e8⟩ (grownBy_putObj' _ D (.deferred none)) (fun r e=>by cases e;exact ⟨_,hK,rfl⟩)
  have hcell:=hfin.1.cell
  refine ⟨by simp,.inl ⟨_,_,rfl,run_takeDeferred hK,?_⟩⟩
  refine ⟨.slice A' n' c',?_,.slice A' n' c',fp,rfl,hB1.trans (belowK_b (w:=w) (Nat.le_refl _) _ D _ _ (by omega) hK rfl rfl),hfin.2,e5,e6⟩
  simp [results,Tryz.f85,go_sem,hcell]
end Mem
end Go.Proofs
namespace Mir.Y
set_option linter.unusedVariables false
set_option maxRecDepth 10000
open Go Go.Proofs Mir
namespace impl_Node_members
open Go.Proofs.Mem
theorem agg_of {W:World} {F:Nat→Prop} {a:Node} {v:Value} (h:RoV E W F (.st 39) a v):∃(A A4 A6 A7 A8:Option Addr) (l6 l7 l8 c3 c4 c6 c7 c8 d:Nat),v = .agg #[.int .i64 a.Id,.int .i64 a.Term,.int .i64 a.Vote,.slice A a.Log.length c3,.slice A4 a.Start.length c4,.int .i64 a.Role,.slice A6 l6 c6,.slice A7 l7 c7,.slice A8 l8 c8,.int .i64 a.Commit,.int .i64 a.Elapsed,.int .i64 a.Wait,.bool a.Up]∧
  RoA E W F d (.slice 41 (.st 41)) a.Log (.slice A a.Log.length c3)∧RoA E W F d (.slice 3 (.int .i64)) a.Start (.slice A4 a.Start.length c4):=by
 obtain ⟨vs,d,rfl,h⟩:=h
 have h:RoL E (RoA E W F d) [.int .i64,.int .i64,.int .i64,.slice 41 (.st 41),.slice 3 (.int .i64),.int .i64,.slice 3 (.int .i64),.slice 3 (.int .i64),.slice 3 (.int .i64),.int .i64,.int .i64,.int .i64,.bool] (a.Id,a.Term,a.Vote,a.Log,a.Start,a.Role,a.Votes,a.Next,a.Match,a.Commit,a.Elapsed,a.Wait,a.Up,()) vs:=h
 cases d with
 | zero=>obtain ⟨v0,r0,rfl,h0,v1,r1,rfl,h1,v2,r2,rfl,h2,v3,r3,rfl,h3,_⟩:=h;exact h3.elim
 | succ d=>
  obtain ⟨v0,r0,rfl,h0,v1,r1,rfl,h1,v2,r2,rfl,h2,v3,r3,rfl,h3,v4,r4,rfl,h4,v5,r5,rfl,h5,v6,r6,rfl,h6,v7,r7,rfl,h7,v8,r8,rfl,h8,v9,r9,rfl,h9,v10,r10,rfl,h10,v11,r11,rfl,h11,v12,r12,rfl,h12,h13⟩:=h
  have e0:v0 = .int .i64 a.Id:=h0
  have e1:v1 = .int .i64 a.Term:=h1
  have e2:v2 = .int .i64 a.Vote:=h2
  have e5:v5 = .int .i64 a.Role:=h5
  have e9:v9 = .int .i64 a.Commit:=h9
  have e10:v10 = .int .i64 a.Elapsed:=h10
  have e11:v11 = .int .i64 a.Wait:=h11
  have e12:v12 = .bool a.Up:=h12
  have e13:r12=[]:=h13
  have k3:=h3
  have k4:=h4
  obtain ⟨A,c3,q3,_⟩:=h3
  obtain ⟨A4,c4,q4,_⟩:=h4
  obtain ⟨A6,c6,q6,_⟩:=h6
  obtain ⟨A7,c7,q7,_⟩:=h7
  obtain ⟨A8,c8,q8,_⟩:=h8
  have q3:v3 = .slice A a.Log.length c3:=q3
  have q4:v4 = .slice A4 a.Start.length c4:=q4
  subst e0 e1 e2 e5 e9 e10 e11 e12 e13 q3 q4 q6 q7 q8
  exact ⟨A,A4,A6,A7,A8,_,_,_,c3,c4,c6,c7,c8,d+1,rfl,k3,k4⟩
theorem find_spec (p:Entry→Bool):∀(l:List Entry),(∃k e,k<l.length∧l.reverse.find? p=some e∧l.getD (l.length - 1 - k) Entry.dz=e∧p e=true∧∀j,j<k→p (l.getD (l.length - 1 - j) Entry.dz)=false)∨(l.reverse.find? p=none∧∀j,j<l.length→p (l.getD (l.length - 1 - j) Entry.dz)=false):=by
 intro l
 have key:∀(r:List Entry),(∃k e,k<r.length∧r.find? p=some e∧r.getD k Entry.dz=e∧p e=true∧∀j,j<k→p (r.getD j Entry.dz)=false)∨(r.find? p=none∧∀j,j<r.length→p (r.getD j Entry.dz)=false):=by
  intro r
  induction r with
  | nil=>exact .inr ⟨rfl,fun j hj=>by cases hj⟩
  | cons x r ih=>
   cases hx:p x with
   | true=>exact .inl ⟨0,x,by simp,by simp [List.find?,hx],rfl,hx,fun j hj=>by cases hj⟩
   | false=>
    rcases ih with ⟨k,e,h1,h2,h3,h4,h5⟩ | ⟨h1,h2⟩
    ·refine .inl ⟨k+1,e,by simpa using h1,by simp [List.find?,hx,h2],by simpa using h3,h4,fun j hj=>?_⟩
     cases j with
     | zero=>exact hx
     | succ j=>simpa using h5 j (by omega)
    ·refine .inr ⟨by simp [List.find?,hx,h1],fun j hj=>?_⟩
     cases j with
     | zero=>exact hx
     | succ j=>simpa using h2 j (by simpa using hj)
 have hrev:∀j,j<l.length→l.reverse.getD j Entry.dz=l.getD (l.length - 1 - j) Entry.dz:=fun j hj=>by
  rw [List.getD_eq_getElem?_getD,List.getD_eq_getElem?_getD,List.getElem?_reverse hj]
 rcases key l.reverse with ⟨k,e,h1,h2,h3,h4,h5⟩ | ⟨h1,h2⟩
 ·rw [List.length_reverse] at h1
  exact .inl ⟨k,e,h1,h2,by rw [← hrev k h1];exact h3,h4,fun j hj=>by rw [← hrev j (by omega)];exact h5 j hj⟩
 ·exact .inr ⟨h1,fun j hj=>by rw [← hrev j hj];exact h2 j (by simpa using hj)⟩
theorem snd (N:Nat):Sound Tryz.prog E 85 (sp N):=by
 refine ⟨fun args W=>run_callFunc_go Tryz.func85 (c:=Tryz.f85.body.getD .skip) (by kernel_rfl) (by kernel_rfl) args W,?_⟩
 rintro W F ⟨a0,_⟩ r args fp hfn ⟨v,vs,f1,f2,rfl,rfl,⟨h0,rfl⟩,⟨rfl,rfl⟩⟩ _ _ hF
 have hfn:m N a0=some r:=hfn
 unfold m at hfn
 cases hc:decide (a0.Log.length≤1048576000)&&a0.Log.all (fun e=>!(e.Kind==2)||(impl_readMembers.m N e.Data).isSome) with
 | false=>rw [hc] at hfn;cases hfn
 | true=>
  rw [hc,cond_true] at hfn
  simp only [Bool.and_eq_true,decide_eq_true_eq,List.all_eq_true] at hc
  obtain ⟨A,A4,A6,A7,A8,l6,l7,l8,c3,c4,c6,c7,c8,d,rfl,hlog,hstart⟩:=agg_of h0
  have hz:∀j,(zOf a0.Log j).k=2→∃r,impl_readMembers.m N (zOf a0.Log j).s=some r:=by
   intro j hj
   by_cases hjl:j<a0.Log.length
   ·have hm:a0.Log.getD j Entry.dz∈a0.Log:=by
     rw [List.getD_eq_getElem?_getD,List.getElem?_eq_getElem hjl];exact List.getElem_mem hjl
    have:=hc.2 _ hm
    have hk:(a0.Log.getD j Entry.dz).Kind=2:=hj
    rw [hk] at this
    have h2:(impl_readMembers.m N (a0.Log.getD j Entry.dz).Data).isSome=true:=by simpa using this
    exact Option.isSome_iff_exists.1 h2
   ·have:(zOf a0.Log j).k=0:=by
     unfold zOf
     rw [List.getD_eq_getElem?_getD,List.getElem?_eq_none (by omega)]
     rfl
    rw [this] at hj;cases hj
  have hE:Ents Subtype.val W.heap.size W (.slice A a0.Log.length c3) a0.Log.length (fun j=>(⟨zOf a0.Log j,hz j⟩:EntR N)):=by
   cases d with
   | zero=>exact hlog.elim
   | succ d=>
    obtain ⟨A',c',hv,hlc,h⟩:=hlog
    cases hv
    by_cases hl:0<a0.Log.length
    ·obtain ⟨ad,rfl,hFa,hel⟩:=h hl
     have cells:∀j,(hj:j<a0.Log.length)→W.cell? (ad.add (j * 3+0))=some (.int .i64 (zOf a0.Log j).t)∧W.cell? (ad.add (j * 3+1))=some (.int .i64 (zOf a0.Log j).k)∧W.cell? (ad.add (j * 3+2))=some (.string (zOf a0.Log j).s):=by
      intro j hj
      obtain ⟨us,hr,hcells⟩:=hel j hj
      have hr:RoL E (RoA E W F d) [.int .i64,.int .i64,.str] (a0.Log[j].Term,a0.Log[j].Kind,a0.Log[j].Data,()) us:=hr
      obtain ⟨u0,q0,rfl,k0,u1,q1,rfl,k1,u2,q2,rfl,k2,k3⟩:=hr
      have e0:u0 = .int .i64 a0.Log[j].Term:=by cases d<;>exact k0
      have e1:u1 = .int .i64 a0.Log[j].Kind:=by cases d<;>exact k1
      have e2:u2 = .string a0.Log[j].Data:=by cases d<;>exact k2
      have e3:q2=[]:=k3
      subst e0 e1 e2 e3
      have hg:a0.Log.getD j Entry.dz=a0.Log[j]:=by rw [List.getD_eq_getElem?_getD,List.getElem?_eq_getElem hj];rfl
      unfold zOf
      rw [hg]
      exact ⟨hcells 0 (by simp),hcells 1 (by simp),hcells 2 (by simp)⟩
     have hspot:ad.spot=none:=by
      have h0:=(cells 0 hl).1
      have e:ad.add (0 * 3+0)=ad:=rfl
      rw [e] at h0
      unfold World.cell? at h0
      split at h0
      ·cases hs:ad.spot with
       | none=>rfl
       | some s=>rw [hs] at h0;simp at h0
      ·cases h0
     obtain ⟨b,off,sp⟩:=ad
     have hspot:sp=none:=hspot
     subst hspot
     refine .inr ⟨b,off,c3,rfl,hF b hFa,fun j hj=>?_⟩
     obtain ⟨q0,q1,q2⟩:=cells j hj
     rw [add_lit] at q0 q1 q2
     exact ⟨q0,q1,q2⟩
    ·exact .inl ⟨A,c3,by rw [show a0.Log.length=0 by omega],by omega⟩
  have hR:(∃k q,k<a0.Log.length∧(zOf a0.Log (a0.Log.length - 1 - k)).k=2∧(∀j,j<k→(zOf a0.Log (a0.Log.length - 1 - j)).k≠2)∧impl_readMembers.m N (zOf a0.Log (a0.Log.length - 1 - k)).s=some (r,q))∨((∀j,j<a0.Log.length→(zOf a0.Log (a0.Log.length - 1 - j)).k≠2)∧slices_Clone_int_int.m N a0.Start=some r):=by
   rcases find_spec (fun e=>e.Kind==2) a0.Log with ⟨k,e,h1,h2,h3,h4,h5⟩ | ⟨h1,h2⟩
   ·rw [h2] at hfn
    obtain ⟨q,hq1,hq2⟩:=Option.map_eq_some_iff.1 hfn
    refine .inl ⟨k,q.2,h1,?_,fun j hj=>?_,?_⟩
    ·show (a0.Log.getD (a0.Log.length - 1 - k) Entry.dz).Kind=2
     rw [h3];simpa using h4
    ·have:=h5 j hj
     show (a0.Log.getD (a0.Log.length - 1 - j) Entry.dz).Kind≠2
     simpa using this
    ·show impl_readMembers.m N (a0.Log.getD (a0.Log.length - 1 - k) Entry.dz).Data=_
     rw [h3,hq1,← hq2]
   ·rw [h1] at hfn
    refine .inr ⟨fun j hj=>?_,hfn⟩
    show (a0.Log.getD (a0.Log.length - 1 - j) Entry.dz).Kind≠2
    simpa using h2 j hj
  have hcall:=members_in N 3 (Nat.le_refl _) W F hF (.int .i64 a0.Id) (.int .i64 a0.Term) (.int .i64 a0.Vote) (.int .i64 a0.Role) (.slice A6 l6 c6) (.slice A7 l7 c7) (.slice A8 l8 c8) (.int .i64 a0.Commit) (.int .i64 a0.Elapsed) (.int .i64 a0.Wait) (.bool a0.Up) A A4 a0.Log.length c3 a0.Start.length c4 rfl a0.Start hc.1 _ hE ⟨d,hstart⟩ r hR
  refine (callsIn_wide.1 hcall).mono ?_
  rintro e W' ⟨v,fp,rfl,hB,hsh,hnd,hfp⟩
  refine ⟨v,rfl,⟨F,[v],fp,[],rfl,fun _ h=>h,fun b h=>⟨.inl h,Nat.lt_of_lt_of_le (hF b h) hB.size⟩,⟨v,[],fp,[],rfl,by simp,hsh,rfl,rfl⟩,⟨_,[],[],[],rfl,rfl,rfl,rfl,rfl⟩,by simpa using hnd,fun b hb=>?_⟩,hB.os,hB.tape,hB.output,hB.size,fun b hb _=>hB.block b hb⟩
  rw [List.append_nil] at hb
  have:=hfp b hb
  exact ⟨fun h=>by have:=hF b h;omega,.inr this⟩
end impl_Node_members
namespace slices_Index_int_int
noncomputable def code:Code:=Tryz.f100.body.getD .skip
abbrev live:Live:=[(2,[0,1,7,8])]
noncomputable def G (N:Nat):Ctx E:=gam []
noncomputable def loop2:Code:=codeAt code [1,0,1,0]
noncomputable def body2:Code:=codeAt loop2 [0]
noncomputable def K2 (N:Nat) (o0:Orc E R):KT E R:=kAt T (G N) live [] o0 code [1,0,1,0] (kfin T Tryz.f100 (sp N))
noncomputable def St2 (a0:List Int) (a1:Int):(Int×Int)→St E
 | (v2,v3)=>{ ρ:=[(0,.c (.at (.ro 3 (.int .i64) a0))),(1,.c (.at (.int .i64 a1))),(7,.c (.at (.int .i64 v2))),(8,.c (.at (.int .i64 v3)))],H:=[],nx:=0,n:=19,pin:=[] }
theorem run (N:Nat) (o0:Orc E R) (a0:List Int) (a1:Int):runF T (G N) live [] Tryz.f100 code (sp N) o0 (a0,a1,())=m0 N a0 a1 (fun a=>o0 loop2 (K2 N o0) (St2 a0 a1 a)):=by kernel_rfl
theorem body2_0 (N:Nat) (o0:Orc E R) (o1:Orc E R) (q1:St E→Option R) (a0:List Int) (a1:Int) (v2:Int) (v3:Int):runA T (G N) live [] o1 body2 (St2 a0 a1 (v2,v3)) (kloop [0,1,7,8] q1 (K2 N o0))=step2 N a0 a1 (fun a=>q1 (St2 a0 a1 a)) (v2,v3):=by kernel_rfl
theorem lp2_eq (N:Nat) (a0:List Int) (a1:Int) (a:Int×Int):(orc T (G N) live [] N 2) loop2 (K2 N (orc T (G N) live [] N 2)) (St2 a0 a1 a)=lp2 N a0 a1 a:=
 (orc_loop (b:=body2) (live:=[0,1,7,8]) (by kernel_rfl)).trans (iter_eq (St2 a0 a1) _ _ (fun q1 a=>by
  have hc:=congrFun (congrFun (rfl:(step2 N a0 a1)=(step2 N a0 a1)) (fun a=>q1 (St2 a0 a1 a))) a
  obtain ⟨u0,u1⟩:=a
  exact (body2_0 N (orc T (G N) live [] N 2) (orc T (G N) live [] N 1) q1 a0 a1 u0 u1).trans hc) N a)
theorem G_ok (N:Nat):GamOK Tryz.prog (G N):=gam_ok (trivial)
theorem snd (N:Nat):Sound Tryz.prog E 100 (sp N):=
 Mir.sound T_OK (G_ok N) mixed Tryz.func100 (c:=code) (by kernel_rfl) (by kernel_rfl) (sp N) (Nat.le_of_ble_eq_true (by kernel_rfl)) live [] (by
  rintro ⟨a0,a1,_⟩ r h
  exact ⟨N,2,((run N _ a0 a1).trans (congrArg (m0 N a0 a1) (funext fun a=>lp2_eq N a0 a1 a))).trans h⟩)
end slices_Index_int_int
namespace slices_Contains_int_int
noncomputable def code:Code:=Tryz.f84.body.getD .skip
abbrev live:Live:=[]
noncomputable def G (N:Nat):Ctx E:=gam [(100,[],slices_Index_int_int.sp N)]
theorem run (N:Nat) (o0:Orc E R) (a0:List Int) (a1:Int):runF T (G N) live [] Tryz.f84 code (sp N) o0 (a0,a1,())=m N a0 a1:=by kernel_rfl
theorem G_ok (N:Nat):GamOK Tryz.prog (G N):=gam_ok (⟨slices_Index_int_int.snd N,trivial⟩)
theorem snd (N:Nat):Sound Tryz.prog E 84 (sp N):=
 Mir.sound T_OK (G_ok N) mixed Tryz.func84 (c:=code) (by kernel_rfl) (by kernel_rfl) (sp N) (Nat.le_of_ble_eq_true (by kernel_rfl)) live [] (by
  rintro ⟨a0,a1,_⟩ r h
  exact ⟨N,2,((run N _ a0 a1).trans rfl).trans h⟩)
end slices_Contains_int_int
namespace impl_worker_leadIf_1
noncomputable def code:Code:=Tryz.f109.body.getD .skip
abbrev live:Live:=[]
noncomputable def G (N:Nat):Ctx E:=gam [(84,[],slices_Contains_int_int.sp N)]
theorem run (N:Nat) (o0:Orc E R) (a0:Int) (a1:worker):runF T (G N) live [] Tryz.f109 code (sp N) o0 (a0,a1,())=m N a0 a1:=by kernel_rfl
theorem G_ok (N:Nat):GamOK Tryz.prog (G N):=gam_ok (⟨slices_Contains_int_int.snd N,trivial⟩)
theorem snd (N:Nat):Sound Tryz.prog E 109 (sp N):=
 Mir.sound T_OK (G_ok N) mixed Tryz.func109 (c:=code) (by kernel_rfl) (by kernel_rfl) (sp N) (Nat.le_of_ble_eq_true (by kernel_rfl)) live [] (by
  rintro ⟨a0,a1,_⟩ r h
  exact ⟨N,2,((run N _ a0 a1).trans rfl).trans h⟩)
end impl_worker_leadIf_1
namespace impl_worker_isMost__impl_worker_leadIf_1_
noncomputable def code:Code:=Tryz.f88.body.getD .skip
abbrev live:Live:=[(3,[1,5,6,14,15,16])]
noncomputable def G (N:Nat):Ctx E:=gam [(85,[],impl_Node_members.sp N),(109,[],impl_worker_leadIf_1.sp N)]
noncomputable def loop3:Code:=codeAt code [1,1,0,1,0]
noncomputable def body3:Code:=codeAt loop3 [0]
noncomputable def K3 (N:Nat) (o0:Orc E R):KT E R:=kAt T (G N) live [] o0 code [1,1,0,1,0] (kfin T Tryz.f88 (sp N))
noncomputable def St3 (a0:worker) (a1_0:worker):(Int×Int×Int×(List Int))→St E
 | (v0,v1,v2,v17)=>{ ρ:=[(1,.clo 109 [.at (.ptr 0 0)]),(5,.c (.at (.own 2))),(6,.c (.at (.int .i64 v0))),(14,.c (.at (.own 2))),(15,.c (.at (.int .i64 v1))),(16,.c (.at (.int .i64 v2)))],H:=[(0,.rbx [.ptr 1 0]),(1,.rbx [.int .i64 a1_0.Node.Id,.int .i64 a1_0.Node.Term,.int .i64 a1_0.Node.Vote,.ro 41 (.st 41) a1_0.Node.Log,.ro 3 (.int .i64) a1_0.Node.Start,.int .i64 a1_0.Node.Role,.ro 3 (.int .i64) a1_0.Node.Votes,.ro 3 (.int .i64) a1_0.Node.Next,.ro 3 (.int .i64) a1_0.Node.Match,.int .i64 a1_0.Node.Commit,.int .i64 a1_0.Node.Elapsed,.int .i64 a1_0.Node.Wait,.bool a1_0.Node.Up,.ro 74 (.st 74) a1_0.sent]),(2,.row 3 (.int .i64) v17 false)],nx:=3,n:=31,pin:=[] }
theorem run (N:Nat) (o0:Orc E R) (a0:worker) (a1_0:worker):runF T (G N) live [] Tryz.f88 code (sp N) o0 (a0,(a1_0,()),())=m0 N a0 a1_0 (fun a=>o0 loop3 (K3 N o0) (St3 a0 a1_0 a)):=by kernel_rfl
theorem body3_0 (N:Nat) (o0:Orc E R) (o1:Orc E R) (q1:St E→Option R) (a0:worker) (a1_0:worker) (v0:Int) (v1:Int) (v2:Int) (v17:List Int):runA T (G N) live [] o1 body3 (St3 a0 a1_0 (v0,v1,v2,v17)) (kloop [1,5,6,14,15,16] q1 (K3 N o0))=step3 N a0 a1_0 (fun a=>q1 (St3 a0 a1_0 a)) (v0,v1,v2,v17):=by kernel_rfl
theorem lp3_eq (N:Nat) (a0:worker) (a1_0:worker) (a:Int×Int×Int×(List Int)):(orc T (G N) live [] N 2) loop3 (K3 N (orc T (G N) live [] N 2)) (St3 a0 a1_0 a)=lp3 N a0 a1_0 a:=
 (orc_loop (b:=body3) (live:=[1,5,6,14,15,16]) (by kernel_rfl)).trans (iter_eq (St3 a0 a1_0) _ _ (fun q1 a=>by
  have hc:=congrFun (congrFun (rfl:(step3 N a0 a1_0)=(step3 N a0 a1_0)) (fun a=>q1 (St3 a0 a1_0 a))) a
  obtain ⟨u0,u1,u2,u3⟩:=a
  exact (body3_0 N (orc T (G N) live [] N 2) (orc T (G N) live [] N 1) q1 a0 a1_0 u0 u1 u2 u3).trans hc) N a)
theorem G_ok (N:Nat):GamOK Tryz.prog (G N):=gam_ok (⟨impl_Node_members.snd N,impl_worker_leadIf_1.snd N,trivial⟩)
theorem snd (N:Nat):Sound Tryz.prog E 88 (sp N):=
 Mir.sound T_OK (G_ok N) mixed Tryz.func88 (c:=code) (by kernel_rfl) (by kernel_rfl) (sp N) (Nat.le_of_ble_eq_true (by kernel_rfl)) live [] (by
  rintro ⟨a0,⟨a1_0,_⟩,_⟩ r h
  exact ⟨N,2,((run N _ a0 a1_0).trans (congrArg (m0 N a0 a1_0) (funext fun a=>lp3_eq N a0 a1_0 a))).trans h⟩)
end impl_worker_isMost__impl_worker_leadIf_1_
namespace impl_worker_commit_1
noncomputable def code:Code:=Tryz.f89.body.getD .skip
abbrev live:Live:=[]
noncomputable def G (N:Nat):Ctx E:=gam []
theorem run (N:Nat) (o0:Orc E R) (a0:Int) (a1:worker) (a2:Int):runF T (G N) live [] Tryz.f89 code (sp N) o0 (a0,a1,a2,())=m N a0 a1 a2:=by kernel_rfl
theorem G_ok (N:Nat):GamOK Tryz.prog (G N):=gam_ok (trivial)
theorem snd (N:Nat):Sound Tryz.prog E 89 (sp N):=
 Mir.sound T_OK (G_ok N) mixed Tryz.func89 (c:=code) (by kernel_rfl) (by kernel_rfl) (sp N) (Nat.le_of_ble_eq_true (by kernel_rfl)) live [] (by
  rintro ⟨a0,a1,a2,_⟩ r h
  exact ⟨N,2,((run N _ a0 a1 a2).trans rfl).trans h⟩)
end impl_worker_commit_1
namespace impl_worker_isMost__impl_worker_commit_1_
noncomputable def code:Code:=Tryz.f88.body.getD .skip
abbrev live:Live:=[(3,[1,5,6,14,15,16])]
noncomputable def G (N:Nat):Ctx E:=gam [(85,[],impl_Node_members.sp N),(89,[],impl_worker_commit_1.sp N)]
noncomputable def loop3:Code:=codeAt code [1,1,0,1,0]
noncomputable def body3:Code:=codeAt loop3 [0]
noncomputable def K3 (N:Nat) (o0:Orc E R):KT E R:=kAt T (G N) live [] o0 code [1,1,0,1,0] (kfin T Tryz.f88 (sp N))
noncomputable def St3 (a0:worker) (a1_0:worker) (a1_1:Int):(Int×Int×Int×(List Int))→St E
 | (v0,v1,v2,v18)=>{ ρ:=[(1,.clo 89 [.at (.ptr 0 0),.at (.ptr 2 0)]),(5,.c (.at (.own 3))),(6,.c (.at (.int .i64 v0))),(14,.c (.at (.own 3))),(15,.c (.at (.int .i64 v1))),(16,.c (.at (.int .i64 v2)))],H:=[(0,.rbx [.ptr 1 0]),(1,.rbx [.int .i64 a1_0.Node.Id,.int .i64 a1_0.Node.Term,.int .i64 a1_0.Node.Vote,.ro 41 (.st 41) a1_0.Node.Log,.ro 3 (.int .i64) a1_0.Node.Start,.int .i64 a1_0.Node.Role,.ro 3 (.int .i64) a1_0.Node.Votes,.ro 3 (.int .i64) a1_0.Node.Next,.ro 3 (.int .i64) a1_0.Node.Match,.int .i64 a1_0.Node.Commit,.int .i64 a1_0.Node.Elapsed,.int .i64 a1_0.Node.Wait,.bool a1_0.Node.Up,.ro 74 (.st 74) a1_0.sent]),(2,.rbx [.int .i64 a1_1]),(3,.row 3 (.int .i64) v18 false)],nx:=4,n:=31,pin:=[] }
theorem run (N:Nat) (o0:Orc E R) (a0:worker) (a1_0:worker) (a1_1:Int):runF T (G N) live [] Tryz.f88 code (sp N) o0 (a0,(a1_0,a1_1,()),())=m0 N a0 a1_0 a1_1 (fun a=>o0 loop3 (K3 N o0) (St3 a0 a1_0 a1_1 a)):=by kernel_rfl
theorem body3_0 (N:Nat) (o0:Orc E R) (o1:Orc E R) (q1:St E→Option R) (a0:worker) (a1_0:worker) (a1_1:Int) (v0:Int) (v1:Int) (v2:Int) (v18:List Int):runA T (G N) live [] o1 body3 (St3 a0 a1_0 a1_1 (v0,v1,v2,v18)) (kloop [1,5,6,14,15,16] q1 (K3 N o0))=step3 N a0 a1_0 a1_1 (fun a=>q1 (St3 a0 a1_0 a1_1 a)) (v0,v1,v2,v18):=by kernel_rfl
theorem lp3_eq (N:Nat) (a0:worker) (a1_0:worker) (a1_1:Int) (a:Int×Int×Int×(List Int)):(orc T (G N) live [] N 2) loop3 (K3 N (orc T (G N) live [] N 2)) (St3 a0 a1_0 a1_1 a)=lp3 N a0 a1_0 a1_1 a:=
 (orc_loop (b:=body3) (live:=[1,5,6,14,15,16]) (by kernel_rfl)).trans (iter_eq (St3 a0 a1_0 a1_1) _ _ (fun q1 a=>by
  have hc:=congrFun (congrFun (rfl:(step3 N a0 a1_0 a1_1)=(step3 N a0 a1_0 a1_1)) (fun a=>q1 (St3 a0 a1_0 a1_1 a))) a
  obtain ⟨u0,u1,u2,u3⟩:=a
  exact (body3_0 N (orc T (G N) live [] N 2) (orc T (G N) live [] N 1) q1 a0 a1_0 a1_1 u0 u1 u2 u3).trans hc) N a)
theorem G_ok (N:Nat):GamOK Tryz.prog (G N):=gam_ok (⟨impl_Node_members.snd N,impl_worker_commit_1.snd N,trivial⟩)
theorem snd (N:Nat):Sound Tryz.prog E 88 (sp N):=
 Mir.sound T_OK (G_ok N) mixed Tryz.func88 (c:=code) (by kernel_rfl) (by kernel_rfl) (sp N) (Nat.le_of_ble_eq_true (by kernel_rfl)) live [] (by
  rintro ⟨a0,⟨a1_0,a1_1,_⟩,_⟩ r h
  exact ⟨N,2,((run N _ a0 a1_0 a1_1).trans (congrArg (m0 N a0 a1_0 a1_1) (funext fun a=>lp3_eq N a0 a1_0 a1_1 a))).trans h⟩)
end impl_worker_isMost__impl_worker_commit_1_
namespace impl_worker_commit
noncomputable def code:Code:=Tryz.f73.body.getD .skip
abbrev live:Live:=[(2,[0,1,2])]
noncomputable def G (N:Nat):Ctx E:=gam [(87,[],impl_Node_termAt.sp N),(88,[89],impl_worker_isMost__impl_worker_commit_1_.sp N)]
noncomputable def loop2:Code:=codeAt code [1,1,0]
noncomputable def body2:Code:=codeAt loop2 [0]
noncomputable def K2 (N:Nat) (o0:Orc E R):KT E R:=kAt T (G N) live [] o0 code [1,1,0] (kfin T Tryz.f73 (sp N))
noncomputable def St2 (a0:worker):Int→St E
 | v14=>{ ρ:=[(0,.c (.at (.ptr 0 0))),(1,.c (.at (.ptr 7 0))),(2,.c (.at (.ptr 8 0)))],H:=[(0,.box 119 [.int .i64 a0.Node.Id,.int .i64 a0.Node.Term,.int .i64 a0.Node.Vote,.own 1,.own 2,.int .i64 a0.Node.Role,.own 3,.own 4,.own 5,.int .i64 a0.Node.Commit,.int .i64 a0.Node.Elapsed,.int .i64 a0.Node.Wait,.bool a0.Node.Up,.own 6]),(1,.row 41 (.st 41) a0.Node.Log false),(2,.row 3 (.int .i64) a0.Node.Start false),(3,.row 3 (.int .i64) a0.Node.Votes false),(4,.row 3 (.int .i64) a0.Node.Next false),(5,.row 3 (.int .i64) a0.Node.Match false),(6,.row 74 (.st 74) a0.sent false),(7,.box 117 [.ptr 0 0]),(8,.box 3 [.int .i64 v14])],nx:=9,n:=41,pin:=[0] }
theorem run (N:Nat) (o0:Orc E R) (a0:worker):runF T (G N) live [] Tryz.f73 code (sp N) o0 (a0,())=m0 N a0 (fun a=>o0 loop2 (K2 N o0) (St2 a0 a)):=by kernel_rfl
theorem body2_0 (N:Nat) (o0:Orc E R) (o1:Orc E R) (q1:St E→Option R) (a0:worker) (v14:Int):runA T (G N) live [] o1 body2 (St2 a0 v14) (kloop [0,1,2] q1 (K2 N o0))=step2 N a0 (fun a=>q1 (St2 a0 a)) v14:=by kernel_rfl
theorem lp2_eq (N:Nat) (a0:worker) (a:Int):(orc T (G N) live [] N 2) loop2 (K2 N (orc T (G N) live [] N 2)) (St2 a0 a)=lp2 N a0 a:=
 (orc_loop (b:=body2) (live:=[0,1,2]) (by kernel_rfl)).trans (iter_eq (St2 a0) _ _ (fun q1 a=>by
  have hc:=congrFun (congrFun (rfl:(step2 N a0)=(step2 N a0)) (fun a=>q1 (St2 a0 a))) a
  exact (body2_0 N (orc T (G N) live [] N 2) (orc T (G N) live [] N 1) q1 a0 a).trans hc) N a)
theorem G_ok (N:Nat):GamOK Tryz.prog (G N):=gam_ok (⟨impl_Node_termAt.snd N,impl_worker_isMost__impl_worker_commit_1_.snd N,trivial⟩)
theorem snd (N:Nat):Sound Tryz.prog E 73 (sp N):=
 Mir.sound T_OK (G_ok N) mixed Tryz.func73 (c:=code) (by kernel_rfl) (by kernel_rfl) (sp N) (Nat.le_of_ble_eq_true (by kernel_rfl)) live [] (by
  rintro ⟨a0,_⟩ r h
  exact ⟨N,2,((run N _ a0).trans (congrArg (m0 N a0) (funext fun a=>lp2_eq N a0 a))).trans h⟩)
end impl_worker_commit
namespace impl_worker_others_1
noncomputable def code:Code:=Tryz.f103.body.getD .skip
abbrev live:Live:=[]
noncomputable def G (N:Nat):Ctx E:=gam []
theorem run (N:Nat) (o0:Orc E R) (a0:Int) (a1:worker):runF T (G N) live [] Tryz.f103 code (sp N) o0 (a0,a1,())=m N a0 a1:=by kernel_rfl
theorem G_ok (N:Nat):GamOK Tryz.prog (G N):=gam_ok (trivial)
theorem snd (N:Nat):Sound Tryz.prog E 103 (sp N):=
 Mir.sound T_OK (G_ok N) mixed Tryz.func103 (c:=code) (by kernel_rfl) (by kernel_rfl) (sp N) (Nat.le_of_ble_eq_true (by kernel_rfl)) live [] (by
  rintro ⟨a0,a1,_⟩ r h
  exact ⟨N,2,((run N _ a0 a1).trans rfl).trans h⟩)
end impl_worker_others_1
end Mir.Y
