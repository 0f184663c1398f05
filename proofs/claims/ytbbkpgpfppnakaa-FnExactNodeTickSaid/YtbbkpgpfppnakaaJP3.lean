/- The models are what the functions do. -/
import Derived.Test.YtbbkpgpfppnakaaJP2
namespace Mir.Y
set_option linter.unusedVariables false
set_option maxRecDepth 10000
open Go Go.Proofs Mir
namespace impl_worker_commit_1
noncomputable def code:Code:=Try.f86.body.getD .skip
abbrev live:Live:=[]
noncomputable def G (N:Nat):Ctx E:=gam []
theorem run (N:Nat) (o0:Orc E R) (a0:Int) (a1:worker) (a2:Int):runF T (G N) live [] Try.f86 code (sp N) o0 (a0,a1,a2,())=m N a0 a1 a2:=by kernel_rfl
theorem G_ok (N:Nat):GamOK Try.prog (G N):=gam_ok (trivial)
theorem snd (N:Nat):Sound Try.prog E 86 (sp N):=
 Mir.sound T_OK (G_ok N) mixed Try.func86 (c:=code) (by kernel_rfl) (by kernel_rfl) (sp N) (Nat.le_of_ble_eq_true (by kernel_rfl)) live [] (by
  rintro ⟨a0,a1,a2,_⟩ r h
  exact ⟨N,2,((run N _ a0 a1 a2).trans rfl).trans h⟩)
end impl_worker_commit_1
namespace impl_worker_isMost__impl_worker_commit_1_
noncomputable def code:Code:=Try.f80.body.getD .skip
abbrev live:Live:=[(3,[1,5,6,14,15,16])]
noncomputable def G (N:Nat):Ctx E:=gam [(52,[],impl_Node_members.sp N),(86,[],impl_worker_commit_1.sp N)]
noncomputable def loop3:Code:=codeAt code [1,1,0,1,0]
noncomputable def body3:Code:=codeAt loop3 [0]
noncomputable def K3 (N:Nat) (o0:Orc E R):KT E R:=kAt T (G N) live [] o0 code [1,1,0,1,0] (kfin T Try.f80 (sp N))
noncomputable def St3 (a0:worker) (a1_0:worker) (a1_1:Int):(Int×Int×Int×(List Int))→St E
 | (v0,v1,v2,v18)=>{ ρ:=[(1,.clo 86 [.at (.ptr 0 0),.at (.ptr 2 0)]),(5,.c (.at (.own 3))),(6,.c (.at (.int .i64 v0))),(14,.c (.at (.own 3))),(15,.c (.at (.int .i64 v1))),(16,.c (.at (.int .i64 v2)))],H:=[(0,.rbx [.ptr 1 0]),(1,.rbx [.int .i64 a1_0.Node.Id,.int .i64 a1_0.Node.Term,.int .i64 a1_0.Node.Vote,.ro 69 (.st 69) a1_0.Node.Log,.ro 3 (.int .i64) a1_0.Node.Start,.int .i64 a1_0.Node.Role,.ro 3 (.int .i64) a1_0.Node.Votes,.ro 3 (.int .i64) a1_0.Node.Next,.ro 3 (.int .i64) a1_0.Node.Match,.int .i64 a1_0.Node.Commit,.int .i64 a1_0.Node.Elapsed,.int .i64 a1_0.Node.Wait,.bool a1_0.Node.Up,.ro 57 (.st 57) a1_0.sent]),(2,.rbx [.int .i64 a1_1]),(3,.row 3 (.int .i64) v18 false)],nx:=4,n:=31,pin:=[] }
theorem run (N:Nat) (o0:Orc E R) (a0:worker) (a1_0:worker) (a1_1:Int):runF T (G N) live [] Try.f80 code (sp N) o0 (a0,(a1_0,a1_1,()),())=m0 N a0 a1_0 a1_1 (fun a=>o0 loop3 (K3 N o0) (St3 a0 a1_0 a1_1 a)):=by kernel_rfl
theorem body3_0 (N:Nat) (o0:Orc E R) (o1:Orc E R) (q1:St E→Option R) (a0:worker) (a1_0:worker) (a1_1:Int) (v0:Int) (v1:Int) (v2:Int) (v18:List Int):runA T (G N) live [] o1 body3 (St3 a0 a1_0 a1_1 (v0,v1,v2,v18)) (kloop [1,5,6,14,15,16] q1 (K3 N o0))=step3 N a0 a1_0 a1_1 (fun a=>q1 (St3 a0 a1_0 a1_1 a)) (v0,v1,v2,v18):=by kernel_rfl
theorem lp3_eq (N:Nat) (a0:worker) (a1_0:worker) (a1_1:Int) (a:Int×Int×Int×(List Int)):(orc T (G N) live [] N 2) loop3 (K3 N (orc T (G N) live [] N 2)) (St3 a0 a1_0 a1_1 a)=lp3 N a0 a1_0 a1_1 a:=
 (orc_loop (b:=body3) (live:=[1,5,6,14,15,16]) (by kernel_rfl)).trans (iter_eq (St3 a0 a1_0 a1_1) _ _ (fun q1 a=>by
  have hc:=congrFun (congrFun (rfl:(step3 N a0 a1_0 a1_1)=(step3 N a0 a1_0 a1_1)) (fun a=>q1 (St3 a0 a1_0 a1_1 a))) a
  obtain ⟨u0,u1,u2,u3⟩:=a
  exact (body3_0 N (orc T (G N) live [] N 2) (orc T (G N) live [] N 1) q1 a0 a1_0 a1_1 u0 u1 u2 u3).trans hc) N a)
theorem G_ok (N:Nat):GamOK Try.prog (G N):=gam_ok (⟨impl_Node_members.snd N,impl_worker_commit_1.snd N,trivial⟩)
theorem snd (N:Nat):Sound Try.prog E 80 (sp N):=
 Mir.sound T_OK (G_ok N) mixed Try.func80 (c:=code) (by kernel_rfl) (by kernel_rfl) (sp N) (Nat.le_of_ble_eq_true (by kernel_rfl)) live [] (by
  rintro ⟨a0,⟨a1_0,a1_1,_⟩,_⟩ r h
  exact ⟨N,2,((run N _ a0 a1_0 a1_1).trans (congrArg (m0 N a0 a1_0 a1_1) (funext fun a=>lp3_eq N a0 a1_0 a1_1 a))).trans h⟩)
end impl_worker_isMost__impl_worker_commit_1_
namespace impl_worker_commit
noncomputable def code:Code:=Try.f84.body.getD .skip
abbrev live:Live:=[(2,[0,1,2])]
noncomputable def G (N:Nat):Ctx E:=gam [(72,[],impl_Node_termAt.sp N),(80,[86],impl_worker_isMost__impl_worker_commit_1_.sp N)]
noncomputable def loop2:Code:=codeAt code [1,1,0]
noncomputable def body2:Code:=codeAt loop2 [0]
noncomputable def K2 (N:Nat) (o0:Orc E R):KT E R:=kAt TD (G N) live [] o0 code [1,1,0] (kfin TD Try.f84 (sp N))
noncomputable def St2 (a0:worker):Int→St E
 | v14=>{ ρ:=[(0,.c (.at (.ptr 0 0))),(1,.c (.at (.ptr 8 0))),(2,.c (.at (.ptr 9 0)))],H:=[(0,.box 50 [.int .i64 a0.Node.Id,.int .i64 a0.Node.Term,.int .i64 a0.Node.Vote,.own 1,.own 2,.int .i64 a0.Node.Role,.own 3,.own 4,.own 5,.int .i64 a0.Node.Commit,.int .i64 a0.Node.Elapsed,.int .i64 a0.Node.Wait,.bool a0.Node.Up,.own 6]),(1,.row 69 (.st 69) a0.Node.Log false),(2,.row 3 (.int .i64) a0.Node.Start false),(3,.row 3 (.int .i64) a0.Node.Votes false),(4,.row 3 (.int .i64) a0.Node.Next false),(5,.row 3 (.int .i64) a0.Node.Match false),(6,.drow 57 (.st 57) a0.sent 7),(7,.hdr),(8,.box 48 [.ptr 0 0]),(9,.box 3 [.int .i64 v14])],nx:=10,n:=41,pin:=[0] }
theorem run (N:Nat) (o0:Orc E R) (a0:worker):runF TD (G N) live [] Try.f84 code (sp N) o0 (a0,())=m0 N a0 (fun a=>o0 loop2 (K2 N o0) (St2 a0 a)):=by kernel_rfl
theorem body2_0 (N:Nat) (o0:Orc E R) (o1:Orc E R) (q1:St E→Option R) (a0:worker) (v14:Int):runA TD (G N) live [] o1 body2 (St2 a0 v14) (kloop [0,1,2] q1 (K2 N o0))=step2 N a0 (fun a=>q1 (St2 a0 a)) v14:=by kernel_rfl
theorem lp2_eq (N:Nat) (a0:worker) (a:Int):(orc TD (G N) live [] N 2) loop2 (K2 N (orc TD (G N) live [] N 2)) (St2 a0 a)=lp2 N a0 a:=
 (orc_loop (b:=body2) (live:=[0,1,2]) (by kernel_rfl)).trans (iter_eq (St2 a0) _ _ (fun q1 a=>by
  have hc:=congrFun (congrFun (rfl:(step2 N a0)=(step2 N a0)) (fun a=>q1 (St2 a0 a))) a
  exact (body2_0 N (orc TD (G N) live [] N 2) (orc TD (G N) live [] N 1) q1 a0 a).trans hc) N a)
theorem G_ok (N:Nat):GamOK Try.prog (G N):=gam_ok (⟨impl_Node_termAt.snd N,impl_worker_isMost__impl_worker_commit_1_.snd N,trivial⟩)
theorem snd (N:Nat):Sound Try.prog E 84 (sp N):=
 Mir.sound TD_OK (G_ok N) mixed Try.func84 (c:=code) (by kernel_rfl) (by kernel_rfl) (sp N) (Nat.le_of_ble_eq_true (by kernel_rfl)) live [] (by
  rintro ⟨a0,_⟩ r h
  exact ⟨N,2,((run N _ a0).trans (congrArg (m0 N a0) (funext fun a=>lp2_eq N a0 a))).trans h⟩)
end impl_worker_commit
namespace impl_worker_lead_
noncomputable def code:Code:=Try.f82.body.getD .skip
abbrev live:Live:=[]
noncomputable def G (N:Nat):Ctx E:=gam [(83,[],slices_Repeat_int_int.sp N),(84,[],impl_worker_commit.sp N),(50,[],impl_worker_tellAll.sp N)]
theorem run (N:Nat) (o0:Orc E R) (a0:worker):runF TD (G N) live [] Try.f82 code (sp N) o0 (a0,())=m N a0:=by kernel_rfl
theorem G_ok (N:Nat):GamOK Try.prog (G N):=gam_ok (⟨slices_Repeat_int_int.snd N,impl_worker_commit.snd N,impl_worker_tellAll.snd N,trivial⟩)
theorem snd (N:Nat):Sound Try.prog E 82 (sp N):=
 Mir.sound TD_OK (G_ok N) mixed Try.func82 (c:=code) (by kernel_rfl) (by kernel_rfl) (sp N) (Nat.le_of_ble_eq_true (by kernel_rfl)) live [] (by
  rintro ⟨a0,_⟩ r h
  exact ⟨N,2,((run N _ a0).trans rfl).trans h⟩)
end impl_worker_lead_
namespace impl_worker_leadIf
noncomputable def code:Code:=Try.f70.body.getD .skip
abbrev live:Live:=[]
noncomputable def G (N:Nat):Ctx E:=gam [(80,[81],impl_worker_isMost__impl_worker_leadIf_1_.sp N),(82,[],impl_worker_lead_.sp N)]
theorem run (N:Nat) (o0:Orc E R) (a0:worker):runF TD (G N) live [] Try.f70 code (sp N) o0 (a0,())=m N a0:=by kernel_rfl
theorem G_ok (N:Nat):GamOK Try.prog (G N):=gam_ok (⟨impl_worker_isMost__impl_worker_leadIf_1_.snd N,impl_worker_lead_.snd N,trivial⟩)
theorem snd (N:Nat):Sound Try.prog E 70 (sp N):=
 Mir.sound TD_OK (G_ok N) mixed Try.func70 (c:=code) (by kernel_rfl) (by kernel_rfl) (sp N) (Nat.le_of_ble_eq_true (by kernel_rfl)) live [] (by
  rintro ⟨a0,_⟩ r h
  exact ⟨N,2,((run N _ a0).trans rfl).trans h⟩)
end impl_worker_leadIf
namespace impl_worker_stand
noncomputable def code:Code:=Try.f53.body.getD .skip
abbrev live:Live:=[(4,[0,52,53,54])]
noncomputable def G (N:Nat):Ctx E:=gam [(70,[],impl_worker_leadIf.sp N),(65,[],impl_worker_others_.sp N),(72,[],impl_Node_termAt.sp N),(71,[],impl_worker_send_.sp N)]
noncomputable def loop4:Code:=codeAt code [1,1,1,1,0]
noncomputable def body4:Code:=codeAt loop4 [0]
noncomputable def K4 (N:Nat) (o0:Orc E R):KT E R:=kAt TD (G N) live [] o0 code [1,1,1,1,0] (kfin TD Try.f53 (sp N))
noncomputable def St4 (a0:worker) (a1:Int):(Int×Int×Int×Int×Int×Int×Int×Int×Int×Bool×(List Entry)×(List Int)×(List Int)×(List Int)×(List Int)×(List Message)×(List Int))→St E
 | (v0,v1,v2,v3,v4,v5,v6,v7,v8,v9,v10,v11,v12,v13,v14,v15,v16)=>{ ρ:=[(0,.c (.at (.ptr 0 0))),(52,.c (.at (.own 8))),(53,.c (.at (.int .i64 v0))),(54,.c (.at (.int .i64 v1)))],H:=[(0,.box 50 [.int .i64 v2,.int .i64 v3,.int .i64 v4,.own 1,.own 2,.int .i64 v5,.own 3,.own 4,.own 5,.int .i64 v6,.int .i64 v7,.int .i64 v8,.bool v9,.own 6]),(1,.row 69 (.st 69) v10 false),(2,.row 3 (.int .i64) v11 false),(3,.row 3 (.int .i64) v12 false),(4,.row 3 (.int .i64) v13 false),(5,.row 3 (.int .i64) v14 false),(6,.drow 57 (.st 57) v15 7),(7,.hdr),(8,.row 3 (.int .i64) v16 false)],nx:=9,n:=80,pin:=[0] }
theorem run (N:Nat) (o0:Orc E R) (a0:worker) (a1:Int):runF TD (G N) live [] Try.f53 code (sp N) o0 (a0,a1,())=m0 N a0 a1 (fun a=>o0 loop4 (K4 N o0) (St4 a0 a1 a)):=by kernel_rfl
theorem body4_0 (N:Nat) (o0:Orc E R) (o1:Orc E R) (q1:St E→Option R) (a0:worker) (a1:Int) (v0:Int) (v1:Int) (v2:Int) (v3:Int) (v4:Int) (v5:Int) (v6:Int) (v7:Int) (v8:Int) (v9:Bool) (v10:List Entry) (v11:List Int) (v12:List Int) (v13:List Int) (v14:List Int) (v15:List Message) (v16:List Int):runA TD (G N) live [] o1 body4 (St4 a0 a1 (v0,v1,v2,v3,v4,v5,v6,v7,v8,v9,v10,v11,v12,v13,v14,v15,v16)) (kloop [0,52,53,54] q1 (K4 N o0))=step4 N a0 a1 (fun a=>q1 (St4 a0 a1 a)) (v0,v1,v2,v3,v4,v5,v6,v7,v8,v9,v10,v11,v12,v13,v14,v15,v16):=by kernel_rfl
theorem lp4_eq (N:Nat) (a0:worker) (a1:Int) (a:Int×Int×Int×Int×Int×Int×Int×Int×Int×Bool×(List Entry)×(List Int)×(List Int)×(List Int)×(List Int)×(List Message)×(List Int)):(orc TD (G N) live [] N 2) loop4 (K4 N (orc TD (G N) live [] N 2)) (St4 a0 a1 a)=lp4 N a0 a1 a:=
 (orc_loop (b:=body4) (live:=[0,52,53,54]) (by kernel_rfl)).trans (iter_eq (St4 a0 a1) _ _ (fun q1 a=>by
  have hc:=congrFun (congrFun (rfl:(step4 N a0 a1)=(step4 N a0 a1)) (fun a=>q1 (St4 a0 a1 a))) a
  obtain ⟨u0,u1,u2,u3,u4,u5,u6,u7,u8,u9,u10,u11,u12,u13,u14,u15,u16⟩:=a
  exact (body4_0 N (orc TD (G N) live [] N 2) (orc TD (G N) live [] N 1) q1 a0 a1 u0 u1 u2 u3 u4 u5 u6 u7 u8 u9 u10 u11 u12 u13 u14 u15 u16).trans hc) N a)
theorem G_ok (N:Nat):GamOK Try.prog (G N):=gam_ok (⟨impl_worker_leadIf.snd N,impl_worker_others_.snd N,impl_Node_termAt.snd N,impl_worker_send_.snd N,trivial⟩)
theorem snd (N:Nat):Sound Try.prog E 53 (sp N):=
 Mir.sound TD_OK (G_ok N) mixed Try.func53 (c:=code) (by kernel_rfl) (by kernel_rfl) (sp N) (Nat.le_of_ble_eq_true (by kernel_rfl)) live [] (by
  rintro ⟨a0,a1,_⟩ r h
  exact ⟨N,2,((run N _ a0 a1).trans (congrArg (m0 N a0 a1) (funext fun a=>lp4_eq N a0 a1 a))).trans h⟩)
end impl_worker_stand
namespace impl_worker_tick
noncomputable def code:Code:=Try.f25.body.getD .skip
abbrev live:Live:=[]
noncomputable def G (N:Nat):Ctx E:=gam [(50,[],impl_worker_tellAll.sp N),(52,[],impl_Node_members.sp N),(51,[],slices_Contains_int_int.sp N),(53,[],impl_worker_stand.sp N)]
theorem run (N:Nat) (o0:Orc E R) (a0:worker) (a1:Int):runF TD (G N) live [] Try.f25 code (sp N) o0 (a0,a1,())=m N a0 a1:=by kernel_rfl
theorem G_ok (N:Nat):GamOK Try.prog (G N):=gam_ok (⟨impl_worker_tellAll.snd N,impl_Node_members.snd N,slices_Contains_int_int.snd N,impl_worker_stand.snd N,trivial⟩)
theorem snd (N:Nat):Sound Try.prog E 25 (sp N):=
 Mir.sound TD_OK (G_ok N) mixed Try.func25 (c:=code) (by kernel_rfl) (by kernel_rfl) (sp N) (Nat.le_of_ble_eq_true (by kernel_rfl)) live [] (by
  rintro ⟨a0,a1,_⟩ r h
  exact ⟨N,2,((run N _ a0 a1).trans rfl).trans h⟩)
end impl_worker_tick
namespace impl_worker_asNode
noncomputable def code:Code:=Try.f26.body.getD .skip
abbrev live:Live:=[]
noncomputable def G (N:Nat):Ctx E:=gam [(24,[],impl_copyNode.sp N)]
theorem run (N:Nat) (o0:Orc E R) (a0:worker):runF TD (G N) live [] Try.f26 code (sp N) o0 (a0,())=m N a0:=by kernel_rfl
theorem G_ok (N:Nat):GamOK Try.prog (G N):=gam_ok (⟨impl_copyNode.snd N,trivial⟩)
theorem snd (N:Nat):Sound Try.prog E 26 (sp N):=
 Mir.sound TD_OK (G_ok N) mixed Try.func26 (c:=code) (by kernel_rfl) (by kernel_rfl) (sp N) (Nat.le_of_ble_eq_true (by kernel_rfl)) live [] (by
  rintro ⟨a0,_⟩ r h
  exact ⟨N,2,((run N _ a0).trans rfl).trans h⟩)
end impl_worker_asNode
namespace impl_NodeTick
noncomputable def code:Code:=Try.f7.body.getD .skip
abbrev live:Live:=[]
noncomputable def G (N:Nat):Ctx E:=gam [(22,[],impl_NodeOK.sp N),(23,[],impl_within.sp N),(24,[],impl_copyNode.sp N),(25,[],impl_worker_tick.sp N),(26,[],impl_worker_asNode.sp N)]
theorem run (N:Nat) (o0:Orc E R) (a0:Node) (a1:Int):runF TD (G N) live [] Try.f7 code (sp N) o0 (a0,a1,())=m N a0 a1:=by kernel_rfl
theorem G_ok (N:Nat):GamOK Try.prog (G N):=gam_ok (⟨impl_NodeOK.snd N,impl_within.snd N,impl_copyNode.snd N,impl_worker_tick.snd N,impl_worker_asNode.snd N,trivial⟩)
theorem snd (N:Nat):Sound Try.prog E 7 (sp N):=
 Mir.sound TD_OK (G_ok N) mixed Try.func7 (c:=code) (by kernel_rfl) (by kernel_rfl) (sp N) (Nat.le_of_ble_eq_true (by kernel_rfl)) live [] (by
  rintro ⟨a0,a1,_⟩ r h
  exact ⟨N,2,((run N _ a0 a1).trans rfl).trans h⟩)
end impl_NodeTick
namespace laws_eqEntry
noncomputable def code:Code:=Try.f54.body.getD .skip
abbrev live:Live:=[]
noncomputable def G (N:Nat):Ctx E:=gam []
theorem run (N:Nat) (o0:Orc E R) (a0:Entry) (a1:Entry):runF T (G N) live [] Try.f54 code (sp N) o0 (a0,a1,())=m N a0 a1:=by kernel_rfl
theorem G_ok (N:Nat):GamOK Try.prog (G N):=gam_ok (trivial)
theorem snd (N:Nat):Sound Try.prog E 54 (sp N):=
 Mir.sound T_OK (G_ok N) mixed Try.func54 (c:=code) (by kernel_rfl) (by kernel_rfl) (sp N) (Nat.le_of_ble_eq_true (by kernel_rfl)) live [] (by
  rintro ⟨a0,a1,_⟩ r h
  exact ⟨N,2,((run N _ a0 a1).trans rfl).trans h⟩)
end laws_eqEntry
namespace laws_eqEntryS
noncomputable def code:Code:=Try.f27.body.getD .skip
abbrev live:Live:=[(4,[0,1,5])]
noncomputable def G (N:Nat):Ctx E:=gam [(54,[],laws_eqEntry.sp N)]
noncomputable def loop4:Code:=codeAt code [1,1,0,1,0]
noncomputable def body4:Code:=codeAt loop4 [0]
noncomputable def K4 (N:Nat) (o0:Orc E R):KT E R:=kAt T (G N) live [] o0 code [1,1,0,1,0] (kfin T Try.f27 (sp N))
noncomputable def St4 (a0:List Entry) (a1:List Entry):Int→St E
 | v2=>{ ρ:=[(0,.c (.at (.ro 69 (.st 69) a0))),(1,.c (.at (.ro 69 (.st 69) a1))),(5,.c (.at (.int .i64 v2)))],H:=[],nx:=0,n:=27,pin:=[] }
theorem run (N:Nat) (o0:Orc E R) (a0:List Entry) (a1:List Entry):runF T (G N) live [] Try.f27 code (sp N) o0 (a0,a1,())=m0 N a0 a1 (fun a=>o0 loop4 (K4 N o0) (St4 a0 a1 a)):=by kernel_rfl
theorem body4_0 (N:Nat) (o0:Orc E R) (o1:Orc E R) (q1:St E→Option R) (a0:List Entry) (a1:List Entry) (v2:Int):runA T (G N) live [] o1 body4 (St4 a0 a1 v2) (kloop [0,1,5] q1 (K4 N o0))=step4 N a0 a1 (fun a=>q1 (St4 a0 a1 a)) v2:=by kernel_rfl
theorem lp4_eq (N:Nat) (a0:List Entry) (a1:List Entry) (a:Int):(orc T (G N) live [] N 2) loop4 (K4 N (orc T (G N) live [] N 2)) (St4 a0 a1 a)=lp4 N a0 a1 a:=
 (orc_loop (b:=body4) (live:=[0,1,5]) (by kernel_rfl)).trans (iter_eq (St4 a0 a1) _ _ (fun q1 a=>by
  have hc:=congrFun (congrFun (rfl:(step4 N a0 a1)=(step4 N a0 a1)) (fun a=>q1 (St4 a0 a1 a))) a
  exact (body4_0 N (orc T (G N) live [] N 2) (orc T (G N) live [] N 1) q1 a0 a1 a).trans hc) N a)
theorem G_ok (N:Nat):GamOK Try.prog (G N):=gam_ok (⟨laws_eqEntry.snd N,trivial⟩)
theorem snd (N:Nat):Sound Try.prog E 27 (sp N):=
 Mir.sound T_OK (G_ok N) mixed Try.func27 (c:=code) (by kernel_rfl) (by kernel_rfl) (sp N) (Nat.le_of_ble_eq_true (by kernel_rfl)) live [] (by
  rintro ⟨a0,a1,_⟩ r h
  exact ⟨N,2,((run N _ a0 a1).trans (congrArg (m0 N a0 a1) (funext fun a=>lp4_eq N a0 a1 a))).trans h⟩)
end laws_eqEntryS
namespace laws_eqIntS
noncomputable def code:Code:=Try.f28.body.getD .skip
abbrev live:Live:=[(4,[0,1,5])]
noncomputable def G (N:Nat):Ctx E:=gam []
noncomputable def loop4:Code:=codeAt code [1,1,0,1,0]
noncomputable def body4:Code:=codeAt loop4 [0]
noncomputable def K4 (N:Nat) (o0:Orc E R):KT E R:=kAt T (G N) live [] o0 code [1,1,0,1,0] (kfin T Try.f28 (sp N))
noncomputable def St4 (a0:List Int) (a1:List Int):Int→St E
 | v2=>{ ρ:=[(0,.c (.at (.ro 3 (.int .i64) a0))),(1,.c (.at (.ro 3 (.int .i64) a1))),(5,.c (.at (.int .i64 v2)))],H:=[],nx:=0,n:=26,pin:=[] }
theorem run (N:Nat) (o0:Orc E R) (a0:List Int) (a1:List Int):runF T (G N) live [] Try.f28 code (sp N) o0 (a0,a1,())=m0 N a0 a1 (fun a=>o0 loop4 (K4 N o0) (St4 a0 a1 a)):=by kernel_rfl
theorem body4_0 (N:Nat) (o0:Orc E R) (o1:Orc E R) (q1:St E→Option R) (a0:List Int) (a1:List Int) (v2:Int):runA T (G N) live [] o1 body4 (St4 a0 a1 v2) (kloop [0,1,5] q1 (K4 N o0))=step4 N a0 a1 (fun a=>q1 (St4 a0 a1 a)) v2:=by kernel_rfl
theorem lp4_eq (N:Nat) (a0:List Int) (a1:List Int) (a:Int):(orc T (G N) live [] N 2) loop4 (K4 N (orc T (G N) live [] N 2)) (St4 a0 a1 a)=lp4 N a0 a1 a:=
 (orc_loop (b:=body4) (live:=[0,1,5]) (by kernel_rfl)).trans (iter_eq (St4 a0 a1) _ _ (fun q1 a=>by
  have hc:=congrFun (congrFun (rfl:(step4 N a0 a1)=(step4 N a0 a1)) (fun a=>q1 (St4 a0 a1 a))) a
  exact (body4_0 N (orc T (G N) live [] N 2) (orc T (G N) live [] N 1) q1 a0 a1 a).trans hc) N a)
theorem G_ok (N:Nat):GamOK Try.prog (G N):=gam_ok (trivial)
theorem snd (N:Nat):Sound Try.prog E 28 (sp N):=
 Mir.sound T_OK (G_ok N) mixed Try.func28 (c:=code) (by kernel_rfl) (by kernel_rfl) (sp N) (Nat.le_of_ble_eq_true (by kernel_rfl)) live [] (by
  rintro ⟨a0,a1,_⟩ r h
  exact ⟨N,2,((run N _ a0 a1).trans (congrArg (m0 N a0 a1) (funext fun a=>lp4_eq N a0 a1 a))).trans h⟩)
end laws_eqIntS
namespace laws_eqNode
noncomputable def code:Code:=Try.f8.body.getD .skip
abbrev live:Live:=[]
noncomputable def G (N:Nat):Ctx E:=gam [(27,[],laws_eqEntryS.sp N),(28,[],laws_eqIntS.sp N)]
theorem run (N:Nat) (o0:Orc E R) (a0:Node) (a1:Node):runF T (G N) live [] Try.f8 code (sp N) o0 (a0,a1,())=m N a0 a1:=by kernel_rfl
theorem G_ok (N:Nat):GamOK Try.prog (G N):=gam_ok (⟨laws_eqEntryS.snd N,laws_eqIntS.snd N,trivial⟩)
theorem snd (N:Nat):Sound Try.prog E 8 (sp N):=
 Mir.sound T_OK (G_ok N) mixed Try.func8 (c:=code) (by kernel_rfl) (by kernel_rfl) (sp N) (Nat.le_of_ble_eq_true (by kernel_rfl)) live [] (by
  rintro ⟨a0,a1,_⟩ r h
  exact ⟨N,2,((run N _ a0 a1).trans rfl).trans h⟩)
end laws_eqNode
namespace laws_eqMessage
noncomputable def code:Code:=Try.f29.body.getD .skip
abbrev live:Live:=[]
noncomputable def G (N:Nat):Ctx E:=gam [(27,[],laws_eqEntryS.sp N)]
theorem run (N:Nat) (o0:Orc E R) (a0:Message) (a1:Message):runF T (G N) live [] Try.f29 code (sp N) o0 (a0,a1,())=m N a0 a1:=by kernel_rfl
theorem G_ok (N:Nat):GamOK Try.prog (G N):=gam_ok (⟨laws_eqEntryS.snd N,trivial⟩)
theorem snd (N:Nat):Sound Try.prog E 29 (sp N):=
 Mir.sound T_OK (G_ok N) mixed Try.func29 (c:=code) (by kernel_rfl) (by kernel_rfl) (sp N) (Nat.le_of_ble_eq_true (by kernel_rfl)) live [] (by
  rintro ⟨a0,a1,_⟩ r h
  exact ⟨N,2,((run N _ a0 a1).trans rfl).trans h⟩)
end laws_eqMessage
namespace laws_eqMessageS
noncomputable def code:Code:=Try.f9.body.getD .skip
abbrev live:Live:=[(4,[0,1,5])]
noncomputable def G (N:Nat):Ctx E:=gam [(29,[],laws_eqMessage.sp N)]
noncomputable def loop4:Code:=codeAt code [1,1,0,1,0]
noncomputable def body4:Code:=codeAt loop4 [0]
noncomputable def K4 (N:Nat) (o0:Orc E R):KT E R:=kAt T (G N) live [] o0 code [1,1,0,1,0] (kfin T Try.f9 (sp N))
noncomputable def St4 (a0:List Message) (a1:List Message):Int→St E
 | v2=>{ ρ:=[(0,.c (.at (.ro 57 (.st 57) a0))),(1,.c (.at (.ro 57 (.st 57) a1))),(5,.c (.at (.int .i64 v2)))],H:=[],nx:=0,n:=27,pin:=[] }
theorem run (N:Nat) (o0:Orc E R) (a0:List Message) (a1:List Message):runF T (G N) live [] Try.f9 code (sp N) o0 (a0,a1,())=m0 N a0 a1 (fun a=>o0 loop4 (K4 N o0) (St4 a0 a1 a)):=by kernel_rfl
theorem body4_0 (N:Nat) (o0:Orc E R) (o1:Orc E R) (q1:St E→Option R) (a0:List Message) (a1:List Message) (v2:Int):runA T (G N) live [] o1 body4 (St4 a0 a1 v2) (kloop [0,1,5] q1 (K4 N o0))=step4 N a0 a1 (fun a=>q1 (St4 a0 a1 a)) v2:=by kernel_rfl
theorem lp4_eq (N:Nat) (a0:List Message) (a1:List Message) (a:Int):(orc T (G N) live [] N 2) loop4 (K4 N (orc T (G N) live [] N 2)) (St4 a0 a1 a)=lp4 N a0 a1 a:=
 (orc_loop (b:=body4) (live:=[0,1,5]) (by kernel_rfl)).trans (iter_eq (St4 a0 a1) _ _ (fun q1 a=>by
  have hc:=congrFun (congrFun (rfl:(step4 N a0 a1)=(step4 N a0 a1)) (fun a=>q1 (St4 a0 a1 a))) a
  exact (body4_0 N (orc T (G N) live [] N 2) (orc T (G N) live [] N 1) q1 a0 a1 a).trans hc) N a)
theorem G_ok (N:Nat):GamOK Try.prog (G N):=gam_ok (⟨laws_eqMessage.snd N,trivial⟩)
theorem snd (N:Nat):Sound Try.prog E 9 (sp N):=
 Mir.sound T_OK (G_ok N) mixed Try.func9 (c:=code) (by kernel_rfl) (by kernel_rfl) (sp N) (Nat.le_of_ble_eq_true (by kernel_rfl)) live [] (by
  rintro ⟨a0,a1,_⟩ r h
  exact ⟨N,2,((run N _ a0 a1).trans (congrArg (m0 N a0 a1) (funext fun a=>lp4_eq N a0 a1 a))).trans h⟩)
end laws_eqMessageS
namespace laws_markText
noncomputable def code:Code:=Try.f55.body.getD .skip
abbrev live:Live:=[(4,[0,3])]
noncomputable def G (N:Nat):Ctx E:=gam []
noncomputable def loop4:Code:=codeAt code [1,1,1,0,0]
noncomputable def body4:Code:=codeAt loop4 [0]
noncomputable def K4 (N:Nat) (o0:Orc E R):KT E R:=kAt T (G N) live [] o0 code [1,1,1,0,0] (kfin T Try.f55 (sp N))
noncomputable def St4 (a0:Int):(Int×ByteArray)→St E
 | (v0,v1)=>{ ρ:=[(0,.c (.at (.int .i64 v0))),(3,.c (.at (.str v1)))],H:=[],nx:=0,n:=20,pin:=[] }
theorem run (N:Nat) (o0:Orc E R) (a0:Int):runF T (G N) live [] Try.f55 code (sp N) o0 (a0,())=m0 N a0 (fun a=>o0 loop4 (K4 N o0) (St4 a0 a)):=by kernel_rfl
theorem body4_0 (N:Nat) (o0:Orc E R) (o1:Orc E R) (q1:St E→Option R) (a0:Int) (v0:Int) (v1:ByteArray):runA T (G N) live [] o1 body4 (St4 a0 (v0,v1)) (kloop [0,3] q1 (K4 N o0))=step4 N a0 (fun a=>q1 (St4 a0 a)) (v0,v1):=by kernel_rfl
theorem lp4_eq (N:Nat) (a0:Int) (a:Int×ByteArray):(orc T (G N) live [] N 2) loop4 (K4 N (orc T (G N) live [] N 2)) (St4 a0 a)=lp4 N a0 a:=
 (orc_loop (b:=body4) (live:=[0,3]) (by kernel_rfl)).trans (iter_eq (St4 a0) _ _ (fun q1 a=>by
  have hc:=congrFun (congrFun (rfl:(step4 N a0)=(step4 N a0)) (fun a=>q1 (St4 a0 a))) a
  obtain ⟨u0,u1⟩:=a
  exact (body4_0 N (orc T (G N) live [] N 2) (orc T (G N) live [] N 1) q1 a0 u0 u1).trans hc) N a)
theorem G_ok (N:Nat):GamOK Try.prog (G N):=gam_ok (trivial)
theorem snd (N:Nat):Sound Try.prog E 55 (sp N):=
 Mir.sound T_OK (G_ok N) mixed Try.func55 (c:=code) (by kernel_rfl) (by kernel_rfl) (sp N) (Nat.le_of_ble_eq_true (by kernel_rfl)) live [] (by
  rintro ⟨a0,_⟩ r h
  exact ⟨N,2,((run N _ a0).trans (congrArg (m0 N a0) (funext fun a=>lp4_eq N a0 a))).trans h⟩)
end laws_markText
namespace laws_markEntryS
noncomputable def code:Code:=Try.f30.body.getD .skip
abbrev live:Live:=[(2,[0,1,5])]
noncomputable def G (N:Nat):Ctx E:=gam [(55,[],laws_markText.sp N)]
noncomputable def loop2:Code:=codeAt code [1,0,1,0]
noncomputable def body2:Code:=codeAt loop2 [0]
noncomputable def K2 (N:Nat) (o0:Orc E R):KT E R:=kAt T (G N) live [] o0 code [1,0,1,0] (kfin T Try.f30 (sp N))
noncomputable def St2 (a0:List Entry) (a1:Int):(Int×Int×(List Entry))→St E
 | (v0,v1,v2)=>{ ρ:=[(0,.c (.at (.own 0))),(1,.c (.at (.int .i64 v0))),(5,.c (.at (.int .i64 v1)))],H:=[(0,.row 69 (.st 69) v2 false)],nx:=1,n:=35,pin:=[0] }
theorem run (N:Nat) (o0:Orc E R) (a0:List Entry) (a1:Int):runF T (G N) live [] Try.f30 code (sp N) o0 (a0,a1,())=m0 N a0 a1 (fun a=>o0 loop2 (K2 N o0) (St2 a0 a1 a)):=by kernel_rfl
theorem body2_0 (N:Nat) (o0:Orc E R) (o1:Orc E R) (q1:St E→Option R) (a0:List Entry) (a1:Int) (v0:Int) (v1:Int) (v2:List Entry):runA T (G N) live [] o1 body2 (St2 a0 a1 (v0,v1,v2)) (kloop [0,1,5] q1 (K2 N o0))=step2 N a0 a1 (fun a=>q1 (St2 a0 a1 a)) (v0,v1,v2):=by kernel_rfl
theorem lp2_eq (N:Nat) (a0:List Entry) (a1:Int) (a:Int×Int×(List Entry)):(orc T (G N) live [] N 2) loop2 (K2 N (orc T (G N) live [] N 2)) (St2 a0 a1 a)=lp2 N a0 a1 a:=
 (orc_loop (b:=body2) (live:=[0,1,5]) (by kernel_rfl)).trans (iter_eq (St2 a0 a1) _ _ (fun q1 a=>by
  have hc:=congrFun (congrFun (rfl:(step2 N a0 a1)=(step2 N a0 a1)) (fun a=>q1 (St2 a0 a1 a))) a
  obtain ⟨u0,u1,u2⟩:=a
  exact (body2_0 N (orc T (G N) live [] N 2) (orc T (G N) live [] N 1) q1 a0 a1 u0 u1 u2).trans hc) N a)
theorem G_ok (N:Nat):GamOK Try.prog (G N):=gam_ok (⟨laws_markText.snd N,trivial⟩)
theorem snd (N:Nat):Sound Try.prog E 30 (sp N):=
 Mir.sound T_OK (G_ok N) mixed Try.func30 (c:=code) (by kernel_rfl) (by kernel_rfl) (sp N) (Nat.le_of_ble_eq_true (by kernel_rfl)) live [] (by
  rintro ⟨a0,a1,_⟩ r h
  exact ⟨N,2,((run N _ a0 a1).trans (congrArg (m0 N a0 a1) (funext fun a=>lp2_eq N a0 a1 a))).trans h⟩)
end laws_markEntryS
namespace laws_markIntS
noncomputable def code:Code:=Try.f31.body.getD .skip
abbrev live:Live:=[(2,[0,1,5])]
noncomputable def G (N:Nat):Ctx E:=gam []
noncomputable def loop2:Code:=codeAt code [1,0,1,0]
noncomputable def body2:Code:=codeAt loop2 [0]
noncomputable def K2 (N:Nat) (o0:Orc E R):KT E R:=kAt T (G N) live [] o0 code [1,0,1,0] (kfin T Try.f31 (sp N))
noncomputable def St2 (a0:List Int) (a1:Int):(Int×Int×(List Int))→St E
 | (v0,v1,v2)=>{ ρ:=[(0,.c (.at (.own 0))),(1,.c (.at (.int .i64 v0))),(5,.c (.at (.int .i64 v1)))],H:=[(0,.row 3 (.int .i64) v2 false)],nx:=1,n:=19,pin:=[0] }
theorem run (N:Nat) (o0:Orc E R) (a0:List Int) (a1:Int):runF T (G N) live [] Try.f31 code (sp N) o0 (a0,a1,())=m0 N a0 a1 (fun a=>o0 loop2 (K2 N o0) (St2 a0 a1 a)):=by kernel_rfl
theorem body2_0 (N:Nat) (o0:Orc E R) (o1:Orc E R) (q1:St E→Option R) (a0:List Int) (a1:Int) (v0:Int) (v1:Int) (v2:List Int):runA T (G N) live [] o1 body2 (St2 a0 a1 (v0,v1,v2)) (kloop [0,1,5] q1 (K2 N o0))=step2 N a0 a1 (fun a=>q1 (St2 a0 a1 a)) (v0,v1,v2):=by kernel_rfl
theorem lp2_eq (N:Nat) (a0:List Int) (a1:Int) (a:Int×Int×(List Int)):(orc T (G N) live [] N 2) loop2 (K2 N (orc T (G N) live [] N 2)) (St2 a0 a1 a)=lp2 N a0 a1 a:=
 (orc_loop (b:=body2) (live:=[0,1,5]) (by kernel_rfl)).trans (iter_eq (St2 a0 a1) _ _ (fun q1 a=>by
  have hc:=congrFun (congrFun (rfl:(step2 N a0 a1)=(step2 N a0 a1)) (fun a=>q1 (St2 a0 a1 a))) a
  obtain ⟨u0,u1,u2⟩:=a
  exact (body2_0 N (orc T (G N) live [] N 2) (orc T (G N) live [] N 1) q1 a0 a1 u0 u1 u2).trans hc) N a)
theorem G_ok (N:Nat):GamOK Try.prog (G N):=gam_ok (trivial)
theorem snd (N:Nat):Sound Try.prog E 31 (sp N):=
 Mir.sound T_OK (G_ok N) mixed Try.func31 (c:=code) (by kernel_rfl) (by kernel_rfl) (sp N) (Nat.le_of_ble_eq_true (by kernel_rfl)) live [] (by
  rintro ⟨a0,a1,_⟩ r h
  exact ⟨N,2,((run N _ a0 a1).trans (congrArg (m0 N a0 a1) (funext fun a=>lp2_eq N a0 a1 a))).trans h⟩)
end laws_markIntS
namespace laws_markNode
noncomputable def code:Code:=Try.f10.body.getD .skip
abbrev live:Live:=[]
noncomputable def G (N:Nat):Ctx E:=gam [(30,[],laws_markEntryS.sp N),(31,[],laws_markIntS.sp N)]
theorem run (N:Nat) (o0:Orc E R) (a0:Node) (a1:Int):runF T (G N) live [] Try.f10 code (sp N) o0 (a0,a1,())=m N a0 a1:=by kernel_rfl
theorem G_ok (N:Nat):GamOK Try.prog (G N):=gam_ok (⟨laws_markEntryS.snd N,laws_markIntS.snd N,trivial⟩)
theorem snd (N:Nat):Sound Try.prog E 10 (sp N):=
 Mir.sound T_OK (G_ok N) mixed Try.func10 (c:=code) (by kernel_rfl) (by kernel_rfl) (sp N) (Nat.le_of_ble_eq_true (by kernel_rfl)) live [] (by
  rintro ⟨a0,a1,_⟩ r h
  exact ⟨N,2,((run N _ a0 a1).trans rfl).trans h⟩)
end laws_markNode
namespace laws_markMessageS
noncomputable def code:Code:=Try.f11.body.getD .skip
abbrev live:Live:=[(2,[0,1,5])]
noncomputable def G (N:Nat):Ctx E:=gam [(30,[],laws_markEntryS.sp N)]
noncomputable def loop2:Code:=codeAt code [1,0,1,0]
noncomputable def body2:Code:=codeAt loop2 [0]
noncomputable def K2 (N:Nat) (o0:Orc E R):KT E R:=kAt TD (G N) live [] o0 code [1,0,1,0] (kfin TD Try.f11 (sp N))
noncomputable def St2 (a0:List Message) (a1:Int):(Int×Int×(List Message))→St E
 | (v0,v1,v2)=>{ ρ:=[(0,.c (.at (.own 0))),(1,.c (.at (.int .i64 v0))),(5,.c (.at (.int .i64 v1)))],H:=[(0,.drow 57 (.st 57) v2 1),(1,.hdr)],nx:=2,n:=78,pin:=[0] }
theorem run (N:Nat) (o0:Orc E R) (a0:List Message) (a1:Int):runF TD (G N) live [] Try.f11 code (sp N) o0 (a0,a1,())=m0 N a0 a1 (fun a=>o0 loop2 (K2 N o0) (St2 a0 a1 a)):=by kernel_rfl
theorem body2_0 (N:Nat) (o0:Orc E R) (o1:Orc E R) (q1:St E→Option R) (a0:List Message) (a1:Int) (v0:Int) (v1:Int) (v2:List Message):runA TD (G N) live [] o1 body2 (St2 a0 a1 (v0,v1,v2)) (kloop [0,1,5] q1 (K2 N o0))=step2 N a0 a1 (fun a=>q1 (St2 a0 a1 a)) (v0,v1,v2):=by kernel_rfl
theorem lp2_eq (N:Nat) (a0:List Message) (a1:Int) (a:Int×Int×(List Message)):(orc TD (G N) live [] N 2) loop2 (K2 N (orc TD (G N) live [] N 2)) (St2 a0 a1 a)=lp2 N a0 a1 a:=
 (orc_loop (b:=body2) (live:=[0,1,5]) (by kernel_rfl)).trans (iter_eq (St2 a0 a1) _ _ (fun q1 a=>by
  have hc:=congrFun (congrFun (rfl:(step2 N a0 a1)=(step2 N a0 a1)) (fun a=>q1 (St2 a0 a1 a))) a
  obtain ⟨u0,u1,u2⟩:=a
  exact (body2_0 N (orc TD (G N) live [] N 2) (orc TD (G N) live [] N 1) q1 a0 a1 u0 u1 u2).trans hc) N a)
theorem G_ok (N:Nat):GamOK Try.prog (G N):=gam_ok (⟨laws_markEntryS.snd N,trivial⟩)
theorem snd (N:Nat):Sound Try.prog E 11 (sp N):=
 Mir.sound TD_OK (G_ok N) mixed Try.func11 (c:=code) (by kernel_rfl) (by kernel_rfl) (sp N) (Nat.le_of_ble_eq_true (by kernel_rfl)) live [] (by
  rintro ⟨a0,a1,_⟩ r h
  exact ⟨N,2,((run N _ a0 a1).trans (congrArg (m0 N a0 a1) (funext fun a=>lp2_eq N a0 a1 a))).trans h⟩)
end laws_markMessageS
namespace laws_heldEntryS
noncomputable def code:Code:=Try.f32.body.getD .skip
abbrev live:Live:=[(2,[0,1,5])]
noncomputable def G (N:Nat):Ctx E:=gam [(55,[],laws_markText.sp N)]
noncomputable def loop2:Code:=codeAt code [1,0,1,0]
noncomputable def body2:Code:=codeAt loop2 [0]
noncomputable def K2 (N:Nat) (o0:Orc E R):KT E R:=kAt T (G N) live [] o0 code [1,0,1,0] (kfin T Try.f32 (sp N))
noncomputable def St2 (a0:List Entry) (a1:Int):(Int×Int)→St E
 | (v1,v2)=>{ ρ:=[(0,.c (.at (.ro 69 (.st 69) a0))),(1,.c (.at (.int .i64 v1))),(5,.c (.at (.int .i64 v2)))],H:=[],nx:=0,n:=41,pin:=[] }
theorem run (N:Nat) (o0:Orc E R) (a0:List Entry) (a1:Int):runF T (G N) live [] Try.f32 code (sp N) o0 (a0,a1,())=m0 N a0 a1 (fun a=>o0 loop2 (K2 N o0) (St2 a0 a1 a)):=by kernel_rfl
theorem body2_0 (N:Nat) (o0:Orc E R) (o1:Orc E R) (q1:St E→Option R) (a0:List Entry) (a1:Int) (v1:Int) (v2:Int):runA T (G N) live [] o1 body2 (St2 a0 a1 (v1,v2)) (kloop [0,1,5] q1 (K2 N o0))=step2 N a0 a1 (fun a=>q1 (St2 a0 a1 a)) (v1,v2):=by kernel_rfl
theorem lp2_eq (N:Nat) (a0:List Entry) (a1:Int) (a:Int×Int):(orc T (G N) live [] N 2) loop2 (K2 N (orc T (G N) live [] N 2)) (St2 a0 a1 a)=lp2 N a0 a1 a:=
 (orc_loop (b:=body2) (live:=[0,1,5]) (by kernel_rfl)).trans (iter_eq (St2 a0 a1) _ _ (fun q1 a=>by
  have hc:=congrFun (congrFun (rfl:(step2 N a0 a1)=(step2 N a0 a1)) (fun a=>q1 (St2 a0 a1 a))) a
  obtain ⟨u0,u1⟩:=a
  exact (body2_0 N (orc T (G N) live [] N 2) (orc T (G N) live [] N 1) q1 a0 a1 u0 u1).trans hc) N a)
theorem G_ok (N:Nat):GamOK Try.prog (G N):=gam_ok (⟨laws_markText.snd N,trivial⟩)
theorem snd (N:Nat):Sound Try.prog E 32 (sp N):=
 Mir.sound T_OK (G_ok N) mixed Try.func32 (c:=code) (by kernel_rfl) (by kernel_rfl) (sp N) (Nat.le_of_ble_eq_true (by kernel_rfl)) live [] (by
  rintro ⟨a0,a1,_⟩ r h
  exact ⟨N,2,((run N _ a0 a1).trans (congrArg (m0 N a0 a1) (funext fun a=>lp2_eq N a0 a1 a))).trans h⟩)
end laws_heldEntryS
namespace laws_heldIntS
noncomputable def code:Code:=Try.f33.body.getD .skip
abbrev live:Live:=[(2,[0,1,5])]
noncomputable def G (N:Nat):Ctx E:=gam []
noncomputable def loop2:Code:=codeAt code [1,0,1,0]
noncomputable def body2:Code:=codeAt loop2 [0]
noncomputable def K2 (N:Nat) (o0:Orc E R):KT E R:=kAt T (G N) live [] o0 code [1,0,1,0] (kfin T Try.f33 (sp N))
noncomputable def St2 (a0:List Int) (a1:Int):(Int×Int)→St E
 | (v1,v2)=>{ ρ:=[(0,.c (.at (.ro 3 (.int .i64) a0))),(1,.c (.at (.int .i64 v1))),(5,.c (.at (.int .i64 v2)))],H:=[],nx:=0,n:=21,pin:=[] }
theorem run (N:Nat) (o0:Orc E R) (a0:List Int) (a1:Int):runF T (G N) live [] Try.f33 code (sp N) o0 (a0,a1,())=m0 N a0 a1 (fun a=>o0 loop2 (K2 N o0) (St2 a0 a1 a)):=by kernel_rfl
theorem body2_0 (N:Nat) (o0:Orc E R) (o1:Orc E R) (q1:St E→Option R) (a0:List Int) (a1:Int) (v1:Int) (v2:Int):runA T (G N) live [] o1 body2 (St2 a0 a1 (v1,v2)) (kloop [0,1,5] q1 (K2 N o0))=step2 N a0 a1 (fun a=>q1 (St2 a0 a1 a)) (v1,v2):=by kernel_rfl
theorem lp2_eq (N:Nat) (a0:List Int) (a1:Int) (a:Int×Int):(orc T (G N) live [] N 2) loop2 (K2 N (orc T (G N) live [] N 2)) (St2 a0 a1 a)=lp2 N a0 a1 a:=
 (orc_loop (b:=body2) (live:=[0,1,5]) (by kernel_rfl)).trans (iter_eq (St2 a0 a1) _ _ (fun q1 a=>by
  have hc:=congrFun (congrFun (rfl:(step2 N a0 a1)=(step2 N a0 a1)) (fun a=>q1 (St2 a0 a1 a))) a
  obtain ⟨u0,u1⟩:=a
  exact (body2_0 N (orc T (G N) live [] N 2) (orc T (G N) live [] N 1) q1 a0 a1 u0 u1).trans hc) N a)
theorem G_ok (N:Nat):GamOK Try.prog (G N):=gam_ok (trivial)
theorem snd (N:Nat):Sound Try.prog E 33 (sp N):=
 Mir.sound T_OK (G_ok N) mixed Try.func33 (c:=code) (by kernel_rfl) (by kernel_rfl) (sp N) (Nat.le_of_ble_eq_true (by kernel_rfl)) live [] (by
  rintro ⟨a0,a1,_⟩ r h
  exact ⟨N,2,((run N _ a0 a1).trans (congrArg (m0 N a0 a1) (funext fun a=>lp2_eq N a0 a1 a))).trans h⟩)
end laws_heldIntS
namespace laws_heldNode
noncomputable def code:Code:=Try.f12.body.getD .skip
abbrev live:Live:=[]
noncomputable def G (N:Nat):Ctx E:=gam [(32,[],laws_heldEntryS.sp N),(33,[],laws_heldIntS.sp N)]
theorem run (N:Nat) (o0:Orc E R) (a0:Node) (a1:Int):runF T (G N) live [] Try.f12 code (sp N) o0 (a0,a1,())=m N a0 a1:=by kernel_rfl
theorem G_ok (N:Nat):GamOK Try.prog (G N):=gam_ok (⟨laws_heldEntryS.snd N,laws_heldIntS.snd N,trivial⟩)
theorem snd (N:Nat):Sound Try.prog E 12 (sp N):=
 Mir.sound T_OK (G_ok N) mixed Try.func12 (c:=code) (by kernel_rfl) (by kernel_rfl) (sp N) (Nat.le_of_ble_eq_true (by kernel_rfl)) live [] (by
  rintro ⟨a0,a1,_⟩ r h
  exact ⟨N,2,((run N _ a0 a1).trans rfl).trans h⟩)
end laws_heldNode
namespace laws_heldMessageS
noncomputable def code:Code:=Try.f13.body.getD .skip
abbrev live:Live:=[(2,[0,1,5])]
noncomputable def G (N:Nat):Ctx E:=gam [(32,[],laws_heldEntryS.sp N)]
noncomputable def loop2:Code:=codeAt code [1,0,1,0]
noncomputable def body2:Code:=codeAt loop2 [0]
noncomputable def K2 (N:Nat) (o0:Orc E R):KT E R:=kAt T (G N) live [] o0 code [1,0,1,0] (kfin T Try.f13 (sp N))
noncomputable def St2 (a0:List Message) (a1:Int):(Int×Int)→St E
 | (v1,v2)=>{ ρ:=[(0,.c (.at (.ro 57 (.st 57) a0))),(1,.c (.at (.int .i64 v1))),(5,.c (.at (.int .i64 v2)))],H:=[],nx:=0,n:=96,pin:=[] }
theorem run (N:Nat) (o0:Orc E R) (a0:List Message) (a1:Int):runF T (G N) live [] Try.f13 code (sp N) o0 (a0,a1,())=m0 N a0 a1 (fun a=>o0 loop2 (K2 N o0) (St2 a0 a1 a)):=by kernel_rfl
theorem body2_0 (N:Nat) (o0:Orc E R) (o1:Orc E R) (q1:St E→Option R) (a0:List Message) (a1:Int) (v1:Int) (v2:Int):runA T (G N) live [] o1 body2 (St2 a0 a1 (v1,v2)) (kloop [0,1,5] q1 (K2 N o0))=step2 N a0 a1 (fun a=>q1 (St2 a0 a1 a)) (v1,v2):=by kernel_rfl
theorem lp2_eq (N:Nat) (a0:List Message) (a1:Int) (a:Int×Int):(orc T (G N) live [] N 2) loop2 (K2 N (orc T (G N) live [] N 2)) (St2 a0 a1 a)=lp2 N a0 a1 a:=
 (orc_loop (b:=body2) (live:=[0,1,5]) (by kernel_rfl)).trans (iter_eq (St2 a0 a1) _ _ (fun q1 a=>by
  have hc:=congrFun (congrFun (rfl:(step2 N a0 a1)=(step2 N a0 a1)) (fun a=>q1 (St2 a0 a1 a))) a
  obtain ⟨u0,u1⟩:=a
  exact (body2_0 N (orc T (G N) live [] N 2) (orc T (G N) live [] N 1) q1 a0 a1 u0 u1).trans hc) N a)
theorem G_ok (N:Nat):GamOK Try.prog (G N):=gam_ok (⟨laws_heldEntryS.snd N,trivial⟩)
theorem snd (N:Nat):Sound Try.prog E 13 (sp N):=
 Mir.sound T_OK (G_ok N) mixed Try.func13 (c:=code) (by kernel_rfl) (by kernel_rfl) (sp N) (Nat.le_of_ble_eq_true (by kernel_rfl)) live [] (by
  rintro ⟨a0,a1,_⟩ r h
  exact ⟨N,2,((run N _ a0 a1).trans (congrArg (m0 N a0 a1) (funext fun a=>lp2_eq N a0 a1 a))).trans h⟩)
end laws_heldMessageS
namespace laws_FnExactNodeTick
noncomputable def code:Code:=Try.f3.body.getD .skip
abbrev live:Live:=[]
noncomputable def G (N:Nat):Ctx E:=gam [(4,[],laws_szNode.sp N),(6,[],laws_toNode.sp N),(5,[],spec_NodeTick.sp N),(7,[],impl_NodeTick.sp N),(8,[],laws_eqNode.sp N),(9,[],laws_eqMessageS.sp N),(10,[],laws_markNode.sp N),(11,[],laws_markMessageS.sp N),(12,[],laws_heldNode.sp N),(13,[],laws_heldMessageS.sp N)]
theorem run (N:Nat) (o0:Orc E R) (a0:Node) (a1:Int):runF T (G N) live [] Try.f3 code (sp N) o0 (a0,a1,())=m N a0 a1:=by kernel_rfl
theorem G_ok (N:Nat):GamOK Try.prog (G N):=gam_ok (⟨laws_szNode.snd N,laws_toNode.snd N,spec_NodeTick.snd N,impl_NodeTick.snd N,laws_eqNode.snd N,laws_eqMessageS.snd N,laws_markNode.snd N,laws_markMessageS.snd N,laws_heldNode.snd N,laws_heldMessageS.snd N,trivial⟩)
theorem snd (N:Nat):Sound Try.prog E 3 (sp N):=
 Mir.sound T_OK (G_ok N) mixed Try.func3 (c:=code) (by kernel_rfl) (by kernel_rfl) (sp N) (Nat.le_of_ble_eq_true (by kernel_rfl)) live [] (by
  rintro ⟨a0,a1,_⟩ r h
  exact ⟨N,2,((run N _ a0 a1).trans rfl).trans h⟩)
end laws_FnExactNodeTick
end Mir.Y
