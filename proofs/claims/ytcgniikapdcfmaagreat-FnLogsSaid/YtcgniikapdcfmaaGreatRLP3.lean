/- The models are what the functions do. -/
import Derived.Test.YtcgniikapdcfmaaGreatRLP2
namespace Mir.Y
set_option linter.unusedVariables false
set_option maxRecDepth 10000
open Go Go.Proofs Mir
namespace slices_IndexFunc_int_int__impl_worker_others_1
noncomputable def code:Code:=Tryz.f77.body.getD .skip
abbrev live:Live:=[(2,[0,1,7,8])]
noncomputable def G (N:Nat):Ctx E:=gam [(103,[],impl_worker_others_1.sp N)]
noncomputable def loop2:Code:=codeAt code [1,0,1,0]
noncomputable def body2:Code:=codeAt loop2 [0]
noncomputable def K2 (N:Nat) (o0:Orc E R):KT E R:=kAt T (G N) live [] o0 code [1,0,1,0] (kfin T Tryz.f77 (sp N))
noncomputable def St2 (a0:List Int) (a1_0:worker):(Int×Int)→St E
 | (v1,v2)=>{ ρ:=[(0,.c (.at (.ro 3 (.int .i64) a0))),(1,.clo 103 [.at (.ptr 0 0)]),(7,.c (.at (.int .i64 v1))),(8,.c (.at (.int .i64 v2)))],H:=[(0,.rbx [.ptr 1 0]),(1,.rbx [.int .i64 a1_0.Node.Id,.int .i64 a1_0.Node.Term,.int .i64 a1_0.Node.Vote,.ro 41 (.st 41) a1_0.Node.Log,.ro 3 (.int .i64) a1_0.Node.Start,.int .i64 a1_0.Node.Role,.ro 3 (.int .i64) a1_0.Node.Votes,.ro 3 (.int .i64) a1_0.Node.Next,.ro 3 (.int .i64) a1_0.Node.Match,.int .i64 a1_0.Node.Commit,.int .i64 a1_0.Node.Elapsed,.int .i64 a1_0.Node.Wait,.bool a1_0.Node.Up,.ro 74 (.st 74) a1_0.sent])],nx:=2,n:=19,pin:=[] }
theorem run (N:Nat) (o0:Orc E R) (a0:List Int) (a1_0:worker):runF T (G N) live [] Tryz.f77 code (sp N) o0 (a0,(a1_0,()),())=m0 N a0 a1_0 (fun a=>o0 loop2 (K2 N o0) (St2 a0 a1_0 a)):=by kernel_rfl
theorem body2_0 (N:Nat) (o0:Orc E R) (o1:Orc E R) (q1:St E→Option R) (a0:List Int) (a1_0:worker) (v1:Int) (v2:Int):runA T (G N) live [] o1 body2 (St2 a0 a1_0 (v1,v2)) (kloop [0,1,7,8] q1 (K2 N o0))=step2 N a0 a1_0 (fun a=>q1 (St2 a0 a1_0 a)) (v1,v2):=by kernel_rfl
theorem lp2_eq (N:Nat) (a0:List Int) (a1_0:worker) (a:Int×Int):(orc T (G N) live [] N 2) loop2 (K2 N (orc T (G N) live [] N 2)) (St2 a0 a1_0 a)=lp2 N a0 a1_0 a:=
 (orc_loop (b:=body2) (live:=[0,1,7,8]) (by kernel_rfl)).trans (iter_eq (St2 a0 a1_0) _ _ (fun q1 a=>by
  have hc:=congrFun (congrFun (rfl:(step2 N a0 a1_0)=(step2 N a0 a1_0)) (fun a=>q1 (St2 a0 a1_0 a))) a
  obtain ⟨u0,u1⟩:=a
  exact (body2_0 N (orc T (G N) live [] N 2) (orc T (G N) live [] N 1) q1 a0 a1_0 u0 u1).trans hc) N a)
theorem G_ok (N:Nat):GamOK Tryz.prog (G N):=gam_ok (⟨impl_worker_others_1.snd N,trivial⟩)
theorem snd (N:Nat):Sound Tryz.prog E 77 (sp N):=
 Mir.sound T_OK (G_ok N) mixed Tryz.func77 (c:=code) (by kernel_rfl) (by kernel_rfl) (sp N) (Nat.le_of_ble_eq_true (by kernel_rfl)) live [] (by
  rintro ⟨a0,⟨a1_0,_⟩,_⟩ r h
  exact ⟨N,2,((run N _ a0 a1_0).trans (congrArg (m0 N a0 a1_0) (funext fun a=>lp2_eq N a0 a1_0 a))).trans h⟩)
end slices_IndexFunc_int_int__impl_worker_others_1
namespace slices_DeleteFunc_int_int__impl_worker_others_1
noncomputable def code:Code:=Tryz.f102.body.getD .skip
abbrev live:Live:=[(5,[0,1,5,6])]
noncomputable def G (N:Nat):Ctx E:=gam [(77,[103],slices_IndexFunc_int_int__impl_worker_others_1.sp N),(103,[],impl_worker_others_1.sp N)]
noncomputable def loop5:Code:=codeAt code [1,1,1,0,1,0]
noncomputable def body5:Code:=codeAt loop5 [0]
noncomputable def K5 (N:Nat) (o0:Orc E R):KT E R:=kAt T (G N) live [] o0 code [1,1,1,0,1,0] (kfin T Tryz.f102 (sp N))
noncomputable def St5 (a0:List Int) (a1_0:worker):(Int×Int×(List Int))→St E
 | (v0,v1,v2)=>{ ρ:=[(0,.c (.at (.own 0))),(1,.clo 103 [.at (.ptr 1 0)]),(5,.c (.at (.int .i64 v0))),(6,.c (.at (.int .i64 v1)))],H:=[(0,.row 3 (.int .i64) v2 false),(1,.rbx [.ptr 2 0]),(2,.rbx [.int .i64 a1_0.Node.Id,.int .i64 a1_0.Node.Term,.int .i64 a1_0.Node.Vote,.ro 41 (.st 41) a1_0.Node.Log,.ro 3 (.int .i64) a1_0.Node.Start,.int .i64 a1_0.Node.Role,.ro 3 (.int .i64) a1_0.Node.Votes,.ro 3 (.int .i64) a1_0.Node.Next,.ro 3 (.int .i64) a1_0.Node.Match,.int .i64 a1_0.Node.Commit,.int .i64 a1_0.Node.Elapsed,.int .i64 a1_0.Node.Wait,.bool a1_0.Node.Up,.ro 74 (.st 74) a1_0.sent])],nx:=3,n:=42,pin:=[] }
theorem run (N:Nat) (o0:Orc E R) (a0:List Int) (a1_0:worker):runF T (G N) live [] Tryz.f102 code (sp N) o0 (a0,(a1_0,()),())=m0 N a0 a1_0 (fun a=>o0 loop5 (K5 N o0) (St5 a0 a1_0 a)):=by kernel_rfl
theorem body5_0 (N:Nat) (o0:Orc E R) (o1:Orc E R) (q1:St E→Option R) (a0:List Int) (a1_0:worker) (v0:Int) (v1:Int) (v2:List Int):runA T (G N) live [] o1 body5 (St5 a0 a1_0 (v0,v1,v2)) (kloop [0,1,5,6] q1 (K5 N o0))=step5 N a0 a1_0 (fun a=>q1 (St5 a0 a1_0 a)) (v0,v1,v2):=by kernel_rfl
theorem lp5_eq (N:Nat) (a0:List Int) (a1_0:worker) (a:Int×Int×(List Int)):(orc T (G N) live [] N 2) loop5 (K5 N (orc T (G N) live [] N 2)) (St5 a0 a1_0 a)=lp5 N a0 a1_0 a:=
 (orc_loop (b:=body5) (live:=[0,1,5,6]) (by kernel_rfl)).trans (iter_eq (St5 a0 a1_0) _ _ (fun q1 a=>by
  have hc:=congrFun (congrFun (rfl:(step5 N a0 a1_0)=(step5 N a0 a1_0)) (fun a=>q1 (St5 a0 a1_0 a))) a
  obtain ⟨u0,u1,u2⟩:=a
  exact (body5_0 N (orc T (G N) live [] N 2) (orc T (G N) live [] N 1) q1 a0 a1_0 u0 u1 u2).trans hc) N a)
theorem G_ok (N:Nat):GamOK Tryz.prog (G N):=gam_ok (⟨slices_IndexFunc_int_int__impl_worker_others_1.snd N,impl_worker_others_1.snd N,trivial⟩)
theorem snd (N:Nat):Sound Tryz.prog E 102 (sp N):=
 Mir.sound T_OK (G_ok N) mixed Tryz.func102 (c:=code) (by kernel_rfl) (by kernel_rfl) (sp N) (Nat.le_of_ble_eq_true (by kernel_rfl)) live [] (by
  rintro ⟨a0,⟨a1_0,_⟩,_⟩ r h
  exact ⟨N,2,((run N _ a0 a1_0).trans (congrArg (m0 N a0 a1_0) (funext fun a=>lp5_eq N a0 a1_0 a))).trans h⟩)
end slices_DeleteFunc_int_int__impl_worker_others_1
namespace impl_worker_others_
noncomputable def code:Code:=Tryz.f90.body.getD .skip
abbrev live:Live:=[]
noncomputable def G (N:Nat):Ctx E:=gam [(85,[],impl_Node_members.sp N),(102,[103],slices_DeleteFunc_int_int__impl_worker_others_1.sp N)]
theorem run (N:Nat) (o0:Orc E R) (a0:worker):runF T (G N) live [] Tryz.f90 code (sp N) o0 (a0,())=m N a0:=by kernel_rfl
theorem G_ok (N:Nat):GamOK Tryz.prog (G N):=gam_ok (⟨impl_Node_members.snd N,slices_DeleteFunc_int_int__impl_worker_others_1.snd N,trivial⟩)
theorem snd (N:Nat):Sound Tryz.prog E 90 (sp N):=
 Mir.sound T_OK (G_ok N) mixed Tryz.func90 (c:=code) (by kernel_rfl) (by kernel_rfl) (sp N) (Nat.le_of_ble_eq_true (by kernel_rfl)) live [] (by
  rintro ⟨a0,_⟩ r h
  exact ⟨N,2,((run N _ a0).trans rfl).trans h⟩)
end impl_worker_others_
namespace impl_worker_tell_
noncomputable def code:Code:=Tryz.f91.body.getD .skip
abbrev live:Live:=[]
noncomputable def G (N:Nat):Ctx E:=gam [(87,[],impl_Node_termAt.sp N),(38,[],slices_Clone_impl_Entry_impl_Entry.sp N),(95,[],impl_worker_send.sp N)]
theorem run (N:Nat) (o0:Orc E R) (a0:worker) (a1:Int) (a2:Int):runF T (G N) live [] Tryz.f91 code (sp N) o0 (a0,a1,a2,())=m N a0 a1 a2:=by kernel_rfl
theorem G_ok (N:Nat):GamOK Tryz.prog (G N):=gam_ok (⟨impl_Node_termAt.snd N,slices_Clone_impl_Entry_impl_Entry.snd N,impl_worker_send.snd N,trivial⟩)
theorem snd (N:Nat):Sound Tryz.prog E 91 (sp N):=
 Mir.sound T_OK (G_ok N) mixed Tryz.func91 (c:=code) (by kernel_rfl) (by kernel_rfl) (sp N) (Nat.le_of_ble_eq_true (by kernel_rfl)) live [] (by
  rintro ⟨a0,a1,a2,_⟩ r h
  exact ⟨N,2,((run N _ a0 a1 a2).trans rfl).trans h⟩)
end impl_worker_tell_
namespace impl_worker_tellAll
noncomputable def code:Code:=Tryz.f74.body.getD .skip
abbrev live:Live:=[(1,[0,1,7,8,9])]
noncomputable def G (N:Nat):Ctx E:=gam [(90,[],impl_worker_others_.sp N),(91,[],impl_worker_tell_.sp N)]
noncomputable def loop1:Code:=codeAt code [1,0]
noncomputable def body1:Code:=codeAt loop1 [0]
noncomputable def K1 (N:Nat) (o0:Orc E R):KT E R:=kAt T (G N) live [] o0 code [1,0] (kfin T Tryz.f74 (sp N))
noncomputable def St1 (a0:worker) (a1:Int):(Int×Int×Int×Int×Int×Int×Int×Int×Int×Bool×(List Entry)×(List Int)×(List Int)×(List Int)×(List Int)×(List Message)×(List Int))→St E
 | (v1,v2,v3,v4,v5,v6,v7,v8,v9,v10,v11,v12,v13,v14,v15,v16,v17)=>{ ρ:=[(0,.c (.at (.ptr 0 0))),(1,.c (.at (.int .i64 a1))),(7,.c (.at (.own 7))),(8,.c (.at (.int .i64 v1))),(9,.c (.at (.int .i64 v2)))],H:=[(0,.box 119 [.int .i64 v3,.int .i64 v4,.int .i64 v5,.own 1,.own 2,.int .i64 v6,.own 3,.own 4,.own 5,.int .i64 v7,.int .i64 v8,.int .i64 v9,.bool v10,.own 6]),(1,.row 41 (.st 41) v11 false),(2,.row 3 (.int .i64) v12 false),(3,.row 3 (.int .i64) v13 false),(4,.row 3 (.int .i64) v14 false),(5,.row 3 (.int .i64) v15 false),(6,.row 74 (.st 74) v16 false),(7,.row 3 (.int .i64) v17 false)],nx:=8,n:=18,pin:=[0] }
theorem run (N:Nat) (o0:Orc E R) (a0:worker) (a1:Int):runF T (G N) live [] Tryz.f74 code (sp N) o0 (a0,a1,())=m0 N a0 a1 (fun a=>o0 loop1 (K1 N o0) (St1 a0 a1 a)):=by kernel_rfl
theorem body1_0 (N:Nat) (o0:Orc E R) (o1:Orc E R) (q1:St E→Option R) (a0:worker) (a1:Int) (v1:Int) (v2:Int) (v3:Int) (v4:Int) (v5:Int) (v6:Int) (v7:Int) (v8:Int) (v9:Int) (v10:Bool) (v11:List Entry) (v12:List Int) (v13:List Int) (v14:List Int) (v15:List Int) (v16:List Message) (v17:List Int):runA T (G N) live [] o1 body1 (St1 a0 a1 (v1,v2,v3,v4,v5,v6,v7,v8,v9,v10,v11,v12,v13,v14,v15,v16,v17)) (kloop [0,1,7,8,9] q1 (K1 N o0))=step1 N a0 a1 (fun a=>q1 (St1 a0 a1 a)) (v1,v2,v3,v4,v5,v6,v7,v8,v9,v10,v11,v12,v13,v14,v15,v16,v17):=by kernel_rfl
theorem lp1_eq (N:Nat) (a0:worker) (a1:Int) (a:Int×Int×Int×Int×Int×Int×Int×Int×Int×Bool×(List Entry)×(List Int)×(List Int)×(List Int)×(List Int)×(List Message)×(List Int)):(orc T (G N) live [] N 2) loop1 (K1 N (orc T (G N) live [] N 2)) (St1 a0 a1 a)=lp1 N a0 a1 a:=
 (orc_loop (b:=body1) (live:=[0,1,7,8,9]) (by kernel_rfl)).trans (iter_eq (St1 a0 a1) _ _ (fun q1 a=>by
  have hc:=congrFun (congrFun (rfl:(step1 N a0 a1)=(step1 N a0 a1)) (fun a=>q1 (St1 a0 a1 a))) a
  obtain ⟨u0,u1,u2,u3,u4,u5,u6,u7,u8,u9,u10,u11,u12,u13,u14,u15,u16⟩:=a
  exact (body1_0 N (orc T (G N) live [] N 2) (orc T (G N) live [] N 1) q1 a0 a1 u0 u1 u2 u3 u4 u5 u6 u7 u8 u9 u10 u11 u12 u13 u14 u15 u16).trans hc) N a)
theorem G_ok (N:Nat):GamOK Tryz.prog (G N):=gam_ok (⟨impl_worker_others_.snd N,impl_worker_tell_.snd N,trivial⟩)
theorem snd (N:Nat):Sound Tryz.prog E 74 (sp N):=
 Mir.sound T_OK (G_ok N) mixed Tryz.func74 (c:=code) (by kernel_rfl) (by kernel_rfl) (sp N) (Nat.le_of_ble_eq_true (by kernel_rfl)) live [] (by
  rintro ⟨a0,a1,_⟩ r h
  exact ⟨N,2,((run N _ a0 a1).trans (congrArg (m0 N a0 a1) (funext fun a=>lp1_eq N a0 a1 a))).trans h⟩)
end impl_worker_tellAll
namespace impl_worker_lead_
noncomputable def code:Code:=Tryz.f110.body.getD .skip
abbrev live:Live:=[]
noncomputable def G (N:Nat):Ctx E:=gam [(53,[],slices_Repeat_int_int.sp N),(73,[],impl_worker_commit.sp N),(74,[],impl_worker_tellAll.sp N)]
theorem run (N:Nat) (o0:Orc E R) (a0:worker):runF T (G N) live [] Tryz.f110 code (sp N) o0 (a0,())=m N a0:=by kernel_rfl
theorem G_ok (N:Nat):GamOK Tryz.prog (G N):=gam_ok (⟨slices_Repeat_int_int.snd N,impl_worker_commit.snd N,impl_worker_tellAll.snd N,trivial⟩)
theorem snd (N:Nat):Sound Tryz.prog E 110 (sp N):=
 Mir.sound T_OK (G_ok N) mixed Tryz.func110 (c:=code) (by kernel_rfl) (by kernel_rfl) (sp N) (Nat.le_of_ble_eq_true (by kernel_rfl)) live [] (by
  rintro ⟨a0,_⟩ r h
  exact ⟨N,2,((run N _ a0).trans rfl).trans h⟩)
end impl_worker_lead_
namespace impl_worker_leadIf
noncomputable def code:Code:=Tryz.f98.body.getD .skip
abbrev live:Live:=[]
noncomputable def G (N:Nat):Ctx E:=gam [(88,[109],impl_worker_isMost__impl_worker_leadIf_1_.sp N),(110,[],impl_worker_lead_.sp N)]
theorem run (N:Nat) (o0:Orc E R) (a0:worker):runF T (G N) live [] Tryz.f98 code (sp N) o0 (a0,())=m N a0:=by kernel_rfl
theorem G_ok (N:Nat):GamOK Tryz.prog (G N):=gam_ok (⟨impl_worker_isMost__impl_worker_leadIf_1_.snd N,impl_worker_lead_.snd N,trivial⟩)
theorem snd (N:Nat):Sound Tryz.prog E 98 (sp N):=
 Mir.sound T_OK (G_ok N) mixed Tryz.func98 (c:=code) (by kernel_rfl) (by kernel_rfl) (sp N) (Nat.le_of_ble_eq_true (by kernel_rfl)) live [] (by
  rintro ⟨a0,_⟩ r h
  exact ⟨N,2,((run N _ a0).trans rfl).trans h⟩)
end impl_worker_leadIf
namespace impl_worker_voted
noncomputable def code:Code:=Tryz.f81.body.getD .skip
abbrev live:Live:=[]
noncomputable def G (N:Nat):Ctx E:=gam [(96,[],slices_BinarySearch_int_int.sp N),(97,[],slices_Insert_int.sp N),(98,[],impl_worker_leadIf.sp N)]
theorem run (N:Nat) (o0:Orc E R) (a0:worker) (a1:Message):runF T (G N) live [] Tryz.f81 code (sp N) o0 (a0,a1,())=m N a0 a1:=by kernel_rfl
theorem G_ok (N:Nat):GamOK Tryz.prog (G N):=gam_ok (⟨slices_BinarySearch_int_int.snd N,slices_Insert_int.snd N,impl_worker_leadIf.snd N,trivial⟩)
theorem snd (N:Nat):Sound Tryz.prog E 81 (sp N):=
 Mir.sound T_OK (G_ok N) mixed Tryz.func81 (c:=code) (by kernel_rfl) (by kernel_rfl) (sp N) (Nat.le_of_ble_eq_true (by kernel_rfl)) live [] (by
  rintro ⟨a0,a1,_⟩ r h
  exact ⟨N,2,((run N _ a0 a1).trans rfl).trans h⟩)
end impl_worker_voted
namespace impl_worker_store
noncomputable def code:Code:=Tryz.f99.body.getD .skip
abbrev live:Live:=[(2,[0,3,8,9,10])]
noncomputable def G (N:Nat):Ctx E:=gam [(87,[],impl_Node_termAt.sp N)]
noncomputable def loop2:Code:=codeAt code [1,1,0]
noncomputable def body2:Code:=codeAt loop2 [0]
noncomputable def K2 (N:Nat) (o0:Orc E R):KT E R:=kAt T (G N) live [] o0 code [1,1,0] (kfin T Tryz.f99 (sp N))
noncomputable def St2 (a0:worker) (a1:Message):(Int×Int)→St E
 | (v1,v2)=>{ ρ:=[(0,.c (.at (.ptr 0 0))),(3,.c (.at (.ptr 7 0))),(8,.c (.at (.ro 41 (.st 41) a1.Entries))),(9,.c (.at (.int .i64 v1))),(10,.c (.at (.int .i64 v2)))],H:=[(0,.box 119 [.int .i64 a0.Node.Id,.int .i64 a0.Node.Term,.int .i64 a0.Node.Vote,.own 1,.own 2,.int .i64 a0.Node.Role,.own 3,.own 4,.own 5,.int .i64 a0.Node.Commit,.int .i64 a0.Node.Elapsed,.int .i64 a0.Node.Wait,.bool a0.Node.Up,.own 6]),(1,.row 41 (.st 41) a0.Node.Log false),(2,.row 3 (.int .i64) a0.Node.Start false),(3,.row 3 (.int .i64) a0.Node.Votes false),(4,.row 3 (.int .i64) a0.Node.Next false),(5,.row 3 (.int .i64) a0.Node.Match false),(6,.row 74 (.st 74) a0.sent false),(7,.box 74 [.int .i64 a1.Kind,.int .i64 a1.From,.int .i64 a1.To,.int .i64 a1.Term,.int .i64 a1.Index,.int .i64 a1.LogTerm,.int .i64 a1.Commit,.ro 41 (.st 41) a1.Entries,.bool a1.Ok])],nx:=8,n:=57,pin:=[0] }
theorem run (N:Nat) (o0:Orc E R) (a0:worker) (a1:Message):runF T (G N) live [] Tryz.f99 code (sp N) o0 (a0,a1,())=m0 N a0 a1 (fun a=>o0 loop2 (K2 N o0) (St2 a0 a1 a)):=by kernel_rfl
theorem body2_0 (N:Nat) (o0:Orc E R) (o1:Orc E R) (q1:St E→Option R) (a0:worker) (a1:Message) (v1:Int) (v2:Int):runA T (G N) live [] o1 body2 (St2 a0 a1 (v1,v2)) (kloop [0,3,8,9,10] q1 (K2 N o0))=step2 N a0 a1 (fun a=>q1 (St2 a0 a1 a)) (v1,v2):=by kernel_rfl
theorem lp2_eq (N:Nat) (a0:worker) (a1:Message) (a:Int×Int):(orc T (G N) live [] N 2) loop2 (K2 N (orc T (G N) live [] N 2)) (St2 a0 a1 a)=lp2 N a0 a1 a:=
 (orc_loop (b:=body2) (live:=[0,3,8,9,10]) (by kernel_rfl)).trans (iter_eq (St2 a0 a1) _ _ (fun q1 a=>by
  have hc:=congrFun (congrFun (rfl:(step2 N a0 a1)=(step2 N a0 a1)) (fun a=>q1 (St2 a0 a1 a))) a
  obtain ⟨u0,u1⟩:=a
  exact (body2_0 N (orc T (G N) live [] N 2) (orc T (G N) live [] N 1) q1 a0 a1 u0 u1).trans hc) N a)
theorem G_ok (N:Nat):GamOK Tryz.prog (G N):=gam_ok (⟨impl_Node_termAt.snd N,trivial⟩)
theorem snd (N:Nat):Sound Tryz.prog E 99 (sp N):=
 Mir.sound T_OK (G_ok N) mixed Tryz.func99 (c:=code) (by kernel_rfl) (by kernel_rfl) (sp N) (Nat.le_of_ble_eq_true (by kernel_rfl)) live [] (by
  rintro ⟨a0,a1,_⟩ r h
  exact ⟨N,2,((run N _ a0 a1).trans (congrArg (m0 N a0 a1) (funext fun a=>lp2_eq N a0 a1 a))).trans h⟩)
end impl_worker_store
namespace impl_worker_takeAppend
noncomputable def code:Code:=Tryz.f82.body.getD .skip
abbrev live:Live:=[]
noncomputable def G (N:Nat):Ctx E:=gam [(95,[],impl_worker_send.sp N),(34,[],impl_Node_follow_.sp N),(87,[],impl_Node_termAt.sp N),(99,[],impl_worker_store.sp N)]
theorem run (N:Nat) (o0:Orc E R) (a0:worker) (a1:Message):runF T (G N) live [] Tryz.f82 code (sp N) o0 (a0,a1,())=m N a0 a1:=by kernel_rfl
theorem G_ok (N:Nat):GamOK Tryz.prog (G N):=gam_ok (⟨impl_worker_send.snd N,impl_Node_follow_.snd N,impl_Node_termAt.snd N,impl_worker_store.snd N,trivial⟩)
theorem snd (N:Nat):Sound Tryz.prog E 82 (sp N):=
 Mir.sound T_OK (G_ok N) mixed Tryz.func82 (c:=code) (by kernel_rfl) (by kernel_rfl) (sp N) (Nat.le_of_ble_eq_true (by kernel_rfl)) live [] (by
  rintro ⟨a0,a1,_⟩ r h
  exact ⟨N,2,((run N _ a0 a1).trans rfl).trans h⟩)
end impl_worker_takeAppend
namespace impl_worker_appended
noncomputable def code:Code:=Tryz.f83.body.getD .skip
abbrev live:Live:=[]
noncomputable def G (N:Nat):Ctx E:=gam [(73,[],impl_worker_commit.sp N),(91,[],impl_worker_tell_.sp N)]
theorem run (N:Nat) (o0:Orc E R) (a0:worker) (a1:Message):runF T (G N) live [] Tryz.f83 code (sp N) o0 (a0,a1,())=m N a0 a1:=by kernel_rfl
theorem G_ok (N:Nat):GamOK Tryz.prog (G N):=gam_ok (⟨impl_worker_commit.snd N,impl_worker_tell_.snd N,trivial⟩)
theorem snd (N:Nat):Sound Tryz.prog E 83 (sp N):=
 Mir.sound T_OK (G_ok N) mixed Tryz.func83 (c:=code) (by kernel_rfl) (by kernel_rfl) (sp N) (Nat.le_of_ble_eq_true (by kernel_rfl)) live [] (by
  rintro ⟨a0,a1,_⟩ r h
  exact ⟨N,2,((run N _ a0 a1).trans rfl).trans h⟩)
end impl_worker_appended
namespace impl_worker_take
noncomputable def code:Code:=Tryz.f70.body.getD .skip
abbrev live:Live:=[]
noncomputable def G (N:Nat):Ctx E:=gam [(34,[],impl_Node_follow_.sp N),(80,[],impl_worker_vote.sp N),(81,[],impl_worker_voted.sp N),(82,[],impl_worker_takeAppend.sp N),(83,[],impl_worker_appended.sp N)]
theorem run (N:Nat) (o0:Orc E R) (a0:worker) (a1:Message):runF T (G N) live [] Tryz.f70 code (sp N) o0 (a0,a1,())=m N a0 a1:=by kernel_rfl
theorem G_ok (N:Nat):GamOK Tryz.prog (G N):=gam_ok (⟨impl_Node_follow_.snd N,impl_worker_vote.snd N,impl_worker_voted.snd N,impl_worker_takeAppend.snd N,impl_worker_appended.snd N,trivial⟩)
theorem snd (N:Nat):Sound Tryz.prog E 70 (sp N):=
 Mir.sound T_OK (G_ok N) mixed Tryz.func70 (c:=code) (by kernel_rfl) (by kernel_rfl) (sp N) (Nat.le_of_ble_eq_true (by kernel_rfl)) live [] (by
  rintro ⟨a0,a1,_⟩ r h
  exact ⟨N,2,((run N _ a0 a1).trans rfl).trans h⟩)
end impl_worker_take
namespace impl_worker_asNode
noncomputable def code:Code:=Tryz.f71.body.getD .skip
abbrev live:Live:=[]
noncomputable def G (N:Nat):Ctx E:=gam [(36,[],impl_copyNode.sp N)]
theorem run (N:Nat) (o0:Orc E R) (a0:worker):runF T (G N) live [] Tryz.f71 code (sp N) o0 (a0,())=m N a0:=by kernel_rfl
theorem G_ok (N:Nat):GamOK Tryz.prog (G N):=gam_ok (⟨impl_copyNode.snd N,trivial⟩)
theorem snd (N:Nat):Sound Tryz.prog E 71 (sp N):=
 Mir.sound T_OK (G_ok N) mixed Tryz.func71 (c:=code) (by kernel_rfl) (by kernel_rfl) (sp N) (Nat.le_of_ble_eq_true (by kernel_rfl)) live [] (by
  rintro ⟨a0,_⟩ r h
  exact ⟨N,2,((run N _ a0).trans rfl).trans h⟩)
end impl_worker_asNode
namespace impl_NodeTake
noncomputable def code:Code:=Tryz.f56.body.getD .skip
abbrev live:Live:=[]
noncomputable def G (N:Nat):Ctx E:=gam [(28,[],impl_NodeOK.sp N),(31,[],impl_messageOK.sp N),(36,[],impl_copyNode.sp N),(70,[],impl_worker_take.sp N),(71,[],impl_worker_asNode.sp N)]
theorem run (N:Nat) (o0:Orc E R) (a0:Node) (a1:Message):runF T (G N) live [] Tryz.f56 code (sp N) o0 (a0,a1,())=m N a0 a1:=by kernel_rfl
theorem G_ok (N:Nat):GamOK Tryz.prog (G N):=gam_ok (⟨impl_NodeOK.snd N,impl_messageOK.snd N,impl_copyNode.snd N,impl_worker_take.snd N,impl_worker_asNode.snd N,trivial⟩)
theorem snd (N:Nat):Sound Tryz.prog E 56 (sp N):=
 Mir.sound T_OK (G_ok N) mixed Tryz.func56 (c:=code) (by kernel_rfl) (by kernel_rfl) (sp N) (Nat.le_of_ble_eq_true (by kernel_rfl)) live [] (by
  rintro ⟨a0,a1,_⟩ r h
  exact ⟨N,2,((run N _ a0 a1).trans rfl).trans h⟩)
end impl_NodeTake
namespace impl_Group_put_
noncomputable def code:Code:=Tryz.f69.body.getD .skip
abbrev live:Live:=[(6,[0,2,4,7])]
noncomputable def G (N:Nat):Ctx E:=gam [(38,[],slices_Clone_impl_Entry_impl_Entry.sp N)]
noncomputable def loop6:Code:=codeAt code [1,1,1,1,0,1,0]
noncomputable def body6:Code:=codeAt loop6 [0]
noncomputable def K6 (N:Nat) (o0:Orc E R):KT E R:=kAt T (G N) live [] o0 code [1,1,1,1,0,1,0] (kfin T Tryz.f69 (sp N))
noncomputable def St6 (a0:Group) (a1:Node) (a2:List Message):(Int×(List Node)×(List Lead)×(List Done))→St E
 | (v1,v2,v4,v5)=>{ ρ:=[(0,.c (.at (.ptr 0 0))),(2,.c (.at (.ro 74 (.st 74) a2))),(4,.c (.at (.ptr 5 0))),(7,.c (.at (.int .i64 v1)))],H:=[(0,.box 29 [.own 1,.own 2,.own 3,.own 4]),(1,.row 39 (.st 39) v2 false),(2,.row 74 (.st 74) a0.Wire false),(3,.row 67 (.st 67) v4 false),(4,.row 70 (.st 70) v5 false),(5,.box 39 [.int .i64 a1.Id,.int .i64 a1.Term,.int .i64 a1.Vote,.ro 41 (.st 41) a1.Log,.ro 3 (.int .i64) a1.Start,.int .i64 a1.Role,.ro 3 (.int .i64) a1.Votes,.ro 3 (.int .i64) a1.Next,.ro 3 (.int .i64) a1.Match,.int .i64 a1.Commit,.int .i64 a1.Elapsed,.int .i64 a1.Wait,.bool a1.Up])],nx:=6,n:=107,pin:=[0] }
theorem run (N:Nat) (o0:Orc E R) (a0:Group) (a1:Node) (a2:List Message):runF T (G N) live [] Tryz.f69 code (sp N) o0 (a0,a1,a2,())=m0 N a0 a1 a2 (fun a=>o0 loop6 (K6 N o0) (St6 a0 a1 a2 a)):=by kernel_rfl
theorem body6_0 (N:Nat) (o0:Orc E R) (o1:Orc E R) (q1:St E→Option R) (a0:Group) (a1:Node) (a2:List Message) (v1:Int) (v2:List Node) (v4:List Lead) (v5:List Done):runA T (G N) live [] o1 body6 (St6 a0 a1 a2 (v1,v2,v4,v5)) (kloop [0,2,4,7] q1 (K6 N o0))=step6 N a0 a1 a2 (fun a=>q1 (St6 a0 a1 a2 a)) (v1,v2,v4,v5):=by kernel_rfl
theorem lp6_eq (N:Nat) (a0:Group) (a1:Node) (a2:List Message) (a:Int×(List Node)×(List Lead)×(List Done)):(orc T (G N) live [] N 2) loop6 (K6 N (orc T (G N) live [] N 2)) (St6 a0 a1 a2 a)=lp6 N a0 a1 a2 a:=
 (orc_loop (b:=body6) (live:=[0,2,4,7]) (by kernel_rfl)).trans (iter_eq (St6 a0 a1 a2) _ _ (fun q1 a=>by
  have hc:=congrFun (congrFun (rfl:(step6 N a0 a1 a2)=(step6 N a0 a1 a2)) (fun a=>q1 (St6 a0 a1 a2 a))) a
  obtain ⟨u0,u1,u2,u3⟩:=a
  exact (body6_0 N (orc T (G N) live [] N 2) (orc T (G N) live [] N 1) q1 a0 a1 a2 u0 u1 u2 u3).trans hc) N a)
theorem G_ok (N:Nat):GamOK Tryz.prog (G N):=gam_ok (⟨slices_Clone_impl_Entry_impl_Entry.snd N,trivial⟩)
theorem snd (N:Nat):Sound Tryz.prog E 69 (sp N):=
 Mir.sound T_OK (G_ok N) mixed Tryz.func69 (c:=code) (by kernel_rfl) (by kernel_rfl) (sp N) (Nat.le_of_ble_eq_true (by kernel_rfl)) live [] (by
  rintro ⟨a0,a1,a2,_⟩ r h
  exact ⟨N,2,((run N _ a0 a1 a2).trans (congrArg (m0 N a0 a1 a2) (funext fun a=>lp6_eq N a0 a1 a2 a))).trans h⟩)
end impl_Group_put_
namespace impl_Group_done
noncomputable def code:Code:=Tryz.f55.body.getD .skip
abbrev live:Live:=[]
noncomputable def G (N:Nat):Ctx E:=gam [(69,[],impl_Group_put_.sp N)]
theorem run (N:Nat) (o0:Orc E R) (a0:Group) (a1:Node) (a2:List Message) (a3:Int):runF T (G N) live [] Tryz.f55 code (sp N) o0 (a0,a1,a2,a3,())=m N a0 a1 a2 a3:=by kernel_rfl
theorem G_ok (N:Nat):GamOK Tryz.prog (G N):=gam_ok (⟨impl_Group_put_.snd N,trivial⟩)
theorem snd (N:Nat):Sound Tryz.prog E 55 (sp N):=
 Mir.sound T_OK (G_ok N) mixed Tryz.func55 (c:=code) (by kernel_rfl) (by kernel_rfl) (sp N) (Nat.le_of_ble_eq_true (by kernel_rfl)) live [] (by
  rintro ⟨a0,a1,a2,a3,_⟩ r h
  exact ⟨N,2,((run N _ a0 a1 a2 a3).trans rfl).trans h⟩)
end impl_Group_done
namespace impl_Group_ofWire_
noncomputable def code:Code:=Tryz.f39.body.getD .skip
abbrev live:Live:=[]
noncomputable def G (N:Nat):Ctx E:=gam [(17,[],impl_within.sp N),(37,[],impl_copyMessage.sp N),(54,[],slices_Delete_impl_Message.sp N),(56,[],impl_NodeTake.sp N),(55,[],impl_Group_done.sp N)]
theorem run (N:Nat) (o0:Orc E R) (a0:Group) (a1:GroupAct):runF T (G N) live [] Tryz.f39 code (sp N) o0 (a0,a1,())=m N a0 a1:=by kernel_rfl
theorem G_ok (N:Nat):GamOK Tryz.prog (G N):=gam_ok (⟨impl_within.snd N,impl_copyMessage.snd N,slices_Delete_impl_Message.snd N,impl_NodeTake.snd N,impl_Group_done.snd N,trivial⟩)
theorem snd (N:Nat):Sound Tryz.prog E 39 (sp N):=
 Mir.sound T_OK (G_ok N) mixed Tryz.func39 (c:=code) (by kernel_rfl) (by kernel_rfl) (sp N) (Nat.le_of_ble_eq_true (by kernel_rfl)) live [] (by
  rintro ⟨a0,a1,_⟩ r h
  exact ⟨N,2,((run N _ a0 a1).trans rfl).trans h⟩)
end impl_Group_ofWire_
namespace impl_NodeCrash
noncomputable def code:Code:=Tryz.f57.body.getD .skip
abbrev live:Live:=[]
noncomputable def G (N:Nat):Ctx E:=gam [(28,[],impl_NodeOK.sp N),(18,[],impl_newNode.sp N),(38,[],slices_Clone_impl_Entry_impl_Entry.sp N)]
theorem run (N:Nat) (o0:Orc E R) (a0:Node):runF T (G N) live [] Tryz.f57 code (sp N) o0 (a0,())=m N a0:=by kernel_rfl
theorem G_ok (N:Nat):GamOK Tryz.prog (G N):=gam_ok (⟨impl_NodeOK.snd N,impl_newNode.snd N,slices_Clone_impl_Entry_impl_Entry.snd N,trivial⟩)
theorem snd (N:Nat):Sound Tryz.prog E 57 (sp N):=
 Mir.sound T_OK (G_ok N) mixed Tryz.func57 (c:=code) (by kernel_rfl) (by kernel_rfl) (sp N) (Nat.le_of_ble_eq_true (by kernel_rfl)) live [] (by
  rintro ⟨a0,_⟩ r h
  exact ⟨N,2,((run N _ a0).trans rfl).trans h⟩)
end impl_NodeCrash
namespace impl_worker_stand
noncomputable def code:Code:=Tryz.f86.body.getD .skip
abbrev live:Live:=[(4,[0,52,53,54])]
noncomputable def G (N:Nat):Ctx E:=gam [(98,[],impl_worker_leadIf.sp N),(90,[],impl_worker_others_.sp N),(87,[],impl_Node_termAt.sp N),(95,[],impl_worker_send.sp N)]
noncomputable def loop4:Code:=codeAt code [1,1,1,1,0]
noncomputable def body4:Code:=codeAt loop4 [0]
noncomputable def K4 (N:Nat) (o0:Orc E R):KT E R:=kAt T (G N) live [] o0 code [1,1,1,1,0] (kfin T Tryz.f86 (sp N))
noncomputable def St4 (a0:worker) (a1:Int):(Int×Int×Int×Int×Int×Int×Int×Int×Int×Bool×(List Entry)×(List Int)×(List Int)×(List Int)×(List Int)×(List Message)×(List Int))→St E
 | (v0,v1,v2,v3,v4,v5,v6,v7,v8,v9,v10,v11,v12,v13,v14,v15,v16)=>{ ρ:=[(0,.c (.at (.ptr 0 0))),(52,.c (.at (.own 7))),(53,.c (.at (.int .i64 v0))),(54,.c (.at (.int .i64 v1)))],H:=[(0,.box 119 [.int .i64 v2,.int .i64 v3,.int .i64 v4,.own 1,.own 2,.int .i64 v5,.own 3,.own 4,.own 5,.int .i64 v6,.int .i64 v7,.int .i64 v8,.bool v9,.own 6]),(1,.row 41 (.st 41) v10 false),(2,.row 3 (.int .i64) v11 false),(3,.row 3 (.int .i64) v12 false),(4,.row 3 (.int .i64) v13 false),(5,.row 3 (.int .i64) v14 false),(6,.row 74 (.st 74) v15 false),(7,.row 3 (.int .i64) v16 false)],nx:=8,n:=80,pin:=[0] }
theorem run (N:Nat) (o0:Orc E R) (a0:worker) (a1:Int):runF T (G N) live [] Tryz.f86 code (sp N) o0 (a0,a1,())=m0 N a0 a1 (fun a=>o0 loop4 (K4 N o0) (St4 a0 a1 a)):=by kernel_rfl
theorem body4_0 (N:Nat) (o0:Orc E R) (o1:Orc E R) (q1:St E→Option R) (a0:worker) (a1:Int) (v0:Int) (v1:Int) (v2:Int) (v3:Int) (v4:Int) (v5:Int) (v6:Int) (v7:Int) (v8:Int) (v9:Bool) (v10:List Entry) (v11:List Int) (v12:List Int) (v13:List Int) (v14:List Int) (v15:List Message) (v16:List Int):runA T (G N) live [] o1 body4 (St4 a0 a1 (v0,v1,v2,v3,v4,v5,v6,v7,v8,v9,v10,v11,v12,v13,v14,v15,v16)) (kloop [0,52,53,54] q1 (K4 N o0))=step4 N a0 a1 (fun a=>q1 (St4 a0 a1 a)) (v0,v1,v2,v3,v4,v5,v6,v7,v8,v9,v10,v11,v12,v13,v14,v15,v16):=by kernel_rfl
theorem lp4_eq (N:Nat) (a0:worker) (a1:Int) (a:Int×Int×Int×Int×Int×Int×Int×Int×Int×Bool×(List Entry)×(List Int)×(List Int)×(List Int)×(List Int)×(List Message)×(List Int)):(orc T (G N) live [] N 2) loop4 (K4 N (orc T (G N) live [] N 2)) (St4 a0 a1 a)=lp4 N a0 a1 a:=
 (orc_loop (b:=body4) (live:=[0,52,53,54]) (by kernel_rfl)).trans (iter_eq (St4 a0 a1) _ _ (fun q1 a=>by
  have hc:=congrFun (congrFun (rfl:(step4 N a0 a1)=(step4 N a0 a1)) (fun a=>q1 (St4 a0 a1 a))) a
  obtain ⟨u0,u1,u2,u3,u4,u5,u6,u7,u8,u9,u10,u11,u12,u13,u14,u15,u16⟩:=a
  exact (body4_0 N (orc T (G N) live [] N 2) (orc T (G N) live [] N 1) q1 a0 a1 u0 u1 u2 u3 u4 u5 u6 u7 u8 u9 u10 u11 u12 u13 u14 u15 u16).trans hc) N a)
theorem G_ok (N:Nat):GamOK Tryz.prog (G N):=gam_ok (⟨impl_worker_leadIf.snd N,impl_worker_others_.snd N,impl_Node_termAt.snd N,impl_worker_send.snd N,trivial⟩)
theorem snd (N:Nat):Sound Tryz.prog E 86 (sp N):=
 Mir.sound T_OK (G_ok N) mixed Tryz.func86 (c:=code) (by kernel_rfl) (by kernel_rfl) (sp N) (Nat.le_of_ble_eq_true (by kernel_rfl)) live [] (by
  rintro ⟨a0,a1,_⟩ r h
  exact ⟨N,2,((run N _ a0 a1).trans (congrArg (m0 N a0 a1) (funext fun a=>lp4_eq N a0 a1 a))).trans h⟩)
end impl_worker_stand
namespace impl_worker_tick
noncomputable def code:Code:=Tryz.f72.body.getD .skip
abbrev live:Live:=[]
noncomputable def G (N:Nat):Ctx E:=gam [(74,[],impl_worker_tellAll.sp N),(85,[],impl_Node_members.sp N),(84,[],slices_Contains_int_int.sp N),(86,[],impl_worker_stand.sp N)]
theorem run (N:Nat) (o0:Orc E R) (a0:worker) (a1:Int):runF T (G N) live [] Tryz.f72 code (sp N) o0 (a0,a1,())=m N a0 a1:=by kernel_rfl
theorem G_ok (N:Nat):GamOK Tryz.prog (G N):=gam_ok (⟨impl_worker_tellAll.snd N,impl_Node_members.snd N,slices_Contains_int_int.snd N,impl_worker_stand.snd N,trivial⟩)
theorem snd (N:Nat):Sound Tryz.prog E 72 (sp N):=
 Mir.sound T_OK (G_ok N) mixed Tryz.func72 (c:=code) (by kernel_rfl) (by kernel_rfl) (sp N) (Nat.le_of_ble_eq_true (by kernel_rfl)) live [] (by
  rintro ⟨a0,a1,_⟩ r h
  exact ⟨N,2,((run N _ a0 a1).trans rfl).trans h⟩)
end impl_worker_tick
namespace impl_NodeTick
noncomputable def code:Code:=Tryz.f58.body.getD .skip
abbrev live:Live:=[]
noncomputable def G (N:Nat):Ctx E:=gam [(28,[],impl_NodeOK.sp N),(17,[],impl_within.sp N),(36,[],impl_copyNode.sp N),(72,[],impl_worker_tick.sp N),(71,[],impl_worker_asNode.sp N)]
theorem run (N:Nat) (o0:Orc E R) (a0:Node) (a1:Int):runF T (G N) live [] Tryz.f58 code (sp N) o0 (a0,a1,())=m N a0 a1:=by kernel_rfl
theorem G_ok (N:Nat):GamOK Tryz.prog (G N):=gam_ok (⟨impl_NodeOK.snd N,impl_within.snd N,impl_copyNode.snd N,impl_worker_tick.snd N,impl_worker_asNode.snd N,trivial⟩)
theorem snd (N:Nat):Sound Tryz.prog E 58 (sp N):=
 Mir.sound T_OK (G_ok N) mixed Tryz.func58 (c:=code) (by kernel_rfl) (by kernel_rfl) (sp N) (Nat.le_of_ble_eq_true (by kernel_rfl)) live [] (by
  rintro ⟨a0,a1,_⟩ r h
  exact ⟨N,2,((run N _ a0 a1).trans rfl).trans h⟩)
end impl_NodeTick
namespace impl_propose
noncomputable def code:Code:=Tryz.f59.body.getD .skip
abbrev live:Live:=[]
noncomputable def G (N:Nat):Ctx E:=gam [(36,[],impl_copyNode.sp N),(73,[],impl_worker_commit.sp N),(74,[],impl_worker_tellAll.sp N),(71,[],impl_worker_asNode.sp N)]
theorem run (N:Nat) (o0:Orc E R) (a0:Node) (a1:Int) (a2:ByteArray):runF T (G N) live [] Tryz.f59 code (sp N) o0 (a0,a1,a2,())=m N a0 a1 a2:=by kernel_rfl
theorem G_ok (N:Nat):GamOK Tryz.prog (G N):=gam_ok (⟨impl_copyNode.snd N,impl_worker_commit.snd N,impl_worker_tellAll.snd N,impl_worker_asNode.snd N,trivial⟩)
theorem snd (N:Nat):Sound Tryz.prog E 59 (sp N):=
 Mir.sound T_OK (G_ok N) mixed Tryz.func59 (c:=code) (by kernel_rfl) (by kernel_rfl) (sp N) (Nat.le_of_ble_eq_true (by kernel_rfl)) live [] (by
  rintro ⟨a0,a1,a2,_⟩ r h
  exact ⟨N,2,((run N _ a0 a1 a2).trans rfl).trans h⟩)
end impl_propose
namespace impl_configAllowed_1
noncomputable def code:Code:=Tryz.f93.body.getD .skip
abbrev live:Live:=[]
noncomputable def G (N:Nat):Ctx E:=gam []
theorem run (N:Nat) (o0:Orc E R) (a0:Entry):runF T (G N) live [] Tryz.f93 code (sp N) o0 (a0,())=m N a0:=by kernel_rfl
theorem G_ok (N:Nat):GamOK Tryz.prog (G N):=gam_ok (trivial)
theorem snd (N:Nat):Sound Tryz.prog E 93 (sp N):=
 Mir.sound T_OK (G_ok N) mixed Tryz.func93 (c:=code) (by kernel_rfl) (by kernel_rfl) (sp N) (Nat.le_of_ble_eq_true (by kernel_rfl)) live [] (by
  rintro ⟨a0,_⟩ r h
  exact ⟨N,2,((run N _ a0).trans rfl).trans h⟩)
end impl_configAllowed_1
namespace slices_IndexFunc_impl_Entry_impl_Entry__impl_configAllowed_1
noncomputable def code:Code:=Tryz.f104.body.getD .skip
abbrev live:Live:=[(2,[0,1,7,8])]
noncomputable def G (N:Nat):Ctx E:=gam [(93,[],impl_configAllowed_1.sp N)]
noncomputable def loop2:Code:=codeAt code [1,0,1,0]
noncomputable def body2:Code:=codeAt loop2 [0]
noncomputable def K2 (N:Nat) (o0:Orc E R):KT E R:=kAt T (G N) live [] o0 code [1,0,1,0] (kfin T Tryz.f104 (sp N))
noncomputable def St2 (a0:List Entry):(Int×Int)→St E
 | (v1,v2)=>{ ρ:=[(0,.c (.at (.ro 41 (.st 41) a0))),(1,.clo 93 []),(7,.c (.at (.int .i64 v1))),(8,.c (.at (.int .i64 v2)))],H:=[],nx:=0,n:=19,pin:=[] }
theorem run (N:Nat) (o0:Orc E R) (a0:List Entry):runF T (G N) live [] Tryz.f104 code (sp N) o0 (a0,(),())=m0 N a0 (fun a=>o0 loop2 (K2 N o0) (St2 a0 a)):=by kernel_rfl
theorem body2_0 (N:Nat) (o0:Orc E R) (o1:Orc E R) (q1:St E→Option R) (a0:List Entry) (v1:Int) (v2:Int):runA T (G N) live [] o1 body2 (St2 a0 (v1,v2)) (kloop [0,1,7,8] q1 (K2 N o0))=step2 N a0 (fun a=>q1 (St2 a0 a)) (v1,v2):=by kernel_rfl
theorem lp2_eq (N:Nat) (a0:List Entry) (a:Int×Int):(orc T (G N) live [] N 2) loop2 (K2 N (orc T (G N) live [] N 2)) (St2 a0 a)=lp2 N a0 a:=
 (orc_loop (b:=body2) (live:=[0,1,7,8]) (by kernel_rfl)).trans (iter_eq (St2 a0) _ _ (fun q1 a=>by
  have hc:=congrFun (congrFun (rfl:(step2 N a0)=(step2 N a0)) (fun a=>q1 (St2 a0 a))) a
  obtain ⟨u0,u1⟩:=a
  exact (body2_0 N (orc T (G N) live [] N 2) (orc T (G N) live [] N 1) q1 a0 u0 u1).trans hc) N a)
theorem G_ok (N:Nat):GamOK Tryz.prog (G N):=gam_ok (⟨impl_configAllowed_1.snd N,trivial⟩)
theorem snd (N:Nat):Sound Tryz.prog E 104 (sp N):=
 Mir.sound T_OK (G_ok N) mixed Tryz.func104 (c:=code) (by kernel_rfl) (by kernel_rfl) (sp N) (Nat.le_of_ble_eq_true (by kernel_rfl)) live [] (by
  rintro ⟨a0,_,_⟩ r h
  exact ⟨N,2,((run N _ a0).trans (congrArg (m0 N a0) (funext fun a=>lp2_eq N a0 a))).trans h⟩)
end slices_IndexFunc_impl_Entry_impl_Entry__impl_configAllowed_1
namespace slices_ContainsFunc_impl_Entry_impl_Entry__impl_configAllowed_1
noncomputable def code:Code:=Tryz.f92.body.getD .skip
abbrev live:Live:=[]
noncomputable def G (N:Nat):Ctx E:=gam [(104,[93],slices_IndexFunc_impl_Entry_impl_Entry__impl_configAllowed_1.sp N)]
theorem run (N:Nat) (o0:Orc E R) (a0:List Entry):runF T (G N) live [] Tryz.f92 code (sp N) o0 (a0,(),())=m N a0:=by kernel_rfl
theorem G_ok (N:Nat):GamOK Tryz.prog (G N):=gam_ok (⟨slices_IndexFunc_impl_Entry_impl_Entry__impl_configAllowed_1.snd N,trivial⟩)
theorem snd (N:Nat):Sound Tryz.prog E 92 (sp N):=
 Mir.sound T_OK (G_ok N) mixed Tryz.func92 (c:=code) (by kernel_rfl) (by kernel_rfl) (sp N) (Nat.le_of_ble_eq_true (by kernel_rfl)) live [] (by
  rintro ⟨a0,_,_⟩ r h
  exact ⟨N,2,((run N _ a0).trans rfl).trans h⟩)
end slices_ContainsFunc_impl_Entry_impl_Entry__impl_configAllowed_1
namespace impl_configAllowed
noncomputable def code:Code:=Tryz.f76.body.getD .skip
abbrev live:Live:=[(3,[1,2,5,6,11])]
noncomputable def G (N:Nat):Ctx E:=gam [(85,[],impl_Node_members.sp N),(84,[],slices_Contains_int_int.sp N),(92,[93],slices_ContainsFunc_impl_Entry_impl_Entry__impl_configAllowed_1.sp N),(87,[],impl_Node_termAt.sp N)]
noncomputable def loop3:Code:=codeAt code [1,1,0,1,0]
noncomputable def body3:Code:=codeAt loop3 [0]
noncomputable def K3 (N:Nat) (o0:Orc E R):KT E R:=kAt T (G N) live [] o0 code [1,1,0,1,0] (kfin T Tryz.f76 (sp N))
noncomputable def St3 (a0:Node) (a1:List Int):(Int×Int×(List Int))→St E
 | (v1,v2,v16)=>{ ρ:=[(1,.c (.at (.ro 3 (.int .i64) a1))),(2,.c (.at (.ptr 0 0))),(5,.c (.at (.own 1))),(6,.c (.at (.int .i64 v1))),(11,.c (.at (.int .i64 v2)))],H:=[(0,.box 39 [.int .i64 a0.Id,.int .i64 a0.Term,.int .i64 a0.Vote,.ro 41 (.st 41) a0.Log,.ro 3 (.int .i64) a0.Start,.int .i64 a0.Role,.ro 3 (.int .i64) a0.Votes,.ro 3 (.int .i64) a0.Next,.ro 3 (.int .i64) a0.Match,.int .i64 a0.Commit,.int .i64 a0.Elapsed,.int .i64 a0.Wait,.bool a0.Up]),(1,.row 3 (.int .i64) v16 false)],nx:=2,n:=55,pin:=[] }
theorem run (N:Nat) (o0:Orc E R) (a0:Node) (a1:List Int):runF T (G N) live [] Tryz.f76 code (sp N) o0 (a0,a1,())=m0 N a0 a1 (fun a=>o0 loop3 (K3 N o0) (St3 a0 a1 a)):=by kernel_rfl
theorem body3_0 (N:Nat) (o0:Orc E R) (o1:Orc E R) (q1:St E→Option R) (a0:Node) (a1:List Int) (v1:Int) (v2:Int) (v16:List Int):runA T (G N) live [] o1 body3 (St3 a0 a1 (v1,v2,v16)) (kloop [1,2,5,6,11] q1 (K3 N o0))=step3 N a0 a1 (fun a=>q1 (St3 a0 a1 a)) (v1,v2,v16):=by kernel_rfl
theorem lp3_eq (N:Nat) (a0:Node) (a1:List Int) (a:Int×Int×(List Int)):(orc T (G N) live [] N 2) loop3 (K3 N (orc T (G N) live [] N 2)) (St3 a0 a1 a)=lp3 N a0 a1 a:=
 (orc_loop (b:=body3) (live:=[1,2,5,6,11]) (by kernel_rfl)).trans (iter_eq (St3 a0 a1) _ _ (fun q1 a=>by
  have hc:=congrFun (congrFun (rfl:(step3 N a0 a1)=(step3 N a0 a1)) (fun a=>q1 (St3 a0 a1 a))) a
  obtain ⟨u0,u1,u2⟩:=a
  exact (body3_0 N (orc T (G N) live [] N 2) (orc T (G N) live [] N 1) q1 a0 a1 u0 u1 u2).trans hc) N a)
theorem G_ok (N:Nat):GamOK Tryz.prog (G N):=gam_ok (⟨impl_Node_members.snd N,slices_Contains_int_int.snd N,slices_ContainsFunc_impl_Entry_impl_Entry__impl_configAllowed_1.snd N,impl_Node_termAt.snd N,trivial⟩)
theorem snd (N:Nat):Sound Tryz.prog E 76 (sp N):=
 Mir.sound T_OK (G_ok N) mixed Tryz.func76 (c:=code) (by kernel_rfl) (by kernel_rfl) (sp N) (Nat.le_of_ble_eq_true (by kernel_rfl)) live [] (by
  rintro ⟨a0,a1,_⟩ r h
  exact ⟨N,2,((run N _ a0 a1).trans (congrArg (m0 N a0 a1) (funext fun a=>lp3_eq N a0 a1 a))).trans h⟩)
end impl_configAllowed
namespace impl_Group_config
noncomputable def code:Code:=Tryz.f60.body.getD .skip
abbrev live:Live:=[]
noncomputable def G (N:Nat):Ctx E:=gam [(75,[],impl_readMembers.sp N),(76,[],impl_configAllowed.sp N),(59,[],impl_propose.sp N),(55,[],impl_Group_done.sp N)]
theorem run (N:Nat) (o0:Orc E R) (a0:Group) (a1:Node) (a2:ByteArray):runF T (G N) live [] Tryz.f60 code (sp N) o0 (a0,a1,a2,())=m N a0 a1 a2:=by kernel_rfl
theorem G_ok (N:Nat):GamOK Tryz.prog (G N):=gam_ok (⟨impl_readMembers.snd N,impl_configAllowed.snd N,impl_propose.snd N,impl_Group_done.snd N,trivial⟩)
theorem snd (N:Nat):Sound Tryz.prog E 60 (sp N):=
 Mir.sound T_OK (G_ok N) mixed Tryz.func60 (c:=code) (by kernel_rfl) (by kernel_rfl) (sp N) (Nat.le_of_ble_eq_true (by kernel_rfl)) live [] (by
  rintro ⟨a0,a1,a2,_⟩ r h
  exact ⟨N,2,((run N _ a0 a1 a2).trans rfl).trans h⟩)
end impl_Group_config
namespace impl_Group_ofNode
noncomputable def code:Code:=Tryz.f40.body.getD .skip
abbrev live:Live:=[]
noncomputable def G (N:Nat):Ctx E:=gam [(17,[],impl_within.sp N),(57,[],impl_NodeCrash.sp N),(58,[],impl_NodeTick.sp N),(55,[],impl_Group_done.sp N),(59,[],impl_propose.sp N),(60,[],impl_Group_config.sp N)]
theorem run (N:Nat) (o0:Orc E R) (a0:Group) (a1:GroupAct):runF T (G N) live [] Tryz.f40 code (sp N) o0 (a0,a1,())=m N a0 a1:=by kernel_rfl
theorem G_ok (N:Nat):GamOK Tryz.prog (G N):=gam_ok (⟨impl_within.snd N,impl_NodeCrash.snd N,impl_NodeTick.snd N,impl_Group_done.snd N,impl_propose.snd N,impl_Group_config.snd N,trivial⟩)
theorem snd (N:Nat):Sound Tryz.prog E 40 (sp N):=
 Mir.sound T_OK (G_ok N) mixed Tryz.func40 (c:=code) (by kernel_rfl) (by kernel_rfl) (sp N) (Nat.le_of_ble_eq_true (by kernel_rfl)) live [] (by
  rintro ⟨a0,a1,_⟩ r h
  exact ⟨N,2,((run N _ a0 a1).trans rfl).trans h⟩)
end impl_Group_ofNode
namespace impl_Group_do
noncomputable def code:Code:=Tryz.f20.body.getD .skip
abbrev live:Live:=[]
noncomputable def G (N:Nat):Ctx E:=gam [(39,[],impl_Group_ofWire_.sp N),(40,[],impl_Group_ofNode.sp N)]
theorem run (N:Nat) (o0:Orc E R) (a0:Group) (a1:GroupAct):runF T (G N) live [] Tryz.f20 code (sp N) o0 (a0,a1,())=m N a0 a1:=by kernel_rfl
theorem G_ok (N:Nat):GamOK Tryz.prog (G N):=gam_ok (⟨impl_Group_ofWire_.snd N,impl_Group_ofNode.snd N,trivial⟩)
theorem snd (N:Nat):Sound Tryz.prog E 20 (sp N):=
 Mir.sound T_OK (G_ok N) mixed Tryz.func20 (c:=code) (by kernel_rfl) (by kernel_rfl) (sp N) (Nat.le_of_ble_eq_true (by kernel_rfl)) live [] (by
  rintro ⟨a0,a1,_⟩ r h
  exact ⟨N,2,((run N _ a0 a1).trans rfl).trans h⟩)
end impl_Group_do
namespace impl_isList_impl_Lead
noncomputable def code:Code:=Tryz.f26.body.getD .skip
abbrev live:Live:=[]
noncomputable def G (N:Nat):Ctx E:=gam []
theorem run (N:Nat) (o0:Orc E R) (a0:List Lead):runF T (G N) live [] Tryz.f26 code (sp N) o0 (a0,())=m N a0:=by kernel_rfl
theorem G_ok (N:Nat):GamOK Tryz.prog (G N):=gam_ok (trivial)
theorem snd (N:Nat):Sound Tryz.prog E 26 (sp N):=
 Mir.sound T_OK (G_ok N) mixed Tryz.func26 (c:=code) (by kernel_rfl) (by kernel_rfl) (sp N) (Nat.le_of_ble_eq_true (by kernel_rfl)) live [] (by
  rintro ⟨a0,_⟩ r h
  exact ⟨N,2,((run N _ a0).trans rfl).trans h⟩)
end impl_isList_impl_Lead
namespace impl_isList_impl_Done
noncomputable def code:Code:=Tryz.f27.body.getD .skip
abbrev live:Live:=[]
noncomputable def G (N:Nat):Ctx E:=gam []
theorem run (N:Nat) (o0:Orc E R) (a0:List Done):runF T (G N) live [] Tryz.f27 code (sp N) o0 (a0,())=m N a0:=by kernel_rfl
theorem G_ok (N:Nat):GamOK Tryz.prog (G N):=gam_ok (trivial)
theorem snd (N:Nat):Sound Tryz.prog E 27 (sp N):=
 Mir.sound T_OK (G_ok N) mixed Tryz.func27 (c:=code) (by kernel_rfl) (by kernel_rfl) (sp N) (Nat.le_of_ble_eq_true (by kernel_rfl)) live [] (by
  rintro ⟨a0,_⟩ r h
  exact ⟨N,2,((run N _ a0).trans rfl).trans h⟩)
end impl_isList_impl_Done
namespace impl_GroupOK_1
noncomputable def code:Code:=Tryz.f30.body.getD .skip
abbrev live:Live:=[]
noncomputable def G (N:Nat):Ctx E:=gam [(31,[],impl_messageOK.sp N)]
theorem run (N:Nat) (o0:Orc E R) (a0:Message):runF T (G N) live [] Tryz.f30 code (sp N) o0 (a0,())=m N a0:=by kernel_rfl
theorem G_ok (N:Nat):GamOK Tryz.prog (G N):=gam_ok (⟨impl_messageOK.snd N,trivial⟩)
theorem snd (N:Nat):Sound Tryz.prog E 30 (sp N):=
 Mir.sound T_OK (G_ok N) mixed Tryz.func30 (c:=code) (by kernel_rfl) (by kernel_rfl) (sp N) (Nat.le_of_ble_eq_true (by kernel_rfl)) live [] (by
  rintro ⟨a0,_⟩ r h
  exact ⟨N,2,((run N _ a0).trans rfl).trans h⟩)
end impl_GroupOK_1
namespace slices_IndexFunc_impl_Message_impl_Message__impl_GroupOK_1
noncomputable def code:Code:=Tryz.f51.body.getD .skip
abbrev live:Live:=[(2,[0,1,7,8])]
noncomputable def G (N:Nat):Ctx E:=gam [(30,[],impl_GroupOK_1.sp N)]
noncomputable def loop2:Code:=codeAt code [1,0,1,0]
noncomputable def body2:Code:=codeAt loop2 [0]
noncomputable def K2 (N:Nat) (o0:Orc E R):KT E R:=kAt T (G N) live [] o0 code [1,0,1,0] (kfin T Tryz.f51 (sp N))
noncomputable def St2 (a0:List Message):(Int×Int)→St E
 | (v1,v2)=>{ ρ:=[(0,.c (.at (.ro 74 (.st 74) a0))),(1,.clo 30 []),(7,.c (.at (.int .i64 v1))),(8,.c (.at (.int .i64 v2)))],H:=[],nx:=0,n:=19,pin:=[] }
theorem run (N:Nat) (o0:Orc E R) (a0:List Message):runF T (G N) live [] Tryz.f51 code (sp N) o0 (a0,(),())=m0 N a0 (fun a=>o0 loop2 (K2 N o0) (St2 a0 a)):=by kernel_rfl
theorem body2_0 (N:Nat) (o0:Orc E R) (o1:Orc E R) (q1:St E→Option R) (a0:List Message) (v1:Int) (v2:Int):runA T (G N) live [] o1 body2 (St2 a0 (v1,v2)) (kloop [0,1,7,8] q1 (K2 N o0))=step2 N a0 (fun a=>q1 (St2 a0 a)) (v1,v2):=by kernel_rfl
theorem lp2_eq (N:Nat) (a0:List Message) (a:Int×Int):(orc T (G N) live [] N 2) loop2 (K2 N (orc T (G N) live [] N 2)) (St2 a0 a)=lp2 N a0 a:=
 (orc_loop (b:=body2) (live:=[0,1,7,8]) (by kernel_rfl)).trans (iter_eq (St2 a0) _ _ (fun q1 a=>by
  have hc:=congrFun (congrFun (rfl:(step2 N a0)=(step2 N a0)) (fun a=>q1 (St2 a0 a))) a
  obtain ⟨u0,u1⟩:=a
  exact (body2_0 N (orc T (G N) live [] N 2) (orc T (G N) live [] N 1) q1 a0 u0 u1).trans hc) N a)
theorem G_ok (N:Nat):GamOK Tryz.prog (G N):=gam_ok (⟨impl_GroupOK_1.snd N,trivial⟩)
theorem snd (N:Nat):Sound Tryz.prog E 51 (sp N):=
 Mir.sound T_OK (G_ok N) mixed Tryz.func51 (c:=code) (by kernel_rfl) (by kernel_rfl) (sp N) (Nat.le_of_ble_eq_true (by kernel_rfl)) live [] (by
  rintro ⟨a0,_,_⟩ r h
  exact ⟨N,2,((run N _ a0).trans (congrArg (m0 N a0) (funext fun a=>lp2_eq N a0 a))).trans h⟩)
end slices_IndexFunc_impl_Message_impl_Message__impl_GroupOK_1
namespace slices_ContainsFunc_impl_Message_impl_Message__impl_GroupOK_1
noncomputable def code:Code:=Tryz.f29.body.getD .skip
abbrev live:Live:=[]
noncomputable def G (N:Nat):Ctx E:=gam [(51,[30],slices_IndexFunc_impl_Message_impl_Message__impl_GroupOK_1.sp N)]
theorem run (N:Nat) (o0:Orc E R) (a0:List Message):runF T (G N) live [] Tryz.f29 code (sp N) o0 (a0,(),())=m N a0:=by kernel_rfl
theorem G_ok (N:Nat):GamOK Tryz.prog (G N):=gam_ok (⟨slices_IndexFunc_impl_Message_impl_Message__impl_GroupOK_1.snd N,trivial⟩)
theorem snd (N:Nat):Sound Tryz.prog E 29 (sp N):=
 Mir.sound T_OK (G_ok N) mixed Tryz.func29 (c:=code) (by kernel_rfl) (by kernel_rfl) (sp N) (Nat.le_of_ble_eq_true (by kernel_rfl)) live [] (by
  rintro ⟨a0,_,_⟩ r h
  exact ⟨N,2,((run N _ a0).trans rfl).trans h⟩)
end slices_ContainsFunc_impl_Message_impl_Message__impl_GroupOK_1
namespace impl_GroupOK
noncomputable def code:Code:=Tryz.f14.body.getD .skip
abbrev live:Live:=[(4,[1,29,30,31])]
noncomputable def G (N:Nat):Ctx E:=gam [(17,[],impl_within.sp N),(26,[],impl_isList_impl_Lead.sp N),(27,[],impl_isList_impl_Done.sp N),(28,[],impl_NodeOK.sp N),(29,[30],slices_ContainsFunc_impl_Message_impl_Message__impl_GroupOK_1.sp N)]
noncomputable def loop4:Code:=codeAt code [1,1,0,1,0]
noncomputable def body4:Code:=codeAt loop4 [0]
noncomputable def K4 (N:Nat) (o0:Orc E R):KT E R:=kAt T (G N) live [] o0 code [1,1,0,1,0] (kfin T Tryz.f14 (sp N))
noncomputable def St4 (a0:Group):(Int×Int)→St E
 | (v1,v2)=>{ ρ:=[(1,.c (.at (.ptr 0 0))),(29,.c (.at (.ro 39 (.st 39) a0.Nodes))),(30,.c (.at (.int .i64 v1))),(31,.c (.at (.int .i64 v2)))],H:=[(0,.box 29 [.ro 39 (.st 39) a0.Nodes,.ro 74 (.st 74) a0.Wire,.ro 67 (.st 67) a0.Leads,.ro 70 (.st 70) a0.Dones])],nx:=1,n:=50,pin:=[] }
theorem run (N:Nat) (o0:Orc E R) (a0:Group):runF T (G N) live [] Tryz.f14 code (sp N) o0 (a0,())=m0 N a0 (fun a=>o0 loop4 (K4 N o0) (St4 a0 a)):=by kernel_rfl
theorem body4_0 (N:Nat) (o0:Orc E R) (o1:Orc E R) (q1:St E→Option R) (a0:Group) (v1:Int) (v2:Int):runA T (G N) live [] o1 body4 (St4 a0 (v1,v2)) (kloop [1,29,30,31] q1 (K4 N o0))=step4 N a0 (fun a=>q1 (St4 a0 a)) (v1,v2):=by kernel_rfl
theorem lp4_eq (N:Nat) (a0:Group) (a:Int×Int):(orc T (G N) live [] N 2) loop4 (K4 N (orc T (G N) live [] N 2)) (St4 a0 a)=lp4 N a0 a:=
 (orc_loop (b:=body4) (live:=[1,29,30,31]) (by kernel_rfl)).trans (iter_eq (St4 a0) _ _ (fun q1 a=>by
  have hc:=congrFun (congrFun (rfl:(step4 N a0)=(step4 N a0)) (fun a=>q1 (St4 a0 a))) a
  obtain ⟨u0,u1⟩:=a
  exact (body4_0 N (orc T (G N) live [] N 2) (orc T (G N) live [] N 1) q1 a0 u0 u1).trans hc) N a)
theorem G_ok (N:Nat):GamOK Tryz.prog (G N):=gam_ok (⟨impl_within.snd N,impl_isList_impl_Lead.snd N,impl_isList_impl_Done.snd N,impl_NodeOK.snd N,slices_ContainsFunc_impl_Message_impl_Message__impl_GroupOK_1.snd N,trivial⟩)
theorem snd (N:Nat):Sound Tryz.prog E 14 (sp N):=
 Mir.sound T_OK (G_ok N) mixed Tryz.func14 (c:=code) (by kernel_rfl) (by kernel_rfl) (sp N) (Nat.le_of_ble_eq_true (by kernel_rfl)) live [] (by
  rintro ⟨a0,_⟩ r h
  exact ⟨N,2,((run N _ a0).trans (congrArg (m0 N a0) (funext fun a=>lp4_eq N a0 a))).trans h⟩)
end impl_GroupOK
namespace impl_groupStep
noncomputable def code:Code:=Tryz.f11.body.getD .skip
abbrev live:Live:=[]
noncomputable def G (N:Nat):Ctx E:=gam [(19,[],impl_copyGroup.sp N),(20,[],impl_Group_do.sp N),(14,[],impl_GroupOK.sp N)]
theorem run (N:Nat) (o0:Orc E R) (a0:Group) (a1:GroupAct):runF T (G N) live [] Tryz.f11 code (sp N) o0 (a0,a1,())=m N a0 a1:=by kernel_rfl
theorem G_ok (N:Nat):GamOK Tryz.prog (G N):=gam_ok (⟨impl_copyGroup.snd N,impl_Group_do.snd N,impl_GroupOK.snd N,trivial⟩)
theorem snd (N:Nat):Sound Tryz.prog E 11 (sp N):=
 Mir.sound T_OK (G_ok N) mixed Tryz.func11 (c:=code) (by kernel_rfl) (by kernel_rfl) (sp N) (Nat.le_of_ble_eq_true (by kernel_rfl)) live [] (by
  rintro ⟨a0,a1,_⟩ r h
  exact ⟨N,2,((run N _ a0 a1).trans rfl).trans h⟩)
end impl_groupStep
namespace impl_GroupRun
noncomputable def code:Code:=Tryz.f5.body.getD .skip
abbrev live:Live:=[(10,[4,7,9,32,33,34])]
noncomputable def G (N:Nat):Ctx E:=gam [(9,[],impl_isList_impl_GroupAct.sp N),(10,[],impl_NewGroup.sp N),(11,[],impl_groupStep.sp N)]
noncomputable def loop10:Code:=codeAt code [1,1,1,1,1,0,1,0]
noncomputable def body10:Code:=codeAt loop10 [0]
noncomputable def K10 (N:Nat) (o0:Orc E R):KT E R:=kAt T (G N) live [] o0 code [1,1,1,1,1,0,1,0] (kfin T Tryz.f5 (sp N))
noncomputable def St10 (a0:Int) (a1:List GroupAct):(Int×Int×(List Node)×(List Message)×(List Lead)×(List Done)×(List Int))→St E
 | (v1,v2,v3,v4,v5,v6,v7)=>{ ρ:=[(4,.c (.at (.ptr 0 0))),(7,.c (.at (.ptr 1 0))),(9,.c (.at (.own 6))),(32,.c (.at (.ro 46 (.st 46) a1))),(33,.c (.at (.int .i64 v1))),(34,.c (.at (.int .i64 v2)))],H:=[(0,.box 29 [.nils,.nils,.nils,.nils]),(1,.box 29 [.own 2,.own 3,.own 4,.own 5]),(2,.row 39 (.st 39) v3 false),(3,.row 74 (.st 74) v4 false),(4,.row 67 (.st 67) v5 false),(5,.row 70 (.st 70) v6 false),(6,.row 3 (.int .i64) v7 false)],nx:=7,n:=51,pin:=[] }
theorem run (N:Nat) (o0:Orc E R) (a0:Int) (a1:List GroupAct):runF T (G N) live [] Tryz.f5 code (sp N) o0 (a0,a1,())=m0 N a0 a1 (fun a=>o0 loop10 (K10 N o0) (St10 a0 a1 a)):=by kernel_rfl
theorem body10_0 (N:Nat) (o0:Orc E R) (o1:Orc E R) (q1:St E→Option R) (a0:Int) (a1:List GroupAct) (v1:Int) (v2:Int) (v3:List Node) (v4:List Message) (v5:List Lead) (v6:List Done) (v7:List Int):runA T (G N) live [] o1 body10 (St10 a0 a1 (v1,v2,v3,v4,v5,v6,v7)) (kloop [4,7,9,32,33,34] q1 (K10 N o0))=step10 N a0 a1 (fun a=>q1 (St10 a0 a1 a)) (v1,v2,v3,v4,v5,v6,v7):=by kernel_rfl
theorem lp10_eq (N:Nat) (a0:Int) (a1:List GroupAct) (a:Int×Int×(List Node)×(List Message)×(List Lead)×(List Done)×(List Int)):(orc T (G N) live [] N 2) loop10 (K10 N (orc T (G N) live [] N 2)) (St10 a0 a1 a)=lp10 N a0 a1 a:=
 (orc_loop (b:=body10) (live:=[4,7,9,32,33,34]) (by kernel_rfl)).trans (iter_eq (St10 a0 a1) _ _ (fun q1 a=>by
  have hc:=congrFun (congrFun (rfl:(step10 N a0 a1)=(step10 N a0 a1)) (fun a=>q1 (St10 a0 a1 a))) a
  obtain ⟨u0,u1,u2,u3,u4,u5,u6⟩:=a
  exact (body10_0 N (orc T (G N) live [] N 2) (orc T (G N) live [] N 1) q1 a0 a1 u0 u1 u2 u3 u4 u5 u6).trans hc) N a)
theorem G_ok (N:Nat):GamOK Tryz.prog (G N):=gam_ok (⟨impl_isList_impl_GroupAct.snd N,impl_NewGroup.snd N,impl_groupStep.snd N,trivial⟩)
theorem snd (N:Nat):Sound Tryz.prog E 5 (sp N):=
 Mir.sound T_OK (G_ok N) mixed Tryz.func5 (c:=code) (by kernel_rfl) (by kernel_rfl) (sp N) (Nat.le_of_ble_eq_true (by kernel_rfl)) live [] (by
  rintro ⟨a0,a1,_⟩ r h
  exact ⟨N,2,((run N _ a0 a1).trans (congrArg (m0 N a0 a1) (funext fun a=>lp10_eq N a0 a1 a))).trans h⟩)
end impl_GroupRun
namespace impl_sameFirst
noncomputable def code:Code:=Tryz.f32.body.getD .skip
abbrev live:Live:=[(2,[0,1,5])]
noncomputable def G (N:Nat):Ctx E:=gam []
noncomputable def loop2:Code:=codeAt code [1,1,0,0]
noncomputable def body2:Code:=codeAt loop2 [0]
noncomputable def K2 (N:Nat) (o0:Orc E R):KT E R:=kAt T (G N) live [] o0 code [1,1,0,0] (kfin T Tryz.f32 (sp N))
noncomputable def St2 (a0:List Entry) (a1:List Entry):Int→St E
 | v2=>{ ρ:=[(0,.c (.at (.ro 41 (.st 41) a0))),(1,.c (.at (.ro 41 (.st 41) a1))),(5,.c (.at (.int .i64 v2)))],H:=[],nx:=0,n:=27,pin:=[] }
theorem run (N:Nat) (o0:Orc E R) (a0:List Entry) (a1:List Entry):runF T (G N) live [] Tryz.f32 code (sp N) o0 (a0,a1,())=m0 N a0 a1 (fun a=>o0 loop2 (K2 N o0) (St2 a0 a1 a)):=by kernel_rfl
theorem body2_0 (N:Nat) (o0:Orc E R) (o1:Orc E R) (q1:St E→Option R) (a0:List Entry) (a1:List Entry) (v2:Int):runA T (G N) live [] o1 body2 (St2 a0 a1 v2) (kloop [0,1,5] q1 (K2 N o0))=step2 N a0 a1 (fun a=>q1 (St2 a0 a1 a)) v2:=by kernel_rfl
theorem lp2_eq (N:Nat) (a0:List Entry) (a1:List Entry) (a:Int):(orc T (G N) live [] N 2) loop2 (K2 N (orc T (G N) live [] N 2)) (St2 a0 a1 a)=lp2 N a0 a1 a:=
 (orc_loop (b:=body2) (live:=[0,1,5]) (by kernel_rfl)).trans (iter_eq (St2 a0 a1) _ _ (fun q1 a=>by
  have hc:=congrFun (congrFun (rfl:(step2 N a0 a1)=(step2 N a0 a1)) (fun a=>q1 (St2 a0 a1 a))) a
  exact (body2_0 N (orc T (G N) live [] N 2) (orc T (G N) live [] N 1) q1 a0 a1 a).trans hc) N a)
theorem G_ok (N:Nat):GamOK Tryz.prog (G N):=gam_ok (trivial)
theorem snd (N:Nat):Sound Tryz.prog E 32 (sp N):=
 Mir.sound T_OK (G_ok N) mixed Tryz.func32 (c:=code) (by kernel_rfl) (by kernel_rfl) (sp N) (Nat.le_of_ble_eq_true (by kernel_rfl)) live [] (by
  rintro ⟨a0,a1,_⟩ r h
  exact ⟨N,2,((run N _ a0 a1).trans (congrArg (m0 N a0 a1) (funext fun a=>lp2_eq N a0 a1 a))).trans h⟩)
end impl_sameFirst
namespace impl_logsMatch
noncomputable def code:Code:=Tryz.f16.body.getD .skip
abbrev live:Live:=[(2,[2,3,5])]
noncomputable def G (N:Nat):Ctx E:=gam [(32,[],impl_sameFirst.sp N)]
noncomputable def loop2:Code:=codeAt code [1,1,0,0]
noncomputable def body2:Code:=codeAt loop2 [0]
noncomputable def K2 (N:Nat) (o0:Orc E R):KT E R:=kAt T (G N) live [] o0 code [1,1,0,0] (kfin T Tryz.f16 (sp N))
noncomputable def St2 (a0:Node) (a1:Node):Int→St E
 | v0=>{ ρ:=[(2,.c (.at (.ptr 0 0))),(3,.c (.at (.ptr 1 0))),(5,.c (.at (.int .i64 v0)))],H:=[(0,.box 39 [.int .i64 a0.Id,.int .i64 a0.Term,.int .i64 a0.Vote,.ro 41 (.st 41) a0.Log,.ro 3 (.int .i64) a0.Start,.int .i64 a0.Role,.ro 3 (.int .i64) a0.Votes,.ro 3 (.int .i64) a0.Next,.ro 3 (.int .i64) a0.Match,.int .i64 a0.Commit,.int .i64 a0.Elapsed,.int .i64 a0.Wait,.bool a0.Up]),(1,.box 39 [.int .i64 a1.Id,.int .i64 a1.Term,.int .i64 a1.Vote,.ro 41 (.st 41) a1.Log,.ro 3 (.int .i64) a1.Start,.int .i64 a1.Role,.ro 3 (.int .i64) a1.Votes,.ro 3 (.int .i64) a1.Next,.ro 3 (.int .i64) a1.Match,.int .i64 a1.Commit,.int .i64 a1.Elapsed,.int .i64 a1.Wait,.bool a1.Up])],nx:=2,n:=45,pin:=[] }
theorem run (N:Nat) (o0:Orc E R) (a0:Node) (a1:Node):runF T (G N) live [] Tryz.f16 code (sp N) o0 (a0,a1,())=m0 N a0 a1 (fun a=>o0 loop2 (K2 N o0) (St2 a0 a1 a)):=by kernel_rfl
theorem body2_0 (N:Nat) (o0:Orc E R) (o1:Orc E R) (q1:St E→Option R) (a0:Node) (a1:Node) (v0:Int):runA T (G N) live [] o1 body2 (St2 a0 a1 v0) (kloop [2,3,5] q1 (K2 N o0))=step2 N a0 a1 (fun a=>q1 (St2 a0 a1 a)) v0:=by kernel_rfl
theorem lp2_eq (N:Nat) (a0:Node) (a1:Node) (a:Int):(orc T (G N) live [] N 2) loop2 (K2 N (orc T (G N) live [] N 2)) (St2 a0 a1 a)=lp2 N a0 a1 a:=
 (orc_loop (b:=body2) (live:=[2,3,5]) (by kernel_rfl)).trans (iter_eq (St2 a0 a1) _ _ (fun q1 a=>by
  have hc:=congrFun (congrFun (rfl:(step2 N a0 a1)=(step2 N a0 a1)) (fun a=>q1 (St2 a0 a1 a))) a
  exact (body2_0 N (orc T (G N) live [] N 2) (orc T (G N) live [] N 1) q1 a0 a1 a).trans hc) N a)
theorem G_ok (N:Nat):GamOK Tryz.prog (G N):=gam_ok (⟨impl_sameFirst.snd N,trivial⟩)
theorem snd (N:Nat):Sound Tryz.prog E 16 (sp N):=
 Mir.sound T_OK (G_ok N) mixed Tryz.func16 (c:=code) (by kernel_rfl) (by kernel_rfl) (sp N) (Nat.le_of_ble_eq_true (by kernel_rfl)) live [] (by
  rintro ⟨a0,a1,_⟩ r h
  exact ⟨N,2,((run N _ a0 a1).trans (congrArg (m0 N a0 a1) (funext fun a=>lp2_eq N a0 a1 a))).trans h⟩)
end impl_logsMatch
end Mir.Y
