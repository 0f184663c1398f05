/- The models are what the functions do. -/
import Derived.Test.YtcgniikapdcfmaaGreatRLP3
namespace Mir.Y
set_option linter.unusedVariables false
set_option maxRecDepth 10000
open Go Go.Proofs Mir
namespace impl_pairsHold_impl_Node__impl_logsMatch
noncomputable def code:Code:=Tryz.f15.body.getD .skip
abbrev live:Live:=[(5,[0,1,6,9,10,11,18,19,20]),(2,[0,1,9,10,11])]
noncomputable def G (N:Nat):Ctx E:=gam [(16,[],impl_logsMatch.sp N)]
noncomputable def loop2:Code:=codeAt code [1,0,1,0]
noncomputable def body2:Code:=codeAt loop2 [0]
noncomputable def loop5:Code:=codeAt body2 [1,1,0,0,1,1,0]
noncomputable def body5:Code:=codeAt loop5 [0]
noncomputable def K2 (N:Nat) (o0:Orc E R):KT E R:=kAt T (G N) live [] o0 code [1,0,1,0] (kfin T Tryz.f15 (sp N))
noncomputable def St2 (a0:List Node):(Int×Int)→St E
 | (v2,v3)=>{ ρ:=[(0,.c (.at (.ro 39 (.st 39) a0))),(1,.clo 16 []),(9,.c (.at (.ro 39 (.st 39) a0))),(10,.c (.at (.int .i64 v2))),(11,.c (.at (.int .i64 v3)))],H:=[],nx:=0,n:=31,pin:=[] }
noncomputable def K5 (N:Nat) (o0:Orc E R) (o1:Orc E R) (q1:St E→Option R):KT E R:=kAt T (G N) live [] o1 body2 [1,1,0,0,1,1,0] (kloop [0,1,9,10,11] q1 (K2 N o0))
noncomputable def St5 (a0:List Node):(Int×Int×(List Node)×Int×Int×Int×Int×Int×(List Entry)×(List Int)×Int×(List Int)×(List Int)×(List Int)×Int×Int×Int×Bool)→St E
 | (v2,v3,v4,v5,v6,v7,v8,v9,v10,v11,v12,v13,v14,v15,v16,v17,v18,v19)=>{ ρ:=[(0,.c (.at (.ro 39 (.st 39) a0))),(1,.clo 16 []),(6,.c (.at (.ptr 0 0))),(9,.c (.at (.ro 39 (.st 39) a0))),(10,.c (.at (.int .i64 v2))),(11,.c (.at (.int .i64 v3))),(18,.c (.at (.ro 39 (.st 39) v4))),(19,.c (.at (.int .i64 v5))),(20,.c (.at (.int .i64 v6)))],H:=[(0,.box 39 [.int .i64 v7,.int .i64 v8,.int .i64 v9,.ro 41 (.st 41) v10,.ro 3 (.int .i64) v11,.int .i64 v12,.ro 3 (.int .i64) v13,.ro 3 (.int .i64) v14,.ro 3 (.int .i64) v15,.int .i64 v16,.int .i64 v17,.int .i64 v18,.bool v19])],nx:=1,n:=31,pin:=[] }
theorem run (N:Nat) (o0:Orc E R) (a0:List Node):runF T (G N) live [] Tryz.f15 code (sp N) o0 (a0,(),())=m0 N a0 (fun a=>o0 loop2 (K2 N o0) (St2 a0 a)):=by kernel_rfl
theorem body2_0 (N:Nat) (o0:Orc E R) (o1:Orc E R) (q1:St E→Option R) (a0:List Node) (v2:Int) (v3:Int):runA T (G N) live [] o1 body2 (St2 a0 (v2,v3)) (kloop [0,1,9,10,11] q1 (K2 N o0))=step2 N a0 (fun a=>o1 loop5 (K5 N o0 o1 q1) (St5 a0 a)) (fun a=>q1 (St2 a0 a)) (v2,v3):=by kernel_rfl
theorem body5_0 (N:Nat) (o0:Orc E R) (o1:Orc E R) (o2:Orc E R) (q1:St E→Option R) (q2:St E→Option R) (a0:List Node) (v2:Int) (v3:Int) (v4:List Node) (v5:Int) (v6:Int) (v7:Int) (v8:Int) (v9:Int) (v10:List Entry) (v11:List Int) (v12:Int) (v13:List Int) (v14:List Int) (v15:List Int) (v16:Int) (v17:Int) (v18:Int) (v19:Bool):runA T (G N) live [] o2 body5 (St5 a0 (v2,v3,v4,v5,v6,v7,v8,v9,v10,v11,v12,v13,v14,v15,v16,v17,v18,v19)) (kloop [0,1,6,9,10,11,18,19,20] q2 (K5 N o0 o1 q1))=step5 N a0 (fun a=>q1 (St2 a0 a)) (fun a=>q2 (St5 a0 a)) (v2,v3,v4,v5,v6,v7,v8,v9,v10,v11,v12,v13,v14,v15,v16,v17,v18,v19):=by kernel_rfl
theorem lp5_eq (N:Nat) (a0:List Node) (q1:St E→Option R) (a:Int×Int×(List Node)×Int×Int×Int×Int×Int×(List Entry)×(List Int)×Int×(List Int)×(List Int)×(List Int)×Int×Int×Int×Bool):(orc T (G N) live [] N 2) loop5 (K5 N (orc T (G N) live [] N 3) (orc T (G N) live [] N 2) q1) (St5 a0 a)=lp5 N a0 (fun a=>q1 (St2 a0 a)) a:=
 (orc_loop (b:=body5) (live:=[0,1,6,9,10,11,18,19,20]) (by kernel_rfl)).trans (iter_eq (St5 a0) _ _ (fun q2 a=>by
  have hc:=congrFun (congrFun (congrArg (step5 N a0) (Eq.refl (fun a=>q1 (St2 a0 a)))) (fun a=>q2 (St5 a0 a))) a
  obtain ⟨u0,u1,u2,u3,u4,u5,u6,u7,u8,u9,u10,u11,u12,u13,u14,u15,u16,u17⟩:=a
  exact (body5_0 N (orc T (G N) live [] N 3) (orc T (G N) live [] N 2) (orc T (G N) live [] N 1) q1 q2 a0 u0 u1 u2 u3 u4 u5 u6 u7 u8 u9 u10 u11 u12 u13 u14 u15 u16 u17).trans hc) N a)
theorem lp2_eq (N:Nat) (a0:List Node) (a:Int×Int):(orc T (G N) live [] N 3) loop2 (K2 N (orc T (G N) live [] N 3)) (St2 a0 a)=lp2 N a0 a:=
 (orc_loop (b:=body2) (live:=[0,1,9,10,11]) (by kernel_rfl)).trans (iter_eq (St2 a0) _ _ (fun q1 a=>by
  have hc:=congrFun (congrFun (congrArg (step2 N a0) (funext fun a=>lp5_eq N a0 q1 a)) (fun a=>q1 (St2 a0 a))) a
  obtain ⟨u0,u1⟩:=a
  exact (body2_0 N (orc T (G N) live [] N 3) (orc T (G N) live [] N 2) q1 a0 u0 u1).trans hc) N a)
theorem G_ok (N:Nat):GamOK Tryz.prog (G N):=gam_ok (⟨impl_logsMatch.snd N,trivial⟩)
theorem snd (N:Nat):Sound Tryz.prog E 15 (sp N):=
 Mir.sound T_OK (G_ok N) mixed Tryz.func15 (c:=code) (by kernel_rfl) (by kernel_rfl) (sp N) (Nat.le_of_ble_eq_true (by kernel_rfl)) live [] (by
  rintro ⟨a0,_,_⟩ r h
  exact ⟨N,3,((run N _ a0).trans (congrArg (m0 N a0) (funext fun a=>lp2_eq N a0 a))).trans h⟩)
end impl_pairsHold_impl_Node__impl_logsMatch
namespace impl_LogsMatch
noncomputable def code:Code:=Tryz.f7.body.getD .skip
abbrev live:Live:=[]
noncomputable def G (N:Nat):Ctx E:=gam [(14,[],impl_GroupOK.sp N),(15,[16],impl_pairsHold_impl_Node__impl_logsMatch.sp N)]
theorem run (N:Nat) (o0:Orc E R) (a0:Group):runF T (G N) live [] Tryz.f7 code (sp N) o0 (a0,())=m N a0:=by kernel_rfl
theorem G_ok (N:Nat):GamOK Tryz.prog (G N):=gam_ok (⟨impl_GroupOK.snd N,impl_pairsHold_impl_Node__impl_logsMatch.snd N,trivial⟩)
theorem snd (N:Nat):Sound Tryz.prog E 7 (sp N):=
 Mir.sound T_OK (G_ok N) mixed Tryz.func7 (c:=code) (by kernel_rfl) (by kernel_rfl) (sp N) (Nat.le_of_ble_eq_true (by kernel_rfl)) live [] (by
  rintro ⟨a0,_⟩ r h
  exact ⟨N,2,((run N _ a0).trans rfl).trans h⟩)
end impl_LogsMatch
namespace laws_sameEntries
noncomputable def code:Code:=Tryz.f8.body.getD .skip
abbrev live:Live:=[(4,[0,1,5])]
noncomputable def G (N:Nat):Ctx E:=gam []
noncomputable def loop4:Code:=codeAt code [1,1,0,1,0]
noncomputable def body4:Code:=codeAt loop4 [0]
noncomputable def K4 (N:Nat) (o0:Orc E R):KT E R:=kAt T (G N) live [] o0 code [1,1,0,1,0] (kfin T Tryz.f8 (sp N))
noncomputable def St4 (a0:List Entry) (a1:List Entry):Int→St E
 | v2=>{ ρ:=[(0,.c (.at (.ro 41 (.st 41) a0))),(1,.c (.at (.ro 41 (.st 41) a1))),(5,.c (.at (.int .i64 v2)))],H:=[],nx:=0,n:=26,pin:=[] }
theorem run (N:Nat) (o0:Orc E R) (a0:List Entry) (a1:List Entry):runF T (G N) live [] Tryz.f8 code (sp N) o0 (a0,a1,())=m0 N a0 a1 (fun a=>o0 loop4 (K4 N o0) (St4 a0 a1 a)):=by kernel_rfl
theorem body4_0 (N:Nat) (o0:Orc E R) (o1:Orc E R) (q1:St E→Option R) (a0:List Entry) (a1:List Entry) (v2:Int):runA T (G N) live [] o1 body4 (St4 a0 a1 v2) (kloop [0,1,5] q1 (K4 N o0))=step4 N a0 a1 (fun a=>q1 (St4 a0 a1 a)) v2:=by kernel_rfl
theorem lp4_eq (N:Nat) (a0:List Entry) (a1:List Entry) (a:Int):(orc T (G N) live [] N 2) loop4 (K4 N (orc T (G N) live [] N 2)) (St4 a0 a1 a)=lp4 N a0 a1 a:=
 (orc_loop (b:=body4) (live:=[0,1,5]) (by kernel_rfl)).trans (iter_eq (St4 a0 a1) _ _ (fun q1 a=>by
  have hc:=congrFun (congrFun (rfl:(step4 N a0 a1)=(step4 N a0 a1)) (fun a=>q1 (St4 a0 a1 a))) a
  exact (body4_0 N (orc T (G N) live [] N 2) (orc T (G N) live [] N 1) q1 a0 a1 a).trans hc) N a)
theorem G_ok (N:Nat):GamOK Tryz.prog (G N):=gam_ok (trivial)
theorem snd (N:Nat):Sound Tryz.prog E 8 (sp N):=
 Mir.sound T_OK (G_ok N) mixed Tryz.func8 (c:=code) (by kernel_rfl) (by kernel_rfl) (sp N) (Nat.le_of_ble_eq_true (by kernel_rfl)) live [] (by
  rintro ⟨a0,a1,_⟩ r h
  exact ⟨N,2,((run N _ a0 a1).trans (congrArg (m0 N a0 a1) (funext fun a=>lp4_eq N a0 a1 a))).trans h⟩)
end laws_sameEntries
namespace laws_FnLogs
noncomputable def code:Code:=Tryz.f3.body.getD .skip
abbrev live:Live:=[(11,[11,12,13])]
noncomputable def G (N:Nat):Ctx E:=gam [(4,[],laws_at.sp N),(6,[],spec_GroupActsOf.sp N),(5,[],impl_GroupRun.sp N),(7,[],impl_LogsMatch.sp N),(8,[],laws_sameEntries.sp N)]
noncomputable def loop11:Code:=codeAt code [1,1,1,1,1,1,1,1,0,1,0]
noncomputable def body11:Code:=codeAt loop11 [0]
noncomputable def K11 (N:Nat) (o0:Orc E R):KT E R:=kAt T (G N) live [] o0 code [1,1,1,1,1,1,1,1,0,1,0] (kfin T Tryz.f3 (sp N))
noncomputable def St11 (a0:List Int) (a1:List Int):(Int×Int×Int×Int×(List Entry)×(List Int)×Int×(List Int)×(List Int)×(List Int)×Int×Int×Int×Bool×Int×Int×Int×(List Entry)×(List Int)×Int×(List Int)×(List Int)×(List Int)×Int×Int×Int×Bool)→St E
 | (v0,v1,v2,v3,v4,v5,v6,v7,v8,v9,v10,v11,v12,v13,v14,v15,v16,v17,v18,v19,v20,v21,v22,v23,v24,v25,v26)=>{ ρ:=[(11,.c (.at (.ptr 0 0))),(12,.c (.at (.ptr 1 0))),(13,.c (.at (.int .i64 v0)))],H:=[(0,.box 39 [.int .i64 v1,.int .i64 v2,.int .i64 v3,.ro 41 (.st 41) v4,.ro 3 (.int .i64) v5,.int .i64 v6,.ro 3 (.int .i64) v7,.ro 3 (.int .i64) v8,.ro 3 (.int .i64) v9,.int .i64 v10,.int .i64 v11,.int .i64 v12,.bool v13]),(1,.box 39 [.int .i64 v14,.int .i64 v15,.int .i64 v16,.ro 41 (.st 41) v17,.ro 3 (.int .i64) v18,.int .i64 v19,.ro 3 (.int .i64) v20,.ro 3 (.int .i64) v21,.ro 3 (.int .i64) v22,.int .i64 v23,.int .i64 v24,.int .i64 v25,.bool v26])],nx:=2,n:=99,pin:=[] }
theorem run (N:Nat) (o0:Orc E R) (a0:List Int) (a1:List Int):runF T (G N) live [] Tryz.f3 code (sp N) o0 (a0,a1,())=m0 N a0 a1 (fun a=>o0 loop11 (K11 N o0) (St11 a0 a1 a)):=by kernel_rfl
theorem body11_0 (N:Nat) (o0:Orc E R) (o1:Orc E R) (q1:St E→Option R) (a0:List Int) (a1:List Int) (v0:Int) (v1:Int) (v2:Int) (v3:Int) (v4:List Entry) (v5:List Int) (v6:Int) (v7:List Int) (v8:List Int) (v9:List Int) (v10:Int) (v11:Int) (v12:Int) (v13:Bool) (v14:Int) (v15:Int) (v16:Int) (v17:List Entry) (v18:List Int) (v19:Int) (v20:List Int) (v21:List Int) (v22:List Int) (v23:Int) (v24:Int) (v25:Int) (v26:Bool):runA T (G N) live [] o1 body11 (St11 a0 a1 (v0,v1,v2,v3,v4,v5,v6,v7,v8,v9,v10,v11,v12,v13,v14,v15,v16,v17,v18,v19,v20,v21,v22,v23,v24,v25,v26)) (kloop [11,12,13] q1 (K11 N o0))=step11 N a0 a1 (fun a=>q1 (St11 a0 a1 a)) (v0,v1,v2,v3,v4,v5,v6,v7,v8,v9,v10,v11,v12,v13,v14,v15,v16,v17,v18,v19,v20,v21,v22,v23,v24,v25,v26):=by kernel_rfl
theorem lp11_eq (N:Nat) (a0:List Int) (a1:List Int) (a:Int×Int×Int×Int×(List Entry)×(List Int)×Int×(List Int)×(List Int)×(List Int)×Int×Int×Int×Bool×Int×Int×Int×(List Entry)×(List Int)×Int×(List Int)×(List Int)×(List Int)×Int×Int×Int×Bool):(orc T (G N) live [] N 2) loop11 (K11 N (orc T (G N) live [] N 2)) (St11 a0 a1 a)=lp11 N a0 a1 a:=
 (orc_loop (b:=body11) (live:=[11,12,13]) (by kernel_rfl)).trans (iter_eq (St11 a0 a1) _ _ (fun q1 a=>by
  have hc:=congrFun (congrFun (rfl:(step11 N a0 a1)=(step11 N a0 a1)) (fun a=>q1 (St11 a0 a1 a))) a
  obtain ⟨u0,u1,u2,u3,u4,u5,u6,u7,u8,u9,u10,u11,u12,u13,u14,u15,u16,u17,u18,u19,u20,u21,u22,u23,u24,u25,u26⟩:=a
  exact (body11_0 N (orc T (G N) live [] N 2) (orc T (G N) live [] N 1) q1 a0 a1 u0 u1 u2 u3 u4 u5 u6 u7 u8 u9 u10 u11 u12 u13 u14 u15 u16 u17 u18 u19 u20 u21 u22 u23 u24 u25 u26).trans hc) N a)
theorem G_ok (N:Nat):GamOK Tryz.prog (G N):=gam_ok (⟨laws_at.snd N,spec_GroupActsOf.snd N,impl_GroupRun.snd N,impl_LogsMatch.snd N,laws_sameEntries.snd N,trivial⟩)
theorem snd (N:Nat):Sound Tryz.prog E 3 (sp N):=
 Mir.sound T_OK (G_ok N) mixed Tryz.func3 (c:=code) (by kernel_rfl) (by kernel_rfl) (sp N) (Nat.le_of_ble_eq_true (by kernel_rfl)) live [] (by
  rintro ⟨a0,a1,_⟩ r h
  exact ⟨N,2,((run N _ a0 a1).trans (congrArg (m0 N a0 a1) (funext fun a=>lp11_eq N a0 a1 a))).trans h⟩)
end laws_FnLogs
end Mir.Y
