/- The models are what the functions do. -/
import Derived.Test.YtbbkpgpfppnakaaGreatJTP3
namespace Mir.Y
set_option linter.unusedVariables false
set_option maxRecDepth 10000
open Go Go.Proofs Mir
namespace impl_worker_take
noncomputable def code:Code:=Tryz.f29.body.getD .skip
abbrev live:Live:=[]
noncomputable def G (N:Nat):Ctx E:=gam [(57,[],impl_Node_follow.sp N),(58,[],impl_worker_vote.sp N),(59,[],impl_worker_voted.sp N),(60,[],impl_worker_takeAppend.sp N),(61,[],impl_worker_appended.sp N)]
theorem run (N:Nat) (o0:Orc E R) (a0:worker) (a1:Message):runF TD (G N) live [] Tryz.f29 code (sp N) o0 (a0,a1,())=m N a0 a1:=by kernel_rfl
theorem G_ok (N:Nat):GamOK Tryz.prog (G N):=gam_ok (⟨impl_Node_follow.snd N,impl_worker_vote.snd N,impl_worker_voted.snd N,impl_worker_takeAppend.snd N,impl_worker_appended.snd N,trivial⟩)
theorem snd (N:Nat):Sound Tryz.prog E 29 (sp N):=
 Mir.sound TD_OK (G_ok N) mixed Tryz.func29 (c:=code) (by kernel_rfl) (by kernel_rfl) (sp N) (Nat.le_of_ble_eq_true (by kernel_rfl)) live [] (by
  rintro ⟨a0,a1,_⟩ r h
  exact ⟨N,2,((run N _ a0 a1).trans rfl).trans h⟩)
end impl_worker_take
namespace impl_worker_asNode
noncomputable def code:Code:=Tryz.f30.body.getD .skip
abbrev live:Live:=[]
noncomputable def G (N:Nat):Ctx E:=gam [(28,[],impl_copyNode.sp N)]
theorem run (N:Nat) (o0:Orc E R) (a0:worker):runF TD (G N) live [] Tryz.f30 code (sp N) o0 (a0,())=m N a0:=by kernel_rfl
theorem G_ok (N:Nat):GamOK Tryz.prog (G N):=gam_ok (⟨impl_copyNode.snd N,trivial⟩)
theorem snd (N:Nat):Sound Tryz.prog E 30 (sp N):=
 Mir.sound TD_OK (G_ok N) mixed Tryz.func30 (c:=code) (by kernel_rfl) (by kernel_rfl) (sp N) (Nat.le_of_ble_eq_true (by kernel_rfl)) live [] (by
  rintro ⟨a0,_⟩ r h
  exact ⟨N,2,((run N _ a0).trans rfl).trans h⟩)
end impl_worker_asNode
namespace impl_NodeTake
noncomputable def code:Code:=Tryz.f9.body.getD .skip
abbrev live:Live:=[]
noncomputable def G (N:Nat):Ctx E:=gam [(26,[],impl_NodeOK.sp N),(27,[],impl_messageOK.sp N),(28,[],impl_copyNode.sp N),(29,[],impl_worker_take.sp N),(30,[],impl_worker_asNode.sp N)]
theorem run (N:Nat) (o0:Orc E R) (a0:Node) (a1:Message):runF TD (G N) live [] Tryz.f9 code (sp N) o0 (a0,a1,())=m N a0 a1:=by kernel_rfl
theorem G_ok (N:Nat):GamOK Tryz.prog (G N):=gam_ok (⟨impl_NodeOK.snd N,impl_messageOK.snd N,impl_copyNode.snd N,impl_worker_take.snd N,impl_worker_asNode.snd N,trivial⟩)
theorem snd (N:Nat):Sound Tryz.prog E 9 (sp N):=
 Mir.sound TD_OK (G_ok N) mixed Tryz.func9 (c:=code) (by kernel_rfl) (by kernel_rfl) (sp N) (Nat.le_of_ble_eq_true (by kernel_rfl)) live [] (by
  rintro ⟨a0,a1,_⟩ r h
  exact ⟨N,2,((run N _ a0 a1).trans rfl).trans h⟩)
end impl_NodeTake
namespace laws_eqEntry
noncomputable def code:Code:=Tryz.f62.body.getD .skip
abbrev live:Live:=[]
noncomputable def G (N:Nat):Ctx E:=gam []
theorem run (N:Nat) (o0:Orc E R) (a0:Entry) (a1:Entry):runF T (G N) live [] Tryz.f62 code (sp N) o0 (a0,a1,())=m N a0 a1:=by kernel_rfl
theorem G_ok (N:Nat):GamOK Tryz.prog (G N):=gam_ok (trivial)
theorem snd (N:Nat):Sound Tryz.prog E 62 (sp N):=
 Mir.sound T_OK (G_ok N) mixed Tryz.func62 (c:=code) (by kernel_rfl) (by kernel_rfl) (sp N) (Nat.le_of_ble_eq_true (by kernel_rfl)) live [] (by
  rintro ⟨a0,a1,_⟩ r h
  exact ⟨N,2,((run N _ a0 a1).trans rfl).trans h⟩)
end laws_eqEntry
namespace laws_eqEntryS
noncomputable def code:Code:=Tryz.f31.body.getD .skip
abbrev live:Live:=[(4,[0,1,5])]
noncomputable def G (N:Nat):Ctx E:=gam [(62,[],laws_eqEntry.sp N)]
noncomputable def loop4:Code:=codeAt code [1,1,0,1,0]
noncomputable def body4:Code:=codeAt loop4 [0]
noncomputable def K4 (N:Nat) (o0:Orc E R):KT E R:=kAt T (G N) live [] o0 code [1,1,0,1,0] (kfin T Tryz.f31 (sp N))
noncomputable def St4 (a0:List Entry) (a1:List Entry):Int→St E
 | v2=>{ ρ:=[(0,.c (.at (.ro 72 (.st 72) a0))),(1,.c (.at (.ro 72 (.st 72) a1))),(5,.c (.at (.int .i64 v2)))],H:=[],nx:=0,n:=27,pin:=[] }
theorem run (N:Nat) (o0:Orc E R) (a0:List Entry) (a1:List Entry):runF T (G N) live [] Tryz.f31 code (sp N) o0 (a0,a1,())=m0 N a0 a1 (fun a=>o0 loop4 (K4 N o0) (St4 a0 a1 a)):=by kernel_rfl
theorem body4_0 (N:Nat) (o0:Orc E R) (o1:Orc E R) (q1:St E→Option R) (a0:List Entry) (a1:List Entry) (v2:Int):runA T (G N) live [] o1 body4 (St4 a0 a1 v2) (kloop [0,1,5] q1 (K4 N o0))=step4 N a0 a1 (fun a=>q1 (St4 a0 a1 a)) v2:=by kernel_rfl
theorem lp4_eq (N:Nat) (a0:List Entry) (a1:List Entry) (a:Int):(orc T (G N) live [] N 2) loop4 (K4 N (orc T (G N) live [] N 2)) (St4 a0 a1 a)=lp4 N a0 a1 a:=
 (orc_loop (b:=body4) (live:=[0,1,5]) (by kernel_rfl)).trans (iter_eq (St4 a0 a1) _ _ (fun q1 a=>by
  have hc:=congrFun (congrFun (rfl:(step4 N a0 a1)=(step4 N a0 a1)) (fun a=>q1 (St4 a0 a1 a))) a
  exact (body4_0 N (orc T (G N) live [] N 2) (orc T (G N) live [] N 1) q1 a0 a1 a).trans hc) N a)
theorem G_ok (N:Nat):GamOK Tryz.prog (G N):=gam_ok (⟨laws_eqEntry.snd N,trivial⟩)
theorem snd (N:Nat):Sound Tryz.prog E 31 (sp N):=
 Mir.sound T_OK (G_ok N) mixed Tryz.func31 (c:=code) (by kernel_rfl) (by kernel_rfl) (sp N) (Nat.le_of_ble_eq_true (by kernel_rfl)) live [] (by
  rintro ⟨a0,a1,_⟩ r h
  exact ⟨N,2,((run N _ a0 a1).trans (congrArg (m0 N a0 a1) (funext fun a=>lp4_eq N a0 a1 a))).trans h⟩)
end laws_eqEntryS
namespace laws_eqIntS
noncomputable def code:Code:=Tryz.f32.body.getD .skip
abbrev live:Live:=[(4,[0,1,5])]
noncomputable def G (N:Nat):Ctx E:=gam []
noncomputable def loop4:Code:=codeAt code [1,1,0,1,0]
noncomputable def body4:Code:=codeAt loop4 [0]
noncomputable def K4 (N:Nat) (o0:Orc E R):KT E R:=kAt T (G N) live [] o0 code [1,1,0,1,0] (kfin T Tryz.f32 (sp N))
noncomputable def St4 (a0:List Int) (a1:List Int):Int→St E
 | v2=>{ ρ:=[(0,.c (.at (.ro 3 (.int .i64) a0))),(1,.c (.at (.ro 3 (.int .i64) a1))),(5,.c (.at (.int .i64 v2)))],H:=[],nx:=0,n:=26,pin:=[] }
theorem run (N:Nat) (o0:Orc E R) (a0:List Int) (a1:List Int):runF T (G N) live [] Tryz.f32 code (sp N) o0 (a0,a1,())=m0 N a0 a1 (fun a=>o0 loop4 (K4 N o0) (St4 a0 a1 a)):=by kernel_rfl
theorem body4_0 (N:Nat) (o0:Orc E R) (o1:Orc E R) (q1:St E→Option R) (a0:List Int) (a1:List Int) (v2:Int):runA T (G N) live [] o1 body4 (St4 a0 a1 v2) (kloop [0,1,5] q1 (K4 N o0))=step4 N a0 a1 (fun a=>q1 (St4 a0 a1 a)) v2:=by kernel_rfl
theorem lp4_eq (N:Nat) (a0:List Int) (a1:List Int) (a:Int):(orc T (G N) live [] N 2) loop4 (K4 N (orc T (G N) live [] N 2)) (St4 a0 a1 a)=lp4 N a0 a1 a:=
 (orc_loop (b:=body4) (live:=[0,1,5]) (by kernel_rfl)).trans (iter_eq (St4 a0 a1) _ _ (fun q1 a=>by
  have hc:=congrFun (congrFun (rfl:(step4 N a0 a1)=(step4 N a0 a1)) (fun a=>q1 (St4 a0 a1 a))) a
  exact (body4_0 N (orc T (G N) live [] N 2) (orc T (G N) live [] N 1) q1 a0 a1 a).trans hc) N a)
theorem G_ok (N:Nat):GamOK Tryz.prog (G N):=gam_ok (trivial)
theorem snd (N:Nat):Sound Tryz.prog E 32 (sp N):=
 Mir.sound T_OK (G_ok N) mixed Tryz.func32 (c:=code) (by kernel_rfl) (by kernel_rfl) (sp N) (Nat.le_of_ble_eq_true (by kernel_rfl)) live [] (by
  rintro ⟨a0,a1,_⟩ r h
  exact ⟨N,2,((run N _ a0 a1).trans (congrArg (m0 N a0 a1) (funext fun a=>lp4_eq N a0 a1 a))).trans h⟩)
end laws_eqIntS
namespace laws_eqNode
noncomputable def code:Code:=Tryz.f10.body.getD .skip
abbrev live:Live:=[]
noncomputable def G (N:Nat):Ctx E:=gam [(31,[],laws_eqEntryS.sp N),(32,[],laws_eqIntS.sp N)]
theorem run (N:Nat) (o0:Orc E R) (a0:Node) (a1:Node):runF T (G N) live [] Tryz.f10 code (sp N) o0 (a0,a1,())=m N a0 a1:=by kernel_rfl
theorem G_ok (N:Nat):GamOK Tryz.prog (G N):=gam_ok (⟨laws_eqEntryS.snd N,laws_eqIntS.snd N,trivial⟩)
theorem snd (N:Nat):Sound Tryz.prog E 10 (sp N):=
 Mir.sound T_OK (G_ok N) mixed Tryz.func10 (c:=code) (by kernel_rfl) (by kernel_rfl) (sp N) (Nat.le_of_ble_eq_true (by kernel_rfl)) live [] (by
  rintro ⟨a0,a1,_⟩ r h
  exact ⟨N,2,((run N _ a0 a1).trans rfl).trans h⟩)
end laws_eqNode
namespace laws_eqMessage
noncomputable def code:Code:=Tryz.f12.body.getD .skip
abbrev live:Live:=[]
noncomputable def G (N:Nat):Ctx E:=gam [(31,[],laws_eqEntryS.sp N)]
theorem run (N:Nat) (o0:Orc E R) (a0:Message) (a1:Message):runF T (G N) live [] Tryz.f12 code (sp N) o0 (a0,a1,())=m N a0 a1:=by kernel_rfl
theorem G_ok (N:Nat):GamOK Tryz.prog (G N):=gam_ok (⟨laws_eqEntryS.snd N,trivial⟩)
theorem snd (N:Nat):Sound Tryz.prog E 12 (sp N):=
 Mir.sound T_OK (G_ok N) mixed Tryz.func12 (c:=code) (by kernel_rfl) (by kernel_rfl) (sp N) (Nat.le_of_ble_eq_true (by kernel_rfl)) live [] (by
  rintro ⟨a0,a1,_⟩ r h
  exact ⟨N,2,((run N _ a0 a1).trans rfl).trans h⟩)
end laws_eqMessage
namespace laws_eqMessageS
noncomputable def code:Code:=Tryz.f11.body.getD .skip
abbrev live:Live:=[(4,[0,1,5])]
noncomputable def G (N:Nat):Ctx E:=gam [(12,[],laws_eqMessage.sp N)]
noncomputable def loop4:Code:=codeAt code [1,1,0,1,0]
noncomputable def body4:Code:=codeAt loop4 [0]
noncomputable def K4 (N:Nat) (o0:Orc E R):KT E R:=kAt T (G N) live [] o0 code [1,1,0,1,0] (kfin T Tryz.f11 (sp N))
noncomputable def St4 (a0:List Message) (a1:List Message):Int→St E
 | v2=>{ ρ:=[(0,.c (.at (.ro 38 (.st 38) a0))),(1,.c (.at (.ro 38 (.st 38) a1))),(5,.c (.at (.int .i64 v2)))],H:=[],nx:=0,n:=27,pin:=[] }
theorem run (N:Nat) (o0:Orc E R) (a0:List Message) (a1:List Message):runF T (G N) live [] Tryz.f11 code (sp N) o0 (a0,a1,())=m0 N a0 a1 (fun a=>o0 loop4 (K4 N o0) (St4 a0 a1 a)):=by kernel_rfl
theorem body4_0 (N:Nat) (o0:Orc E R) (o1:Orc E R) (q1:St E→Option R) (a0:List Message) (a1:List Message) (v2:Int):runA T (G N) live [] o1 body4 (St4 a0 a1 v2) (kloop [0,1,5] q1 (K4 N o0))=step4 N a0 a1 (fun a=>q1 (St4 a0 a1 a)) v2:=by kernel_rfl
theorem lp4_eq (N:Nat) (a0:List Message) (a1:List Message) (a:Int):(orc T (G N) live [] N 2) loop4 (K4 N (orc T (G N) live [] N 2)) (St4 a0 a1 a)=lp4 N a0 a1 a:=
 (orc_loop (b:=body4) (live:=[0,1,5]) (by kernel_rfl)).trans (iter_eq (St4 a0 a1) _ _ (fun q1 a=>by
  have hc:=congrFun (congrFun (rfl:(step4 N a0 a1)=(step4 N a0 a1)) (fun a=>q1 (St4 a0 a1 a))) a
  exact (body4_0 N (orc T (G N) live [] N 2) (orc T (G N) live [] N 1) q1 a0 a1 a).trans hc) N a)
theorem G_ok (N:Nat):GamOK Tryz.prog (G N):=gam_ok (⟨laws_eqMessage.snd N,trivial⟩)
theorem snd (N:Nat):Sound Tryz.prog E 11 (sp N):=
 Mir.sound T_OK (G_ok N) mixed Tryz.func11 (c:=code) (by kernel_rfl) (by kernel_rfl) (sp N) (Nat.le_of_ble_eq_true (by kernel_rfl)) live [] (by
  rintro ⟨a0,a1,_⟩ r h
  exact ⟨N,2,((run N _ a0 a1).trans (congrArg (m0 N a0 a1) (funext fun a=>lp4_eq N a0 a1 a))).trans h⟩)
end laws_eqMessageS
namespace laws_markText
noncomputable def code:Code:=Tryz.f63.body.getD .skip
abbrev live:Live:=[(4,[0,3])]
noncomputable def G (N:Nat):Ctx E:=gam []
noncomputable def loop4:Code:=codeAt code [1,1,1,0,0]
noncomputable def body4:Code:=codeAt loop4 [0]
noncomputable def K4 (N:Nat) (o0:Orc E R):KT E R:=kAt T (G N) live [] o0 code [1,1,1,0,0] (kfin T Tryz.f63 (sp N))
noncomputable def St4 (a0:Int):(Int×ByteArray)→St E
 | (v0,v1)=>{ ρ:=[(0,.c (.at (.int .i64 v0))),(3,.c (.at (.str v1)))],H:=[],nx:=0,n:=20,pin:=[] }
theorem run (N:Nat) (o0:Orc E R) (a0:Int):runF T (G N) live [] Tryz.f63 code (sp N) o0 (a0,())=m0 N a0 (fun a=>o0 loop4 (K4 N o0) (St4 a0 a)):=by kernel_rfl
theorem body4_0 (N:Nat) (o0:Orc E R) (o1:Orc E R) (q1:St E→Option R) (a0:Int) (v0:Int) (v1:ByteArray):runA T (G N) live [] o1 body4 (St4 a0 (v0,v1)) (kloop [0,3] q1 (K4 N o0))=step4 N a0 (fun a=>q1 (St4 a0 a)) (v0,v1):=by kernel_rfl
theorem lp4_eq (N:Nat) (a0:Int) (a:Int×ByteArray):(orc T (G N) live [] N 2) loop4 (K4 N (orc T (G N) live [] N 2)) (St4 a0 a)=lp4 N a0 a:=
 (orc_loop (b:=body4) (live:=[0,3]) (by kernel_rfl)).trans (iter_eq (St4 a0) _ _ (fun q1 a=>by
  have hc:=congrFun (congrFun (rfl:(step4 N a0)=(step4 N a0)) (fun a=>q1 (St4 a0 a))) a
  obtain ⟨u0,u1⟩:=a
  exact (body4_0 N (orc T (G N) live [] N 2) (orc T (G N) live [] N 1) q1 a0 u0 u1).trans hc) N a)
theorem G_ok (N:Nat):GamOK Tryz.prog (G N):=gam_ok (trivial)
theorem snd (N:Nat):Sound Tryz.prog E 63 (sp N):=
 Mir.sound T_OK (G_ok N) mixed Tryz.func63 (c:=code) (by kernel_rfl) (by kernel_rfl) (sp N) (Nat.le_of_ble_eq_true (by kernel_rfl)) live [] (by
  rintro ⟨a0,_⟩ r h
  exact ⟨N,2,((run N _ a0).trans (congrArg (m0 N a0) (funext fun a=>lp4_eq N a0 a))).trans h⟩)
end laws_markText
namespace laws_markEntryS
noncomputable def code:Code:=Tryz.f33.body.getD .skip
abbrev live:Live:=[(2,[0,1,5])]
noncomputable def G (N:Nat):Ctx E:=gam [(63,[],laws_markText.sp N)]
noncomputable def loop2:Code:=codeAt code [1,0,1,0]
noncomputable def body2:Code:=codeAt loop2 [0]
noncomputable def K2 (N:Nat) (o0:Orc E R):KT E R:=kAt T (G N) live [] o0 code [1,0,1,0] (kfin T Tryz.f33 (sp N))
noncomputable def St2 (a0:List Entry) (a1:Int):(Int×Int×(List Entry))→St E
 | (v0,v1,v2)=>{ ρ:=[(0,.c (.at (.own 0))),(1,.c (.at (.int .i64 v0))),(5,.c (.at (.int .i64 v1)))],H:=[(0,.row 72 (.st 72) v2 false)],nx:=1,n:=35,pin:=[0] }
theorem run (N:Nat) (o0:Orc E R) (a0:List Entry) (a1:Int):runF T (G N) live [] Tryz.f33 code (sp N) o0 (a0,a1,())=m0 N a0 a1 (fun a=>o0 loop2 (K2 N o0) (St2 a0 a1 a)):=by kernel_rfl
theorem body2_0 (N:Nat) (o0:Orc E R) (o1:Orc E R) (q1:St E→Option R) (a0:List Entry) (a1:Int) (v0:Int) (v1:Int) (v2:List Entry):runA T (G N) live [] o1 body2 (St2 a0 a1 (v0,v1,v2)) (kloop [0,1,5] q1 (K2 N o0))=step2 N a0 a1 (fun a=>q1 (St2 a0 a1 a)) (v0,v1,v2):=by kernel_rfl
theorem lp2_eq (N:Nat) (a0:List Entry) (a1:Int) (a:Int×Int×(List Entry)):(orc T (G N) live [] N 2) loop2 (K2 N (orc T (G N) live [] N 2)) (St2 a0 a1 a)=lp2 N a0 a1 a:=
 (orc_loop (b:=body2) (live:=[0,1,5]) (by kernel_rfl)).trans (iter_eq (St2 a0 a1) _ _ (fun q1 a=>by
  have hc:=congrFun (congrFun (rfl:(step2 N a0 a1)=(step2 N a0 a1)) (fun a=>q1 (St2 a0 a1 a))) a
  obtain ⟨u0,u1,u2⟩:=a
  exact (body2_0 N (orc T (G N) live [] N 2) (orc T (G N) live [] N 1) q1 a0 a1 u0 u1 u2).trans hc) N a)
theorem G_ok (N:Nat):GamOK Tryz.prog (G N):=gam_ok (⟨laws_markText.snd N,trivial⟩)
theorem snd (N:Nat):Sound Tryz.prog E 33 (sp N):=
 Mir.sound T_OK (G_ok N) mixed Tryz.func33 (c:=code) (by kernel_rfl) (by kernel_rfl) (sp N) (Nat.le_of_ble_eq_true (by kernel_rfl)) live [] (by
  rintro ⟨a0,a1,_⟩ r h
  exact ⟨N,2,((run N _ a0 a1).trans (congrArg (m0 N a0 a1) (funext fun a=>lp2_eq N a0 a1 a))).trans h⟩)
end laws_markEntryS
namespace laws_markIntS
noncomputable def code:Code:=Tryz.f34.body.getD .skip
abbrev live:Live:=[(2,[0,1,5])]
noncomputable def G (N:Nat):Ctx E:=gam []
noncomputable def loop2:Code:=codeAt code [1,0,1,0]
noncomputable def body2:Code:=codeAt loop2 [0]
noncomputable def K2 (N:Nat) (o0:Orc E R):KT E R:=kAt T (G N) live [] o0 code [1,0,1,0] (kfin T Tryz.f34 (sp N))
noncomputable def St2 (a0:List Int) (a1:Int):(Int×Int×(List Int))→St E
 | (v0,v1,v2)=>{ ρ:=[(0,.c (.at (.own 0))),(1,.c (.at (.int .i64 v0))),(5,.c (.at (.int .i64 v1)))],H:=[(0,.row 3 (.int .i64) v2 false)],nx:=1,n:=19,pin:=[0] }
theorem run (N:Nat) (o0:Orc E R) (a0:List Int) (a1:Int):runF T (G N) live [] Tryz.f34 code (sp N) o0 (a0,a1,())=m0 N a0 a1 (fun a=>o0 loop2 (K2 N o0) (St2 a0 a1 a)):=by kernel_rfl
theorem body2_0 (N:Nat) (o0:Orc E R) (o1:Orc E R) (q1:St E→Option R) (a0:List Int) (a1:Int) (v0:Int) (v1:Int) (v2:List Int):runA T (G N) live [] o1 body2 (St2 a0 a1 (v0,v1,v2)) (kloop [0,1,5] q1 (K2 N o0))=step2 N a0 a1 (fun a=>q1 (St2 a0 a1 a)) (v0,v1,v2):=by kernel_rfl
theorem lp2_eq (N:Nat) (a0:List Int) (a1:Int) (a:Int×Int×(List Int)):(orc T (G N) live [] N 2) loop2 (K2 N (orc T (G N) live [] N 2)) (St2 a0 a1 a)=lp2 N a0 a1 a:=
 (orc_loop (b:=body2) (live:=[0,1,5]) (by kernel_rfl)).trans (iter_eq (St2 a0 a1) _ _ (fun q1 a=>by
  have hc:=congrFun (congrFun (rfl:(step2 N a0 a1)=(step2 N a0 a1)) (fun a=>q1 (St2 a0 a1 a))) a
  obtain ⟨u0,u1,u2⟩:=a
  exact (body2_0 N (orc T (G N) live [] N 2) (orc T (G N) live [] N 1) q1 a0 a1 u0 u1 u2).trans hc) N a)
theorem G_ok (N:Nat):GamOK Tryz.prog (G N):=gam_ok (trivial)
theorem snd (N:Nat):Sound Tryz.prog E 34 (sp N):=
 Mir.sound T_OK (G_ok N) mixed Tryz.func34 (c:=code) (by kernel_rfl) (by kernel_rfl) (sp N) (Nat.le_of_ble_eq_true (by kernel_rfl)) live [] (by
  rintro ⟨a0,a1,_⟩ r h
  exact ⟨N,2,((run N _ a0 a1).trans (congrArg (m0 N a0 a1) (funext fun a=>lp2_eq N a0 a1 a))).trans h⟩)
end laws_markIntS
namespace laws_markNode
noncomputable def code:Code:=Tryz.f13.body.getD .skip
abbrev live:Live:=[]
noncomputable def G (N:Nat):Ctx E:=gam [(33,[],laws_markEntryS.sp N),(34,[],laws_markIntS.sp N)]
theorem run (N:Nat) (o0:Orc E R) (a0:Node) (a1:Int):runF T (G N) live [] Tryz.f13 code (sp N) o0 (a0,a1,())=m N a0 a1:=by kernel_rfl
theorem G_ok (N:Nat):GamOK Tryz.prog (G N):=gam_ok (⟨laws_markEntryS.snd N,laws_markIntS.snd N,trivial⟩)
theorem snd (N:Nat):Sound Tryz.prog E 13 (sp N):=
 Mir.sound T_OK (G_ok N) mixed Tryz.func13 (c:=code) (by kernel_rfl) (by kernel_rfl) (sp N) (Nat.le_of_ble_eq_true (by kernel_rfl)) live [] (by
  rintro ⟨a0,a1,_⟩ r h
  exact ⟨N,2,((run N _ a0 a1).trans rfl).trans h⟩)
end laws_markNode
namespace laws_markMessage
noncomputable def code:Code:=Tryz.f14.body.getD .skip
abbrev live:Live:=[]
noncomputable def G (N:Nat):Ctx E:=gam [(33,[],laws_markEntryS.sp N)]
theorem run (N:Nat) (o0:Orc E R) (a0:Message) (a1:Int):runF T (G N) live [] Tryz.f14 code (sp N) o0 (a0,a1,())=m N a0 a1:=by kernel_rfl
theorem G_ok (N:Nat):GamOK Tryz.prog (G N):=gam_ok (⟨laws_markEntryS.snd N,trivial⟩)
theorem snd (N:Nat):Sound Tryz.prog E 14 (sp N):=
 Mir.sound T_OK (G_ok N) mixed Tryz.func14 (c:=code) (by kernel_rfl) (by kernel_rfl) (sp N) (Nat.le_of_ble_eq_true (by kernel_rfl)) live [] (by
  rintro ⟨a0,a1,_⟩ r h
  exact ⟨N,2,((run N _ a0 a1).trans rfl).trans h⟩)
end laws_markMessage
namespace laws_markMessageS
noncomputable def code:Code:=Tryz.f15.body.getD .skip
abbrev live:Live:=[(2,[0,1,5])]
noncomputable def G (N:Nat):Ctx E:=gam [(33,[],laws_markEntryS.sp N)]
noncomputable def loop2:Code:=codeAt code [1,0,1,0]
noncomputable def body2:Code:=codeAt loop2 [0]
noncomputable def K2 (N:Nat) (o0:Orc E R):KT E R:=kAt TD (G N) live [] o0 code [1,0,1,0] (kfin TD Tryz.f15 (sp N))
noncomputable def St2 (a0:List Message) (a1:Int):(Int×Int×(List Message))→St E
 | (v0,v1,v2)=>{ ρ:=[(0,.c (.at (.own 0))),(1,.c (.at (.int .i64 v0))),(5,.c (.at (.int .i64 v1)))],H:=[(0,.drow 38 (.st 38) v2 1),(1,.hdr)],nx:=2,n:=78,pin:=[0] }
theorem run (N:Nat) (o0:Orc E R) (a0:List Message) (a1:Int):runF TD (G N) live [] Tryz.f15 code (sp N) o0 (a0,a1,())=m0 N a0 a1 (fun a=>o0 loop2 (K2 N o0) (St2 a0 a1 a)):=by kernel_rfl
theorem body2_0 (N:Nat) (o0:Orc E R) (o1:Orc E R) (q1:St E→Option R) (a0:List Message) (a1:Int) (v0:Int) (v1:Int) (v2:List Message):runA TD (G N) live [] o1 body2 (St2 a0 a1 (v0,v1,v2)) (kloop [0,1,5] q1 (K2 N o0))=step2 N a0 a1 (fun a=>q1 (St2 a0 a1 a)) (v0,v1,v2):=by kernel_rfl
theorem lp2_eq (N:Nat) (a0:List Message) (a1:Int) (a:Int×Int×(List Message)):(orc TD (G N) live [] N 2) loop2 (K2 N (orc TD (G N) live [] N 2)) (St2 a0 a1 a)=lp2 N a0 a1 a:=
 (orc_loop (b:=body2) (live:=[0,1,5]) (by kernel_rfl)).trans (iter_eq (St2 a0 a1) _ _ (fun q1 a=>by
  have hc:=congrFun (congrFun (rfl:(step2 N a0 a1)=(step2 N a0 a1)) (fun a=>q1 (St2 a0 a1 a))) a
  obtain ⟨u0,u1,u2⟩:=a
  exact (body2_0 N (orc TD (G N) live [] N 2) (orc TD (G N) live [] N 1) q1 a0 a1 u0 u1 u2).trans hc) N a)
theorem G_ok (N:Nat):GamOK Tryz.prog (G N):=gam_ok (⟨laws_markEntryS.snd N,trivial⟩)
theorem snd (N:Nat):Sound Tryz.prog E 15 (sp N):=
 Mir.sound TD_OK (G_ok N) mixed Tryz.func15 (c:=code) (by kernel_rfl) (by kernel_rfl) (sp N) (Nat.le_of_ble_eq_true (by kernel_rfl)) live [] (by
  rintro ⟨a0,a1,_⟩ r h
  exact ⟨N,2,((run N _ a0 a1).trans (congrArg (m0 N a0 a1) (funext fun a=>lp2_eq N a0 a1 a))).trans h⟩)
end laws_markMessageS
namespace laws_heldEntryS
noncomputable def code:Code:=Tryz.f35.body.getD .skip
abbrev live:Live:=[(2,[0,1,5])]
noncomputable def G (N:Nat):Ctx E:=gam [(63,[],laws_markText.sp N)]
noncomputable def loop2:Code:=codeAt code [1,0,1,0]
noncomputable def body2:Code:=codeAt loop2 [0]
noncomputable def K2 (N:Nat) (o0:Orc E R):KT E R:=kAt T (G N) live [] o0 code [1,0,1,0] (kfin T Tryz.f35 (sp N))
noncomputable def St2 (a0:List Entry) (a1:Int):(Int×Int)→St E
 | (v1,v2)=>{ ρ:=[(0,.c (.at (.ro 72 (.st 72) a0))),(1,.c (.at (.int .i64 v1))),(5,.c (.at (.int .i64 v2)))],H:=[],nx:=0,n:=41,pin:=[] }
theorem run (N:Nat) (o0:Orc E R) (a0:List Entry) (a1:Int):runF T (G N) live [] Tryz.f35 code (sp N) o0 (a0,a1,())=m0 N a0 a1 (fun a=>o0 loop2 (K2 N o0) (St2 a0 a1 a)):=by kernel_rfl
theorem body2_0 (N:Nat) (o0:Orc E R) (o1:Orc E R) (q1:St E→Option R) (a0:List Entry) (a1:Int) (v1:Int) (v2:Int):runA T (G N) live [] o1 body2 (St2 a0 a1 (v1,v2)) (kloop [0,1,5] q1 (K2 N o0))=step2 N a0 a1 (fun a=>q1 (St2 a0 a1 a)) (v1,v2):=by kernel_rfl
theorem lp2_eq (N:Nat) (a0:List Entry) (a1:Int) (a:Int×Int):(orc T (G N) live [] N 2) loop2 (K2 N (orc T (G N) live [] N 2)) (St2 a0 a1 a)=lp2 N a0 a1 a:=
 (orc_loop (b:=body2) (live:=[0,1,5]) (by kernel_rfl)).trans (iter_eq (St2 a0 a1) _ _ (fun q1 a=>by
  have hc:=congrFun (congrFun (rfl:(step2 N a0 a1)=(step2 N a0 a1)) (fun a=>q1 (St2 a0 a1 a))) a
  obtain ⟨u0,u1⟩:=a
  exact (body2_0 N (orc T (G N) live [] N 2) (orc T (G N) live [] N 1) q1 a0 a1 u0 u1).trans hc) N a)
theorem G_ok (N:Nat):GamOK Tryz.prog (G N):=gam_ok (⟨laws_markText.snd N,trivial⟩)
theorem snd (N:Nat):Sound Tryz.prog E 35 (sp N):=
 Mir.sound T_OK (G_ok N) mixed Tryz.func35 (c:=code) (by kernel_rfl) (by kernel_rfl) (sp N) (Nat.le_of_ble_eq_true (by kernel_rfl)) live [] (by
  rintro ⟨a0,a1,_⟩ r h
  exact ⟨N,2,((run N _ a0 a1).trans (congrArg (m0 N a0 a1) (funext fun a=>lp2_eq N a0 a1 a))).trans h⟩)
end laws_heldEntryS
namespace laws_heldIntS
noncomputable def code:Code:=Tryz.f36.body.getD .skip
abbrev live:Live:=[(2,[0,1,5])]
noncomputable def G (N:Nat):Ctx E:=gam []
noncomputable def loop2:Code:=codeAt code [1,0,1,0]
noncomputable def body2:Code:=codeAt loop2 [0]
noncomputable def K2 (N:Nat) (o0:Orc E R):KT E R:=kAt T (G N) live [] o0 code [1,0,1,0] (kfin T Tryz.f36 (sp N))
noncomputable def St2 (a0:List Int) (a1:Int):(Int×Int)→St E
 | (v1,v2)=>{ ρ:=[(0,.c (.at (.ro 3 (.int .i64) a0))),(1,.c (.at (.int .i64 v1))),(5,.c (.at (.int .i64 v2)))],H:=[],nx:=0,n:=21,pin:=[] }
theorem run (N:Nat) (o0:Orc E R) (a0:List Int) (a1:Int):runF T (G N) live [] Tryz.f36 code (sp N) o0 (a0,a1,())=m0 N a0 a1 (fun a=>o0 loop2 (K2 N o0) (St2 a0 a1 a)):=by kernel_rfl
theorem body2_0 (N:Nat) (o0:Orc E R) (o1:Orc E R) (q1:St E→Option R) (a0:List Int) (a1:Int) (v1:Int) (v2:Int):runA T (G N) live [] o1 body2 (St2 a0 a1 (v1,v2)) (kloop [0,1,5] q1 (K2 N o0))=step2 N a0 a1 (fun a=>q1 (St2 a0 a1 a)) (v1,v2):=by kernel_rfl
theorem lp2_eq (N:Nat) (a0:List Int) (a1:Int) (a:Int×Int):(orc T (G N) live [] N 2) loop2 (K2 N (orc T (G N) live [] N 2)) (St2 a0 a1 a)=lp2 N a0 a1 a:=
 (orc_loop (b:=body2) (live:=[0,1,5]) (by kernel_rfl)).trans (iter_eq (St2 a0 a1) _ _ (fun q1 a=>by
  have hc:=congrFun (congrFun (rfl:(step2 N a0 a1)=(step2 N a0 a1)) (fun a=>q1 (St2 a0 a1 a))) a
  obtain ⟨u0,u1⟩:=a
  exact (body2_0 N (orc T (G N) live [] N 2) (orc T (G N) live [] N 1) q1 a0 a1 u0 u1).trans hc) N a)
theorem G_ok (N:Nat):GamOK Tryz.prog (G N):=gam_ok (trivial)
theorem snd (N:Nat):Sound Tryz.prog E 36 (sp N):=
 Mir.sound T_OK (G_ok N) mixed Tryz.func36 (c:=code) (by kernel_rfl) (by kernel_rfl) (sp N) (Nat.le_of_ble_eq_true (by kernel_rfl)) live [] (by
  rintro ⟨a0,a1,_⟩ r h
  exact ⟨N,2,((run N _ a0 a1).trans (congrArg (m0 N a0 a1) (funext fun a=>lp2_eq N a0 a1 a))).trans h⟩)
end laws_heldIntS
namespace laws_heldNode
noncomputable def code:Code:=Tryz.f16.body.getD .skip
abbrev live:Live:=[]
noncomputable def G (N:Nat):Ctx E:=gam [(35,[],laws_heldEntryS.sp N),(36,[],laws_heldIntS.sp N)]
theorem run (N:Nat) (o0:Orc E R) (a0:Node) (a1:Int):runF T (G N) live [] Tryz.f16 code (sp N) o0 (a0,a1,())=m N a0 a1:=by kernel_rfl
theorem G_ok (N:Nat):GamOK Tryz.prog (G N):=gam_ok (⟨laws_heldEntryS.snd N,laws_heldIntS.snd N,trivial⟩)
theorem snd (N:Nat):Sound Tryz.prog E 16 (sp N):=
 Mir.sound T_OK (G_ok N) mixed Tryz.func16 (c:=code) (by kernel_rfl) (by kernel_rfl) (sp N) (Nat.le_of_ble_eq_true (by kernel_rfl)) live [] (by
  rintro ⟨a0,a1,_⟩ r h
  exact ⟨N,2,((run N _ a0 a1).trans rfl).trans h⟩)
end laws_heldNode
namespace laws_heldMessageS
noncomputable def code:Code:=Tryz.f17.body.getD .skip
abbrev live:Live:=[(2,[0,1,5])]
noncomputable def G (N:Nat):Ctx E:=gam [(35,[],laws_heldEntryS.sp N)]
noncomputable def loop2:Code:=codeAt code [1,0,1,0]
noncomputable def body2:Code:=codeAt loop2 [0]
noncomputable def K2 (N:Nat) (o0:Orc E R):KT E R:=kAt T (G N) live [] o0 code [1,0,1,0] (kfin T Tryz.f17 (sp N))
noncomputable def St2 (a0:List Message) (a1:Int):(Int×Int)→St E
 | (v1,v2)=>{ ρ:=[(0,.c (.at (.ro 38 (.st 38) a0))),(1,.c (.at (.int .i64 v1))),(5,.c (.at (.int .i64 v2)))],H:=[],nx:=0,n:=96,pin:=[] }
theorem run (N:Nat) (o0:Orc E R) (a0:List Message) (a1:Int):runF T (G N) live [] Tryz.f17 code (sp N) o0 (a0,a1,())=m0 N a0 a1 (fun a=>o0 loop2 (K2 N o0) (St2 a0 a1 a)):=by kernel_rfl
theorem body2_0 (N:Nat) (o0:Orc E R) (o1:Orc E R) (q1:St E→Option R) (a0:List Message) (a1:Int) (v1:Int) (v2:Int):runA T (G N) live [] o1 body2 (St2 a0 a1 (v1,v2)) (kloop [0,1,5] q1 (K2 N o0))=step2 N a0 a1 (fun a=>q1 (St2 a0 a1 a)) (v1,v2):=by kernel_rfl
theorem lp2_eq (N:Nat) (a0:List Message) (a1:Int) (a:Int×Int):(orc T (G N) live [] N 2) loop2 (K2 N (orc T (G N) live [] N 2)) (St2 a0 a1 a)=lp2 N a0 a1 a:=
 (orc_loop (b:=body2) (live:=[0,1,5]) (by kernel_rfl)).trans (iter_eq (St2 a0 a1) _ _ (fun q1 a=>by
  have hc:=congrFun (congrFun (rfl:(step2 N a0 a1)=(step2 N a0 a1)) (fun a=>q1 (St2 a0 a1 a))) a
  obtain ⟨u0,u1⟩:=a
  exact (body2_0 N (orc T (G N) live [] N 2) (orc T (G N) live [] N 1) q1 a0 a1 u0 u1).trans hc) N a)
theorem G_ok (N:Nat):GamOK Tryz.prog (G N):=gam_ok (⟨laws_heldEntryS.snd N,trivial⟩)
theorem snd (N:Nat):Sound Tryz.prog E 17 (sp N):=
 Mir.sound T_OK (G_ok N) mixed Tryz.func17 (c:=code) (by kernel_rfl) (by kernel_rfl) (sp N) (Nat.le_of_ble_eq_true (by kernel_rfl)) live [] (by
  rintro ⟨a0,a1,_⟩ r h
  exact ⟨N,2,((run N _ a0 a1).trans (congrArg (m0 N a0 a1) (funext fun a=>lp2_eq N a0 a1 a))).trans h⟩)
end laws_heldMessageS
namespace laws_FnExactNodeTake
noncomputable def code:Code:=Tryz.f3.body.getD .skip
abbrev live:Live:=[]
noncomputable def G (N:Nat):Ctx E:=gam [(4,[],laws_szNode.sp N),(5,[],laws_szMessage.sp N),(7,[],laws_toNode.sp N),(8,[],laws_toMessage.sp N),(6,[],spec_NodeTake.sp N),(9,[],impl_NodeTake.sp N),(10,[],laws_eqNode.sp N),(11,[],laws_eqMessageS.sp N),(12,[],laws_eqMessage.sp N),(13,[],laws_markNode.sp N),(14,[],laws_markMessage.sp N),(15,[],laws_markMessageS.sp N),(16,[],laws_heldNode.sp N),(17,[],laws_heldMessageS.sp N)]
theorem run (N:Nat) (o0:Orc E R) (a0:Node) (a1:Message):runF T (G N) live [] Tryz.f3 code (sp N) o0 (a0,a1,())=m N a0 a1:=by kernel_rfl
theorem G_ok (N:Nat):GamOK Tryz.prog (G N):=gam_ok (⟨laws_szNode.snd N,laws_szMessage.snd N,laws_toNode.snd N,laws_toMessage.snd N,spec_NodeTake.snd N,impl_NodeTake.snd N,laws_eqNode.snd N,laws_eqMessageS.snd N,laws_eqMessage.snd N,laws_markNode.snd N,laws_markMessage.snd N,laws_markMessageS.snd N,laws_heldNode.snd N,laws_heldMessageS.snd N,trivial⟩)
theorem snd (N:Nat):Sound Tryz.prog E 3 (sp N):=
 Mir.sound T_OK (G_ok N) mixed Tryz.func3 (c:=code) (by kernel_rfl) (by kernel_rfl) (sp N) (Nat.le_of_ble_eq_true (by kernel_rfl)) live [] (by
  rintro ⟨a0,a1,_⟩ r h
  exact ⟨N,2,((run N _ a0 a1).trans rfl).trans h⟩)
end laws_FnExactNodeTake
end Mir.Y
