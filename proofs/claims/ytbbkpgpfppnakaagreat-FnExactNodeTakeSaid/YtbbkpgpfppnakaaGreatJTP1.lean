/- The models are what the functions do. -/
import Derived.Test.YtbbkpgpfppnakaaGreatJTM3
namespace Mir.Y
set_option linter.unusedVariables false
set_option maxRecDepth 10000
open Go Go.Proofs Mir
namespace laws_szEntry
noncomputable def code:Code:=Tryz.f37.body.getD .skip
abbrev live:Live:=[]
noncomputable def G (N:Nat):Ctx E:=gam []
theorem run (N:Nat) (o0:Orc E R) (a0:Entry) (a1:Int):runF T (G N) live [] Tryz.f37 code (sp N) o0 (a0,a1,())=m N a0 a1:=by kernel_rfl
theorem G_ok (N:Nat):GamOK Tryz.prog (G N):=gam_ok (trivial)
theorem snd (N:Nat):Sound Tryz.prog E 37 (sp N):=
 Mir.sound T_OK (G_ok N) mixed Tryz.func37 (c:=code) (by kernel_rfl) (by kernel_rfl) (sp N) (Nat.le_of_ble_eq_true (by kernel_rfl)) live [] (by
  rintro ⟨a0,a1,_⟩ r h
  exact ⟨N,2,((run N _ a0 a1).trans rfl).trans h⟩)
end laws_szEntry
namespace laws_szEntryS
noncomputable def code:Code:=Tryz.f18.body.getD .skip
abbrev live:Live:=[(5,[0,1,5])]
noncomputable def G (N:Nat):Ctx E:=gam [(37,[],laws_szEntry.sp N)]
noncomputable def loop5:Code:=codeAt code [1,1,1,0,1,0]
noncomputable def body5:Code:=codeAt loop5 [0]
noncomputable def K5 (N:Nat) (o0:Orc E R):KT E R:=kAt T (G N) live [] o0 code [1,1,1,0,1,0] (kfin T Tryz.f18 (sp N))
noncomputable def St5 (a0:List Entry) (a1:Int):(Int×Int)→St E
 | (v1,v2)=>{ ρ:=[(0,.c (.at (.ro 66 (.st 66) a0))),(1,.c (.at (.int .i64 v1))),(5,.c (.at (.int .i64 v2)))],H:=[],nx:=0,n:=27,pin:=[] }
theorem run (N:Nat) (o0:Orc E R) (a0:List Entry) (a1:Int):runF T (G N) live [] Tryz.f18 code (sp N) o0 (a0,a1,())=m0 N a0 a1 (fun a=>o0 loop5 (K5 N o0) (St5 a0 a1 a)):=by kernel_rfl
theorem body5_0 (N:Nat) (o0:Orc E R) (o1:Orc E R) (q1:St E→Option R) (a0:List Entry) (a1:Int) (v1:Int) (v2:Int):runA T (G N) live [] o1 body5 (St5 a0 a1 (v1,v2)) (kloop [0,1,5] q1 (K5 N o0))=step5 N a0 a1 (fun a=>q1 (St5 a0 a1 a)) (v1,v2):=by kernel_rfl
theorem lp5_eq (N:Nat) (a0:List Entry) (a1:Int) (a:Int×Int):(orc T (G N) live [] N 2) loop5 (K5 N (orc T (G N) live [] N 2)) (St5 a0 a1 a)=lp5 N a0 a1 a:=
 (orc_loop (b:=body5) (live:=[0,1,5]) (by kernel_rfl)).trans (iter_eq (St5 a0 a1) _ _ (fun q1 a=>by
  have hc:=congrFun (congrFun (rfl:(step5 N a0 a1)=(step5 N a0 a1)) (fun a=>q1 (St5 a0 a1 a))) a
  obtain ⟨u0,u1⟩:=a
  exact (body5_0 N (orc T (G N) live [] N 2) (orc T (G N) live [] N 1) q1 a0 a1 u0 u1).trans hc) N a)
theorem G_ok (N:Nat):GamOK Tryz.prog (G N):=gam_ok (⟨laws_szEntry.snd N,trivial⟩)
theorem snd (N:Nat):Sound Tryz.prog E 18 (sp N):=
 Mir.sound T_OK (G_ok N) mixed Tryz.func18 (c:=code) (by kernel_rfl) (by kernel_rfl) (sp N) (Nat.le_of_ble_eq_true (by kernel_rfl)) live [] (by
  rintro ⟨a0,a1,_⟩ r h
  exact ⟨N,2,((run N _ a0 a1).trans (congrArg (m0 N a0 a1) (funext fun a=>lp5_eq N a0 a1 a))).trans h⟩)
end laws_szEntryS
namespace laws_szIntS
noncomputable def code:Code:=Tryz.f19.body.getD .skip
abbrev live:Live:=[]
noncomputable def G (N:Nat):Ctx E:=gam []
theorem run (N:Nat) (o0:Orc E R) (a0:List Int) (a1:Int):runF T (G N) live [] Tryz.f19 code (sp N) o0 (a0,a1,())=m N a0 a1:=by kernel_rfl
theorem G_ok (N:Nat):GamOK Tryz.prog (G N):=gam_ok (trivial)
theorem snd (N:Nat):Sound Tryz.prog E 19 (sp N):=
 Mir.sound T_OK (G_ok N) mixed Tryz.func19 (c:=code) (by kernel_rfl) (by kernel_rfl) (sp N) (Nat.le_of_ble_eq_true (by kernel_rfl)) live [] (by
  rintro ⟨a0,a1,_⟩ r h
  exact ⟨N,2,((run N _ a0 a1).trans rfl).trans h⟩)
end laws_szIntS
namespace laws_szNode
noncomputable def code:Code:=Tryz.f4.body.getD .skip
abbrev live:Live:=[]
noncomputable def G (N:Nat):Ctx E:=gam [(18,[],laws_szEntryS.sp N),(19,[],laws_szIntS.sp N)]
theorem run (N:Nat) (o0:Orc E R) (a0:Node) (a1:Int):runF T (G N) live [] Tryz.f4 code (sp N) o0 (a0,a1,())=m N a0 a1:=by kernel_rfl
theorem G_ok (N:Nat):GamOK Tryz.prog (G N):=gam_ok (⟨laws_szEntryS.snd N,laws_szIntS.snd N,trivial⟩)
theorem snd (N:Nat):Sound Tryz.prog E 4 (sp N):=
 Mir.sound T_OK (G_ok N) mixed Tryz.func4 (c:=code) (by kernel_rfl) (by kernel_rfl) (sp N) (Nat.le_of_ble_eq_true (by kernel_rfl)) live [] (by
  rintro ⟨a0,a1,_⟩ r h
  exact ⟨N,2,((run N _ a0 a1).trans rfl).trans h⟩)
end laws_szNode
namespace laws_szMessage
noncomputable def code:Code:=Tryz.f5.body.getD .skip
abbrev live:Live:=[]
noncomputable def G (N:Nat):Ctx E:=gam [(18,[],laws_szEntryS.sp N)]
theorem run (N:Nat) (o0:Orc E R) (a0:Message) (a1:Int):runF T (G N) live [] Tryz.f5 code (sp N) o0 (a0,a1,())=m N a0 a1:=by kernel_rfl
theorem G_ok (N:Nat):GamOK Tryz.prog (G N):=gam_ok (⟨laws_szEntryS.snd N,trivial⟩)
theorem snd (N:Nat):Sound Tryz.prog E 5 (sp N):=
 Mir.sound T_OK (G_ok N) mixed Tryz.func5 (c:=code) (by kernel_rfl) (by kernel_rfl) (sp N) (Nat.le_of_ble_eq_true (by kernel_rfl)) live [] (by
  rintro ⟨a0,a1,_⟩ r h
  exact ⟨N,2,((run N _ a0 a1).trans rfl).trans h⟩)
end laws_szMessage
namespace laws_toEntry
noncomputable def code:Code:=Tryz.f46.body.getD .skip
abbrev live:Live:=[]
noncomputable def G (N:Nat):Ctx E:=gam []
theorem run (N:Nat) (o0:Orc E R) (a0:Entry):runF T (G N) live [] Tryz.f46 code (sp N) o0 (a0,())=m N a0:=by kernel_rfl
theorem G_ok (N:Nat):GamOK Tryz.prog (G N):=gam_ok (trivial)
theorem snd (N:Nat):Sound Tryz.prog E 46 (sp N):=
 Mir.sound T_OK (G_ok N) mixed Tryz.func46 (c:=code) (by kernel_rfl) (by kernel_rfl) (sp N) (Nat.le_of_ble_eq_true (by kernel_rfl)) live [] (by
  rintro ⟨a0,_⟩ r h
  exact ⟨N,2,((run N _ a0).trans rfl).trans h⟩)
end laws_toEntry
namespace laws_toEntryS
noncomputable def code:Code:=Tryz.f24.body.getD .skip
abbrev live:Live:=[(3,[0,3,4])]
noncomputable def G (N:Nat):Ctx E:=gam [(46,[],laws_toEntry.sp N)]
noncomputable def loop3:Code:=codeAt code [1,1,0,1,0]
noncomputable def body3:Code:=codeAt loop3 [0]
noncomputable def K3 (N:Nat) (o0:Orc E R):KT E R:=kAt T (G N) live [] o0 code [1,1,0,1,0] (kfin T Tryz.f24 (sp N))
noncomputable def St3 (a0:List Entry):(Int×(List Entry))→St E
 | (v1,v2)=>{ ρ:=[(0,.c (.at (.ro 66 (.st 66) a0))),(3,.c (.at (.own 0))),(4,.c (.at (.int .i64 v1)))],H:=[(0,.row 72 (.st 72) v2 false)],nx:=1,n:=23,pin:=[] }
theorem run (N:Nat) (o0:Orc E R) (a0:List Entry):runF T (G N) live [] Tryz.f24 code (sp N) o0 (a0,())=m0 N a0 (fun a=>o0 loop3 (K3 N o0) (St3 a0 a)):=by kernel_rfl
theorem body3_0 (N:Nat) (o0:Orc E R) (o1:Orc E R) (q1:St E→Option R) (a0:List Entry) (v1:Int) (v2:List Entry):runA T (G N) live [] o1 body3 (St3 a0 (v1,v2)) (kloop [0,3,4] q1 (K3 N o0))=step3 N a0 (fun a=>q1 (St3 a0 a)) (v1,v2):=by kernel_rfl
theorem lp3_eq (N:Nat) (a0:List Entry) (a:Int×(List Entry)):(orc T (G N) live [] N 2) loop3 (K3 N (orc T (G N) live [] N 2)) (St3 a0 a)=lp3 N a0 a:=
 (orc_loop (b:=body3) (live:=[0,3,4]) (by kernel_rfl)).trans (iter_eq (St3 a0) _ _ (fun q1 a=>by
  have hc:=congrFun (congrFun (rfl:(step3 N a0)=(step3 N a0)) (fun a=>q1 (St3 a0 a))) a
  obtain ⟨u0,u1⟩:=a
  exact (body3_0 N (orc T (G N) live [] N 2) (orc T (G N) live [] N 1) q1 a0 u0 u1).trans hc) N a)
theorem G_ok (N:Nat):GamOK Tryz.prog (G N):=gam_ok (⟨laws_toEntry.snd N,trivial⟩)
theorem snd (N:Nat):Sound Tryz.prog E 24 (sp N):=
 Mir.sound T_OK (G_ok N) mixed Tryz.func24 (c:=code) (by kernel_rfl) (by kernel_rfl) (sp N) (Nat.le_of_ble_eq_true (by kernel_rfl)) live [] (by
  rintro ⟨a0,_⟩ r h
  exact ⟨N,2,((run N _ a0).trans (congrArg (m0 N a0) (funext fun a=>lp3_eq N a0 a))).trans h⟩)
end laws_toEntryS
namespace laws_toIntS
noncomputable def code:Code:=Tryz.f25.body.getD .skip
abbrev live:Live:=[(3,[0,3,4])]
noncomputable def G (N:Nat):Ctx E:=gam []
noncomputable def loop3:Code:=codeAt code [1,1,0,1,0]
noncomputable def body3:Code:=codeAt loop3 [0]
noncomputable def K3 (N:Nat) (o0:Orc E R):KT E R:=kAt T (G N) live [] o0 code [1,1,0,1,0] (kfin T Tryz.f25 (sp N))
noncomputable def St3 (a0:List Int):(Int×(List Int))→St E
 | (v1,v2)=>{ ρ:=[(0,.c (.at (.ro 3 (.int .i64) a0))),(3,.c (.at (.own 0))),(4,.c (.at (.int .i64 v1)))],H:=[(0,.row 3 (.int .i64) v2 false)],nx:=1,n:=22,pin:=[] }
theorem run (N:Nat) (o0:Orc E R) (a0:List Int):runF T (G N) live [] Tryz.f25 code (sp N) o0 (a0,())=m0 N a0 (fun a=>o0 loop3 (K3 N o0) (St3 a0 a)):=by kernel_rfl
theorem body3_0 (N:Nat) (o0:Orc E R) (o1:Orc E R) (q1:St E→Option R) (a0:List Int) (v1:Int) (v2:List Int):runA T (G N) live [] o1 body3 (St3 a0 (v1,v2)) (kloop [0,3,4] q1 (K3 N o0))=step3 N a0 (fun a=>q1 (St3 a0 a)) (v1,v2):=by kernel_rfl
theorem lp3_eq (N:Nat) (a0:List Int) (a:Int×(List Int)):(orc T (G N) live [] N 2) loop3 (K3 N (orc T (G N) live [] N 2)) (St3 a0 a)=lp3 N a0 a:=
 (orc_loop (b:=body3) (live:=[0,3,4]) (by kernel_rfl)).trans (iter_eq (St3 a0) _ _ (fun q1 a=>by
  have hc:=congrFun (congrFun (rfl:(step3 N a0)=(step3 N a0)) (fun a=>q1 (St3 a0 a))) a
  obtain ⟨u0,u1⟩:=a
  exact (body3_0 N (orc T (G N) live [] N 2) (orc T (G N) live [] N 1) q1 a0 u0 u1).trans hc) N a)
theorem G_ok (N:Nat):GamOK Tryz.prog (G N):=gam_ok (trivial)
theorem snd (N:Nat):Sound Tryz.prog E 25 (sp N):=
 Mir.sound T_OK (G_ok N) mixed Tryz.func25 (c:=code) (by kernel_rfl) (by kernel_rfl) (sp N) (Nat.le_of_ble_eq_true (by kernel_rfl)) live [] (by
  rintro ⟨a0,_⟩ r h
  exact ⟨N,2,((run N _ a0).trans (congrArg (m0 N a0) (funext fun a=>lp3_eq N a0 a))).trans h⟩)
end laws_toIntS
namespace laws_toNode
noncomputable def code:Code:=Tryz.f7.body.getD .skip
abbrev live:Live:=[]
noncomputable def G (N:Nat):Ctx E:=gam [(24,[],laws_toEntryS.sp N),(25,[],laws_toIntS.sp N)]
theorem run (N:Nat) (o0:Orc E R) (a0:Node):runF T (G N) live [] Tryz.f7 code (sp N) o0 (a0,())=m N a0:=by kernel_rfl
theorem G_ok (N:Nat):GamOK Tryz.prog (G N):=gam_ok (⟨laws_toEntryS.snd N,laws_toIntS.snd N,trivial⟩)
theorem snd (N:Nat):Sound Tryz.prog E 7 (sp N):=
 Mir.sound T_OK (G_ok N) mixed Tryz.func7 (c:=code) (by kernel_rfl) (by kernel_rfl) (sp N) (Nat.le_of_ble_eq_true (by kernel_rfl)) live [] (by
  rintro ⟨a0,_⟩ r h
  exact ⟨N,2,((run N _ a0).trans rfl).trans h⟩)
end laws_toNode
namespace laws_toMessage
noncomputable def code:Code:=Tryz.f8.body.getD .skip
abbrev live:Live:=[]
noncomputable def G (N:Nat):Ctx E:=gam [(24,[],laws_toEntryS.sp N)]
theorem run (N:Nat) (o0:Orc E R) (a0:Message):runF T (G N) live [] Tryz.f8 code (sp N) o0 (a0,())=m N a0:=by kernel_rfl
theorem G_ok (N:Nat):GamOK Tryz.prog (G N):=gam_ok (⟨laws_toEntryS.snd N,trivial⟩)
theorem snd (N:Nat):Sound Tryz.prog E 8 (sp N):=
 Mir.sound T_OK (G_ok N) mixed Tryz.func8 (c:=code) (by kernel_rfl) (by kernel_rfl) (sp N) (Nat.le_of_ble_eq_true (by kernel_rfl)) live [] (by
  rintro ⟨a0,_⟩ r h
  exact ⟨N,2,((run N _ a0).trans rfl).trans h⟩)
end laws_toMessage
namespace spec_l01In
noncomputable def code:Code:=Tryz.f38.body.getD .skip
abbrev live:Live:=[]
noncomputable def G (N:Nat):Ctx E:=gam []
theorem run (N:Nat) (o0:Orc E R) (a0:Int) (a1:Int) (a2:Int):runF T (G N) live [] Tryz.f38 code (sp N) o0 (a0,a1,a2,())=m N a0 a1 a2:=by kernel_rfl
theorem G_ok (N:Nat):GamOK Tryz.prog (G N):=gam_ok (trivial)
theorem snd (N:Nat):Sound Tryz.prog E 38 (sp N):=
 Mir.sound T_OK (G_ok N) mixed Tryz.func38 (c:=code) (by kernel_rfl) (by kernel_rfl) (sp N) (Nat.le_of_ble_eq_true (by kernel_rfl)) live [] (by
  rintro ⟨a0,a1,a2,_⟩ r h
  exact ⟨N,2,((run N _ a0 a1 a2).trans rfl).trans h⟩)
end spec_l01In
namespace spec_l02Members
noncomputable def code:Code:=Tryz.f87.body.getD .skip
abbrev live:Live:=[(3,[0,4,5])]
noncomputable def G (N:Nat):Ctx E:=gam [(38,[],spec_l01In.sp N)]
noncomputable def loop3:Code:=codeAt code [1,1,0,1,0]
noncomputable def body3:Code:=codeAt loop3 [0]
noncomputable def K3 (N:Nat) (o0:Orc E R):KT E R:=kAt T (G N) live [] o0 code [1,1,0,1,0] (kfin T Tryz.f87 (sp N))
noncomputable def St3 (a0:ByteArray):(Int×(List Int))→St E
 | (v1,v2)=>{ ρ:=[(0,.c (.at (.str a0))),(4,.c (.at (.own 0))),(5,.c (.at (.int .i64 v1)))],H:=[(0,.row 3 (.int .i64) v2 false)],nx:=1,n:=45,pin:=[] }
theorem run (N:Nat) (o0:Orc E R) (a0:ByteArray):runF T (G N) live [] Tryz.f87 code (sp N) o0 (a0,())=m0 N a0 (fun a=>o0 loop3 (K3 N o0) (St3 a0 a)):=by kernel_rfl
theorem body3_0 (N:Nat) (o0:Orc E R) (o1:Orc E R) (q1:St E→Option R) (a0:ByteArray) (v1:Int) (v2:List Int):runA T (G N) live [] o1 body3 (St3 a0 (v1,v2)) (kloop [0,4,5] q1 (K3 N o0))=step3 N a0 (fun a=>q1 (St3 a0 a)) (v1,v2):=by kernel_rfl
theorem lp3_eq (N:Nat) (a0:ByteArray) (a:Int×(List Int)):(orc T (G N) live [] N 2) loop3 (K3 N (orc T (G N) live [] N 2)) (St3 a0 a)=lp3 N a0 a:=
 (orc_loop (b:=body3) (live:=[0,4,5]) (by kernel_rfl)).trans (iter_eq (St3 a0) _ _ (fun q1 a=>by
  have hc:=congrFun (congrFun (rfl:(step3 N a0)=(step3 N a0)) (fun a=>q1 (St3 a0 a))) a
  obtain ⟨u0,u1⟩:=a
  exact (body3_0 N (orc T (G N) live [] N 2) (orc T (G N) live [] N 1) q1 a0 u0 u1).trans hc) N a)
theorem G_ok (N:Nat):GamOK Tryz.prog (G N):=gam_ok (⟨spec_l01In.snd N,trivial⟩)
theorem snd (N:Nat):Sound Tryz.prog E 87 (sp N):=
 Mir.sound T_OK (G_ok N) mixed Tryz.func87 (c:=code) (by kernel_rfl) (by kernel_rfl) (sp N) (Nat.le_of_ble_eq_true (by kernel_rfl)) live [] (by
  rintro ⟨a0,_⟩ r h
  exact ⟨N,2,((run N _ a0).trans (congrArg (m0 N a0) (funext fun a=>lp3_eq N a0 a))).trans h⟩)
end spec_l02Members
namespace spec_l02Entry
noncomputable def code:Code:=Tryz.f64.body.getD .skip
abbrev live:Live:=[]
noncomputable def G (N:Nat):Ctx E:=gam [(38,[],spec_l01In.sp N),(87,[],spec_l02Members.sp N)]
theorem run (N:Nat) (o0:Orc E R) (a0:Entry):runF T (G N) live [] Tryz.f64 code (sp N) o0 (a0,())=m N a0:=by kernel_rfl
theorem G_ok (N:Nat):GamOK Tryz.prog (G N):=gam_ok (⟨spec_l01In.snd N,spec_l02Members.snd N,trivial⟩)
theorem snd (N:Nat):Sound Tryz.prog E 64 (sp N):=
 Mir.sound T_OK (G_ok N) mixed Tryz.func64 (c:=code) (by kernel_rfl) (by kernel_rfl) (sp N) (Nat.le_of_ble_eq_true (by kernel_rfl)) live [] (by
  rintro ⟨a0,_⟩ r h
  exact ⟨N,2,((run N _ a0).trans rfl).trans h⟩)
end spec_l02Entry
namespace spec_StateOK
noncomputable def code:Code:=Tryz.f39.body.getD .skip
abbrev live:Live:=[(4,[1,3])]
noncomputable def G (N:Nat):Ctx E:=gam [(38,[],spec_l01In.sp N),(64,[],spec_l02Entry.sp N)]
noncomputable def loop4:Code:=codeAt code [1,1,0,1,0]
noncomputable def body4:Code:=codeAt loop4 [0]
noncomputable def K4 (N:Nat) (o0:Orc E R):KT E R:=kAt T (G N) live [] o0 code [1,1,0,1,0] (kfin T Tryz.f39 (sp N))
noncomputable def St4 (a0:State):Int→St E
 | v0=>{ ρ:=[(1,.c (.at (.ptr 0 0))),(3,.c (.at (.int .i64 v0)))],H:=[(0,.box 70 [.int .i64 a0.Term,.int .i64 a0.Vote,.ro 72 (.st 72) a0.Log])],nx:=1,n:=65,pin:=[] }
theorem run (N:Nat) (o0:Orc E R) (a0:State):runF T (G N) live [] Tryz.f39 code (sp N) o0 (a0,())=m0 N a0 (fun a=>o0 loop4 (K4 N o0) (St4 a0 a)):=by kernel_rfl
theorem body4_0 (N:Nat) (o0:Orc E R) (o1:Orc E R) (q1:St E→Option R) (a0:State) (v0:Int):runA T (G N) live [] o1 body4 (St4 a0 v0) (kloop [1,3] q1 (K4 N o0))=step4 N a0 (fun a=>q1 (St4 a0 a)) v0:=by kernel_rfl
theorem lp4_eq (N:Nat) (a0:State) (a:Int):(orc T (G N) live [] N 2) loop4 (K4 N (orc T (G N) live [] N 2)) (St4 a0 a)=lp4 N a0 a:=
 (orc_loop (b:=body4) (live:=[1,3]) (by kernel_rfl)).trans (iter_eq (St4 a0) _ _ (fun q1 a=>by
  have hc:=congrFun (congrFun (rfl:(step4 N a0)=(step4 N a0)) (fun a=>q1 (St4 a0 a))) a
  exact (body4_0 N (orc T (G N) live [] N 2) (orc T (G N) live [] N 1) q1 a0 a).trans hc) N a)
theorem G_ok (N:Nat):GamOK Tryz.prog (G N):=gam_ok (⟨spec_l01In.snd N,spec_l02Entry.snd N,trivial⟩)
theorem snd (N:Nat):Sound Tryz.prog E 39 (sp N):=
 Mir.sound T_OK (G_ok N) mixed Tryz.func39 (c:=code) (by kernel_rfl) (by kernel_rfl) (sp N) (Nat.le_of_ble_eq_true (by kernel_rfl)) live [] (by
  rintro ⟨a0,_⟩ r h
  exact ⟨N,2,((run N _ a0).trans (congrArg (m0 N a0) (funext fun a=>lp4_eq N a0 a))).trans h⟩)
end spec_StateOK
namespace spec_l10Ids
noncomputable def code:Code:=Tryz.f40.body.getD .skip
abbrev live:Live:=[(2,[0,3])]
noncomputable def G (N:Nat):Ctx E:=gam [(38,[],spec_l01In.sp N)]
noncomputable def loop2:Code:=codeAt code [1,0,1,0]
noncomputable def body2:Code:=codeAt loop2 [0]
noncomputable def K2 (N:Nat) (o0:Orc E R):KT E R:=kAt T (G N) live [] o0 code [1,0,1,0] (kfin T Tryz.f40 (sp N))
noncomputable def St2 (a0:List Int):Int→St E
 | v1=>{ ρ:=[(0,.c (.at (.ro 3 (.int .i64) a0))),(3,.c (.at (.int .i64 v1)))],H:=[],nx:=0,n:=32,pin:=[] }
theorem run (N:Nat) (o0:Orc E R) (a0:List Int):runF T (G N) live [] Tryz.f40 code (sp N) o0 (a0,())=m0 N a0 (fun a=>o0 loop2 (K2 N o0) (St2 a0 a)):=by kernel_rfl
theorem body2_0 (N:Nat) (o0:Orc E R) (o1:Orc E R) (q1:St E→Option R) (a0:List Int) (v1:Int):runA T (G N) live [] o1 body2 (St2 a0 v1) (kloop [0,3] q1 (K2 N o0))=step2 N a0 (fun a=>q1 (St2 a0 a)) v1:=by kernel_rfl
theorem lp2_eq (N:Nat) (a0:List Int) (a:Int):(orc T (G N) live [] N 2) loop2 (K2 N (orc T (G N) live [] N 2)) (St2 a0 a)=lp2 N a0 a:=
 (orc_loop (b:=body2) (live:=[0,3]) (by kernel_rfl)).trans (iter_eq (St2 a0) _ _ (fun q1 a=>by
  have hc:=congrFun (congrFun (rfl:(step2 N a0)=(step2 N a0)) (fun a=>q1 (St2 a0 a))) a
  exact (body2_0 N (orc T (G N) live [] N 2) (orc T (G N) live [] N 1) q1 a0 a).trans hc) N a)
theorem G_ok (N:Nat):GamOK Tryz.prog (G N):=gam_ok (⟨spec_l01In.snd N,trivial⟩)
theorem snd (N:Nat):Sound Tryz.prog E 40 (sp N):=
 Mir.sound T_OK (G_ok N) mixed Tryz.func40 (c:=code) (by kernel_rfl) (by kernel_rfl) (sp N) (Nat.le_of_ble_eq_true (by kernel_rfl)) live [] (by
  rintro ⟨a0,_⟩ r h
  exact ⟨N,2,((run N _ a0).trans (congrArg (m0 N a0) (funext fun a=>lp2_eq N a0 a))).trans h⟩)
end spec_l10Ids
namespace spec_NodeOK
noncomputable def code:Code:=Tryz.f20.body.getD .skip
abbrev live:Live:=[(6,[1,3])]
noncomputable def G (N:Nat):Ctx E:=gam [(38,[],spec_l01In.sp N),(39,[],spec_StateOK.sp N),(40,[],spec_l10Ids.sp N)]
noncomputable def loop6:Code:=codeAt code [1,1,1,0,1,0]
noncomputable def body6:Code:=codeAt loop6 [0]
noncomputable def K6 (N:Nat) (o0:Orc E R):KT E R:=kAt T (G N) live [] o0 code [1,1,1,0,1,0] (kfin T Tryz.f20 (sp N))
noncomputable def St6 (a0:Node):Int→St E
 | v0=>{ ρ:=[(1,.c (.at (.ptr 0 0))),(3,.c (.at (.int .i64 v0)))],H:=[(0,.box 32 [.int .i64 a0.Id,.int .i64 a0.Term,.int .i64 a0.Vote,.ro 72 (.st 72) a0.Log,.ro 3 (.int .i64) a0.Start,.int .i64 a0.Role,.ro 3 (.int .i64) a0.Votes,.ro 3 (.int .i64) a0.Next,.ro 3 (.int .i64) a0.Match,.int .i64 a0.Commit,.int .i64 a0.Elapsed,.int .i64 a0.Wait,.bool a0.Up])],nx:=1,n:=111,pin:=[] }
theorem run (N:Nat) (o0:Orc E R) (a0:Node):runF T (G N) live [] Tryz.f20 code (sp N) o0 (a0,())=m0 N a0 (fun a=>o0 loop6 (K6 N o0) (St6 a0 a)):=by kernel_rfl
theorem body6_0 (N:Nat) (o0:Orc E R) (o1:Orc E R) (q1:St E→Option R) (a0:Node) (v0:Int):runA T (G N) live [] o1 body6 (St6 a0 v0) (kloop [1,3] q1 (K6 N o0))=step6 N a0 (fun a=>q1 (St6 a0 a)) v0:=by kernel_rfl
theorem lp6_eq (N:Nat) (a0:Node) (a:Int):(orc T (G N) live [] N 2) loop6 (K6 N (orc T (G N) live [] N 2)) (St6 a0 a)=lp6 N a0 a:=
 (orc_loop (b:=body6) (live:=[1,3]) (by kernel_rfl)).trans (iter_eq (St6 a0) _ _ (fun q1 a=>by
  have hc:=congrFun (congrFun (rfl:(step6 N a0)=(step6 N a0)) (fun a=>q1 (St6 a0 a))) a
  exact (body6_0 N (orc T (G N) live [] N 2) (orc T (G N) live [] N 1) q1 a0 a).trans hc) N a)
theorem G_ok (N:Nat):GamOK Tryz.prog (G N):=gam_ok (⟨spec_l01In.snd N,spec_StateOK.snd N,spec_l10Ids.snd N,trivial⟩)
theorem snd (N:Nat):Sound Tryz.prog E 20 (sp N):=
 Mir.sound T_OK (G_ok N) mixed Tryz.func20 (c:=code) (by kernel_rfl) (by kernel_rfl) (sp N) (Nat.le_of_ble_eq_true (by kernel_rfl)) live [] (by
  rintro ⟨a0,_⟩ r h
  exact ⟨N,2,((run N _ a0).trans (congrArg (m0 N a0) (funext fun a=>lp6_eq N a0 a))).trans h⟩)
end spec_NodeOK
namespace spec_l10MessageOK
noncomputable def code:Code:=Tryz.f21.body.getD .skip
abbrev live:Live:=[]
noncomputable def G (N:Nat):Ctx E:=gam [(38,[],spec_l01In.sp N),(39,[],spec_StateOK.sp N)]
theorem run (N:Nat) (o0:Orc E R) (a0:Message):runF T (G N) live [] Tryz.f21 code (sp N) o0 (a0,())=m N a0:=by kernel_rfl
theorem G_ok (N:Nat):GamOK Tryz.prog (G N):=gam_ok (⟨spec_l01In.snd N,spec_StateOK.snd N,trivial⟩)
theorem snd (N:Nat):Sound Tryz.prog E 21 (sp N):=
 Mir.sound T_OK (G_ok N) mixed Tryz.func21 (c:=code) (by kernel_rfl) (by kernel_rfl) (sp N) (Nat.le_of_ble_eq_true (by kernel_rfl)) live [] (by
  rintro ⟨a0,_⟩ r h
  exact ⟨N,2,((run N _ a0).trans rfl).trans h⟩)
end spec_l10MessageOK
namespace spec_l10Own
noncomputable def code:Code:=Tryz.f22.body.getD .skip
abbrev live:Live:=[]
noncomputable def G (N:Nat):Ctx E:=gam []
theorem run (N:Nat) (o0:Orc E R) (a0:Node):runF T (G N) live [] Tryz.f22 code (sp N) o0 (a0,())=m N a0:=by kernel_rfl
theorem G_ok (N:Nat):GamOK Tryz.prog (G N):=gam_ok (trivial)
theorem snd (N:Nat):Sound Tryz.prog E 22 (sp N):=
 Mir.sound T_OK (G_ok N) mixed Tryz.func22 (c:=code) (by kernel_rfl) (by kernel_rfl) (sp N) (Nat.le_of_ble_eq_true (by kernel_rfl)) live [] (by
  rintro ⟨a0,_⟩ r h
  exact ⟨N,2,((run N _ a0).trans rfl).trans h⟩)
end spec_l10Own
namespace spec_l10Down
noncomputable def code:Code:=Tryz.f41.body.getD .skip
abbrev live:Live:=[(4,[1,2,3])]
noncomputable def G (N:Nat):Ctx E:=gam []
noncomputable def loop4:Code:=codeAt code [1,1,1,0,1,0]
noncomputable def body4:Code:=codeAt loop4 [0]
noncomputable def K4 (N:Nat) (o0:Orc E R):KT E R:=kAt T (G N) live [] o0 code [1,1,1,0,1,0] (kfin T Tryz.f41 (sp N))
noncomputable def St4 (a0:Node):(Int×Int×(List Int)×(List Int)×(List Int)×Int×Int×Int×Int×Int×Int×Int)→St E
 | (v0,v4,v11,v12,v13,v14,v15,v16,v17,v18,v19,v20)=>{ ρ:=[(1,.c (.at (.ptr 0 0))),(2,.c (.at (.ptr 6 0))),(3,.c (.at (.int .i64 v0)))],H:=[(0,.box 32 [.int .i64 a0.Id,.int .i64 a0.Term,.int .i64 a0.Vote,.own 1,.own 2,.int .i64 v4,.own 3,.own 4,.own 5,.int .i64 a0.Commit,.int .i64 a0.Elapsed,.int .i64 a0.Wait,.bool a0.Up]),(1,.row 72 (.st 72) a0.Log false),(2,.row 3 (.int .i64) a0.Start false),(3,.row 3 (.int .i64) v11 false),(4,.row 3 (.int .i64) v12 false),(5,.row 3 (.int .i64) v13 false),(6,.box 32 [.int .i64 v14,.int .i64 v15,.int .i64 v16,.nils,.nils,.int .i64 v17,.nils,.nils,.nils,.int .i64 v18,.int .i64 v19,.int .i64 v20,.bool false])],nx:=7,n:=20,pin:=[] }
theorem run (N:Nat) (o0:Orc E R) (a0:Node):runF T (G N) live [] Tryz.f41 code (sp N) o0 (a0,())=m0 N a0 (fun a=>o0 loop4 (K4 N o0) (St4 a0 a)):=by kernel_rfl
theorem body4_0 (N:Nat) (o0:Orc E R) (o1:Orc E R) (q1:St E→Option R) (a0:Node) (v0:Int) (v4:Int) (v11:List Int) (v12:List Int) (v13:List Int) (v14:Int) (v15:Int) (v16:Int) (v17:Int) (v18:Int) (v19:Int) (v20:Int):runA T (G N) live [] o1 body4 (St4 a0 (v0,v4,v11,v12,v13,v14,v15,v16,v17,v18,v19,v20)) (kloop [1,2,3] q1 (K4 N o0))=step4 N a0 (fun a=>q1 (St4 a0 a)) (v0,v4,v11,v12,v13,v14,v15,v16,v17,v18,v19,v20):=by kernel_rfl
theorem lp4_eq (N:Nat) (a0:Node) (a:Int×Int×(List Int)×(List Int)×(List Int)×Int×Int×Int×Int×Int×Int×Int):(orc T (G N) live [] N 2) loop4 (K4 N (orc T (G N) live [] N 2)) (St4 a0 a)=lp4 N a0 a:=
 (orc_loop (b:=body4) (live:=[1,2,3]) (by kernel_rfl)).trans (iter_eq (St4 a0) _ _ (fun q1 a=>by
  have hc:=congrFun (congrFun (rfl:(step4 N a0)=(step4 N a0)) (fun a=>q1 (St4 a0 a))) a
  obtain ⟨u0,u1,u2,u3,u4,u5,u6,u7,u8,u9,u10,u11⟩:=a
  exact (body4_0 N (orc T (G N) live [] N 2) (orc T (G N) live [] N 1) q1 a0 u0 u1 u2 u3 u4 u5 u6 u7 u8 u9 u10 u11).trans hc) N a)
theorem G_ok (N:Nat):GamOK Tryz.prog (G N):=gam_ok (trivial)
theorem snd (N:Nat):Sound Tryz.prog E 41 (sp N):=
 Mir.sound T_OK (G_ok N) mixed Tryz.func41 (c:=code) (by kernel_rfl) (by kernel_rfl) (sp N) (Nat.le_of_ble_eq_true (by kernel_rfl)) live [] (by
  rintro ⟨a0,_⟩ r h
  exact ⟨N,2,((run N _ a0).trans (congrArg (m0 N a0) (funext fun a=>lp4_eq N a0 a))).trans h⟩)
end spec_l10Down
namespace spec_l10Term
noncomputable def code:Code:=Tryz.f70.body.getD .skip
abbrev live:Live:=[]
noncomputable def G (N:Nat):Ctx E:=gam []
theorem run (N:Nat) (o0:Orc E R) (a0:Node) (a1:Int):runF T (G N) live [] Tryz.f70 code (sp N) o0 (a0,a1,())=m N a0 a1:=by kernel_rfl
theorem G_ok (N:Nat):GamOK Tryz.prog (G N):=gam_ok (trivial)
theorem snd (N:Nat):Sound Tryz.prog E 70 (sp N):=
 Mir.sound T_OK (G_ok N) mixed Tryz.func70 (c:=code) (by kernel_rfl) (by kernel_rfl) (sp N) (Nat.le_of_ble_eq_true (by kernel_rfl)) live [] (by
  rintro ⟨a0,a1,_⟩ r h
  exact ⟨N,2,((run N _ a0 a1).trans rfl).trans h⟩)
end spec_l10Term
namespace spec_l10UpToDate
noncomputable def code:Code:=Tryz.f65.body.getD .skip
abbrev live:Live:=[]
noncomputable def G (N:Nat):Ctx E:=gam [(70,[],spec_l10Term.sp N)]
theorem run (N:Nat) (o0:Orc E R) (a0:Node) (a1:Int) (a2:Int):runF T (G N) live [] Tryz.f65 code (sp N) o0 (a0,a1,a2,())=m N a0 a1 a2:=by kernel_rfl
theorem G_ok (N:Nat):GamOK Tryz.prog (G N):=gam_ok (⟨spec_l10Term.snd N,trivial⟩)
theorem snd (N:Nat):Sound Tryz.prog E 65 (sp N):=
 Mir.sound T_OK (G_ok N) mixed Tryz.func65 (c:=code) (by kernel_rfl) (by kernel_rfl) (sp N) (Nat.le_of_ble_eq_true (by kernel_rfl)) live [] (by
  rintro ⟨a0,a1,a2,_⟩ r h
  exact ⟨N,2,((run N _ a0 a1 a2).trans rfl).trans h⟩)
end spec_l10UpToDate
namespace spec_l10Vote
noncomputable def code:Code:=Tryz.f42.body.getD .skip
abbrev live:Live:=[]
noncomputable def G (N:Nat):Ctx E:=gam [(65,[],spec_l10UpToDate.sp N)]
theorem run (N:Nat) (o0:Orc E R) (a0:Node) (a1:Message):runF T (G N) live [] Tryz.f42 code (sp N) o0 (a0,a1,())=m N a0 a1:=by kernel_rfl
theorem G_ok (N:Nat):GamOK Tryz.prog (G N):=gam_ok (⟨spec_l10UpToDate.snd N,trivial⟩)
theorem snd (N:Nat):Sound Tryz.prog E 42 (sp N):=
 Mir.sound T_OK (G_ok N) mixed Tryz.func42 (c:=code) (by kernel_rfl) (by kernel_rfl) (sp N) (Nat.le_of_ble_eq_true (by kernel_rfl)) live [] (by
  rintro ⟨a0,a1,_⟩ r h
  exact ⟨N,2,((run N _ a0 a1).trans rfl).trans h⟩)
end spec_l10Vote
namespace spec_l10Has
noncomputable def code:Code:=Tryz.f66.body.getD .skip
abbrev live:Live:=[(2,[0,1,5])]
noncomputable def G (N:Nat):Ctx E:=gam []
noncomputable def loop2:Code:=codeAt code [1,0,1,0]
noncomputable def body2:Code:=codeAt loop2 [0]
noncomputable def K2 (N:Nat) (o0:Orc E R):KT E R:=kAt T (G N) live [] o0 code [1,0,1,0] (kfin T Tryz.f66 (sp N))
noncomputable def St2 (a0:List Int) (a1:Int):Int→St E
 | v2=>{ ρ:=[(0,.c (.at (.ro 3 (.int .i64) a0))),(1,.c (.at (.int .i64 a1))),(5,.c (.at (.int .i64 v2)))],H:=[],nx:=0,n:=18,pin:=[] }
theorem run (N:Nat) (o0:Orc E R) (a0:List Int) (a1:Int):runF T (G N) live [] Tryz.f66 code (sp N) o0 (a0,a1,())=m0 N a0 a1 (fun a=>o0 loop2 (K2 N o0) (St2 a0 a1 a)):=by kernel_rfl
theorem body2_0 (N:Nat) (o0:Orc E R) (o1:Orc E R) (q1:St E→Option R) (a0:List Int) (a1:Int) (v2:Int):runA T (G N) live [] o1 body2 (St2 a0 a1 v2) (kloop [0,1,5] q1 (K2 N o0))=step2 N a0 a1 (fun a=>q1 (St2 a0 a1 a)) v2:=by kernel_rfl
theorem lp2_eq (N:Nat) (a0:List Int) (a1:Int) (a:Int):(orc T (G N) live [] N 2) loop2 (K2 N (orc T (G N) live [] N 2)) (St2 a0 a1 a)=lp2 N a0 a1 a:=
 (orc_loop (b:=body2) (live:=[0,1,5]) (by kernel_rfl)).trans (iter_eq (St2 a0 a1) _ _ (fun q1 a=>by
  have hc:=congrFun (congrFun (rfl:(step2 N a0 a1)=(step2 N a0 a1)) (fun a=>q1 (St2 a0 a1 a))) a
  exact (body2_0 N (orc T (G N) live [] N 2) (orc T (G N) live [] N 1) q1 a0 a1 a).trans hc) N a)
theorem G_ok (N:Nat):GamOK Tryz.prog (G N):=gam_ok (trivial)
theorem snd (N:Nat):Sound Tryz.prog E 66 (sp N):=
 Mir.sound T_OK (G_ok N) mixed Tryz.func66 (c:=code) (by kernel_rfl) (by kernel_rfl) (sp N) (Nat.le_of_ble_eq_true (by kernel_rfl)) live [] (by
  rintro ⟨a0,a1,_⟩ r h
  exact ⟨N,2,((run N _ a0 a1).trans (congrArg (m0 N a0 a1) (funext fun a=>lp2_eq N a0 a1 a))).trans h⟩)
end spec_l10Has
namespace spec_l10Members
noncomputable def code:Code:=Tryz.f68.body.getD .skip
abbrev live:Live:=[(2,[0,1,3])]
noncomputable def G (N:Nat):Ctx E:=gam [(87,[],spec_l02Members.sp N)]
noncomputable def loop2:Code:=codeAt code [1,0,1,0]
noncomputable def body2:Code:=codeAt loop2 [0]
noncomputable def K2 (N:Nat) (o0:Orc E R):KT E R:=kAt T (G N) live [] o0 code [1,0,1,0] (kfin T Tryz.f68 (sp N))
noncomputable def St2 (a0:Node):Int→St E
 | v9=>{ ρ:=[(0,.c (.agg [.int .i64 a0.Id,.int .i64 a0.Term,.int .i64 a0.Vote,.own 0,.ro 3 (.int .i64) a0.Start,.int .i64 a0.Role,.own 1,.own 2,.own 3,.int .i64 a0.Commit,.int .i64 a0.Elapsed,.int .i64 a0.Wait,.bool a0.Up])),(1,.c (.at (.ptr 4 0))),(3,.c (.at (.int .i64 v9)))],H:=[(0,.row 72 (.st 72) a0.Log false),(1,.row 3 (.int .i64) a0.Votes false),(2,.row 3 (.int .i64) a0.Next false),(3,.row 3 (.int .i64) a0.Match false),(4,.box 32 [.int .i64 a0.Id,.int .i64 a0.Term,.int .i64 a0.Vote,.own 0,.ro 3 (.int .i64) a0.Start,.int .i64 a0.Role,.own 1,.own 2,.own 3,.int .i64 a0.Commit,.int .i64 a0.Elapsed,.int .i64 a0.Wait,.bool a0.Up])],nx:=5,n:=34,pin:=[0] }
theorem run (N:Nat) (o0:Orc E R) (a0:Node):runF T (G N) live [] Tryz.f68 code (sp N) o0 (a0,())=m0 N a0 (fun a=>o0 loop2 (K2 N o0) (St2 a0 a)):=by kernel_rfl
theorem body2_0 (N:Nat) (o0:Orc E R) (o1:Orc E R) (q1:St E→Option R) (a0:Node) (v9:Int):runA T (G N) live [] o1 body2 (St2 a0 v9) (kloop [0,1,3] q1 (K2 N o0))=step2 N a0 (fun a=>q1 (St2 a0 a)) v9:=by kernel_rfl
theorem lp2_eq (N:Nat) (a0:Node) (a:Int):(orc T (G N) live [] N 2) loop2 (K2 N (orc T (G N) live [] N 2)) (St2 a0 a)=lp2 N a0 a:=
 (orc_loop (b:=body2) (live:=[0,1,3]) (by kernel_rfl)).trans (iter_eq (St2 a0) _ _ (fun q1 a=>by
  have hc:=congrFun (congrFun (rfl:(step2 N a0)=(step2 N a0)) (fun a=>q1 (St2 a0 a))) a
  exact (body2_0 N (orc T (G N) live [] N 2) (orc T (G N) live [] N 1) q1 a0 a).trans hc) N a)
theorem G_ok (N:Nat):GamOK Tryz.prog (G N):=gam_ok (⟨spec_l02Members.snd N,trivial⟩)
theorem snd (N:Nat):Sound Tryz.prog E 68 (sp N):=
 Mir.sound T_OK (G_ok N) mixed Tryz.func68 (c:=code) (by kernel_rfl) (by kernel_rfl) (sp N) (Nat.le_of_ble_eq_true (by kernel_rfl)) live [] (by
  rintro ⟨a0,_⟩ r h
  exact ⟨N,2,((run N _ a0).trans (congrArg (m0 N a0) (funext fun a=>lp2_eq N a0 a))).trans h⟩)
end spec_l10Members
namespace spec_l01Bit
noncomputable def code:Code:=Tryz.f88.body.getD .skip
abbrev live:Live:=[]
noncomputable def G (N:Nat):Ctx E:=gam []
theorem run (N:Nat) (o0:Orc E R) (a0:Bool):runF T (G N) live [] Tryz.f88 code (sp N) o0 (a0,())=m N a0:=by kernel_rfl
theorem G_ok (N:Nat):GamOK Tryz.prog (G N):=gam_ok (trivial)
theorem snd (N:Nat):Sound Tryz.prog E 88 (sp N):=
 Mir.sound T_OK (G_ok N) mixed Tryz.func88 (c:=code) (by kernel_rfl) (by kernel_rfl) (sp N) (Nat.le_of_ble_eq_true (by kernel_rfl)) live [] (by
  rintro ⟨a0,_⟩ r h
  exact ⟨N,2,((run N _ a0).trans rfl).trans h⟩)
end spec_l01Bit
namespace spec_l10Most
noncomputable def code:Code:=Tryz.f67.body.getD .skip
abbrev live:Live:=[(3,[0,1,5,6])]
noncomputable def G (N:Nat):Ctx E:=gam [(66,[],spec_l10Has.sp N),(88,[],spec_l01Bit.sp N)]
noncomputable def loop3:Code:=codeAt code [1,1,0,1,0]
noncomputable def body3:Code:=codeAt loop3 [0]
noncomputable def K3 (N:Nat) (o0:Orc E R):KT E R:=kAt T (G N) live [] o0 code [1,1,0,1,0] (kfin T Tryz.f67 (sp N))
noncomputable def St3 (a0:List Int) (a1:List Int):(Int×Int)→St E
 | (v2,v3)=>{ ρ:=[(0,.c (.at (.ro 3 (.int .i64) a0))),(1,.c (.at (.ro 3 (.int .i64) a1))),(5,.c (.at (.int .i64 v2))),(6,.c (.at (.int .i64 v3)))],H:=[],nx:=0,n:=27,pin:=[] }
theorem run (N:Nat) (o0:Orc E R) (a0:List Int) (a1:List Int):runF T (G N) live [] Tryz.f67 code (sp N) o0 (a0,a1,())=m0 N a0 a1 (fun a=>o0 loop3 (K3 N o0) (St3 a0 a1 a)):=by kernel_rfl
theorem body3_0 (N:Nat) (o0:Orc E R) (o1:Orc E R) (q1:St E→Option R) (a0:List Int) (a1:List Int) (v2:Int) (v3:Int):runA T (G N) live [] o1 body3 (St3 a0 a1 (v2,v3)) (kloop [0,1,5,6] q1 (K3 N o0))=step3 N a0 a1 (fun a=>q1 (St3 a0 a1 a)) (v2,v3):=by kernel_rfl
theorem lp3_eq (N:Nat) (a0:List Int) (a1:List Int) (a:Int×Int):(orc T (G N) live [] N 2) loop3 (K3 N (orc T (G N) live [] N 2)) (St3 a0 a1 a)=lp3 N a0 a1 a:=
 (orc_loop (b:=body3) (live:=[0,1,5,6]) (by kernel_rfl)).trans (iter_eq (St3 a0 a1) _ _ (fun q1 a=>by
  have hc:=congrFun (congrFun (rfl:(step3 N a0 a1)=(step3 N a0 a1)) (fun a=>q1 (St3 a0 a1 a))) a
  obtain ⟨u0,u1⟩:=a
  exact (body3_0 N (orc T (G N) live [] N 2) (orc T (G N) live [] N 1) q1 a0 a1 u0 u1).trans hc) N a)
theorem G_ok (N:Nat):GamOK Tryz.prog (G N):=gam_ok (⟨spec_l10Has.snd N,spec_l01Bit.snd N,trivial⟩)
theorem snd (N:Nat):Sound Tryz.prog E 67 (sp N):=
 Mir.sound T_OK (G_ok N) mixed Tryz.func67 (c:=code) (by kernel_rfl) (by kernel_rfl) (sp N) (Nat.le_of_ble_eq_true (by kernel_rfl)) live [] (by
  rintro ⟨a0,a1,_⟩ r h
  exact ⟨N,2,((run N _ a0 a1).trans (congrArg (m0 N a0 a1) (funext fun a=>lp3_eq N a0 a1 a))).trans h⟩)
end spec_l10Most
namespace spec_l10Members_
noncomputable def code:Code:=Tryz.f68.body.getD .skip
abbrev live:Live:=[(2,[1,3])]
noncomputable def G (N:Nat):Ctx E:=gam [(87,[],spec_l02Members.sp N)]
noncomputable def loop2:Code:=codeAt code [1,0,1,0]
noncomputable def body2:Code:=codeAt loop2 [0]
noncomputable def K2 (N:Nat) (o0:Orc E R):KT E R:=kAt T (G N) live [] o0 code [1,0,1,0] (kfin T Tryz.f68 (sp N))
noncomputable def St2 (a0:Node):Int→St E
 | v0=>{ ρ:=[(1,.c (.at (.ptr 0 0))),(3,.c (.at (.int .i64 v0)))],H:=[(0,.box 32 [.int .i64 a0.Id,.int .i64 a0.Term,.int .i64 a0.Vote,.ro 72 (.st 72) a0.Log,.ro 3 (.int .i64) a0.Start,.int .i64 a0.Role,.ro 3 (.int .i64) a0.Votes,.ro 3 (.int .i64) a0.Next,.ro 3 (.int .i64) a0.Match,.int .i64 a0.Commit,.int .i64 a0.Elapsed,.int .i64 a0.Wait,.bool a0.Up])],nx:=1,n:=34,pin:=[] }
theorem run (N:Nat) (o0:Orc E R) (a0:Node):runF T (G N) live [] Tryz.f68 code (sp N) o0 (a0,())=m0 N a0 (fun a=>o0 loop2 (K2 N o0) (St2 a0 a)):=by kernel_rfl
theorem body2_0 (N:Nat) (o0:Orc E R) (o1:Orc E R) (q1:St E→Option R) (a0:Node) (v0:Int):runA T (G N) live [] o1 body2 (St2 a0 v0) (kloop [1,3] q1 (K2 N o0))=step2 N a0 (fun a=>q1 (St2 a0 a)) v0:=by kernel_rfl
theorem lp2_eq (N:Nat) (a0:Node) (a:Int):(orc T (G N) live [] N 2) loop2 (K2 N (orc T (G N) live [] N 2)) (St2 a0 a)=lp2 N a0 a:=
 (orc_loop (b:=body2) (live:=[1,3]) (by kernel_rfl)).trans (iter_eq (St2 a0) _ _ (fun q1 a=>by
  have hc:=congrFun (congrFun (rfl:(step2 N a0)=(step2 N a0)) (fun a=>q1 (St2 a0 a))) a
  exact (body2_0 N (orc T (G N) live [] N 2) (orc T (G N) live [] N 1) q1 a0 a).trans hc) N a)
theorem G_ok (N:Nat):GamOK Tryz.prog (G N):=gam_ok (⟨spec_l02Members.snd N,trivial⟩)
theorem snd (N:Nat):Sound Tryz.prog E 68 (sp N):=
 Mir.sound T_OK (G_ok N) mixed Tryz.func68 (c:=code) (by kernel_rfl) (by kernel_rfl) (sp N) (Nat.le_of_ble_eq_true (by kernel_rfl)) live [] (by
  rintro ⟨a0,_⟩ r h
  exact ⟨N,2,((run N _ a0).trans (congrArg (m0 N a0) (funext fun a=>lp2_eq N a0 a))).trans h⟩)
end spec_l10Members_
namespace spec_l10Advance
noncomputable def code:Code:=Tryz.f72.body.getD .skip
abbrev live:Live:=[(7,[1,2,3,4,5,6]),(3,[1,2,3,4])]
noncomputable def G (N:Nat):Ctx E:=gam [(68,[],spec_l10Members_.sp N),(67,[],spec_l10Most.sp N)]
noncomputable def loop3:Code:=codeAt code [1,1,0,1,0]
noncomputable def body3:Code:=codeAt loop3 [0]
noncomputable def loop7:Code:=codeAt body3 [1,0,0,1,0,1,0]
noncomputable def body7:Code:=codeAt loop7 [0]
noncomputable def K3 (N:Nat) (o0:Orc E R):KT E R:=kAt T (G N) live [] o0 code [1,1,0,1,0] (kfin T Tryz.f72 (sp N))
noncomputable def St3 (a0:Node):((List Int)×Int×Int×Int×Int×(List Entry)×(List Int)×Int×(List Int)×(List Int)×(List Int)×Int×Int×Int×Bool×Int×Int×Int×Int×Int×Int×Int)→St E
 | (v0,v1,v2,v3,v4,v5,v6,v7,v8,v9,v10,v11,v12,v13,v14,v15,v16,v17,v18,v19,v20,v21)=>{ ρ:=[(1,.c (.at (.ptr 0 0))),(2,.c (.at (.ptr 1 0))),(3,.c (.at (.ro 3 (.int .i64) v0))),(4,.c (.at (.int .i64 v1)))],H:=[(0,.box 32 [.int .i64 v2,.int .i64 v3,.int .i64 v4,.ro 72 (.st 72) v5,.ro 3 (.int .i64) v6,.int .i64 v7,.ro 3 (.int .i64) v8,.ro 3 (.int .i64) v9,.ro 3 (.int .i64) v10,.int .i64 v11,.int .i64 v12,.int .i64 v13,.bool v14]),(1,.box 32 [.int .i64 v15,.int .i64 v16,.int .i64 v17,.nils,.nils,.int .i64 v18,.nils,.nils,.nils,.int .i64 v19,.int .i64 v20,.int .i64 v21,.bool false])],nx:=2,n:=60,pin:=[] }
noncomputable def K7 (N:Nat) (o0:Orc E R) (o1:Orc E R) (q1:St E→Option R):KT E R:=kAt T (G N) live [] o1 body3 [1,0,0,1,0,1,0] (kloop [1,2,3,4] q1 (K3 N o0))
noncomputable def St7 (a0:Node):((List Int)×Int×Int×Int×Int×Int×(List Entry)×(List Int)×Int×(List Int)×(List Int)×(List Int)×Int×Int×Int×Bool×Int×Int×Int×Int×Int×Int×Int×(List Int))→St E
 | (v0,v1,v2,v3,v4,v5,v6,v7,v8,v9,v10,v11,v12,v13,v14,v15,v16,v17,v18,v19,v20,v21,v22,v23)=>{ ρ:=[(1,.c (.at (.ptr 0 0))),(2,.c (.at (.ptr 1 0))),(3,.c (.at (.ro 3 (.int .i64) v0))),(4,.c (.at (.int .i64 v1))),(5,.c (.at (.own 2))),(6,.c (.at (.int .i64 v2)))],H:=[(0,.box 32 [.int .i64 v3,.int .i64 v4,.int .i64 v5,.ro 72 (.st 72) v6,.ro 3 (.int .i64) v7,.int .i64 v8,.ro 3 (.int .i64) v9,.ro 3 (.int .i64) v10,.ro 3 (.int .i64) v11,.int .i64 v12,.int .i64 v13,.int .i64 v14,.bool v15]),(1,.box 32 [.int .i64 v16,.int .i64 v17,.int .i64 v18,.nils,.nils,.int .i64 v19,.nils,.nils,.nils,.int .i64 v20,.int .i64 v21,.int .i64 v22,.bool false]),(2,.row 3 (.int .i64) v23 false)],nx:=3,n:=60,pin:=[] }
theorem run (N:Nat) (o0:Orc E R) (a0:Node):runF T (G N) live [] Tryz.f72 code (sp N) o0 (a0,())=m0 N a0 (fun a=>o0 loop3 (K3 N o0) (St3 a0 a)):=by kernel_rfl
theorem body3_0 (N:Nat) (o0:Orc E R) (o1:Orc E R) (q1:St E→Option R) (a0:Node) (v0:List Int) (v1:Int) (v2:Int) (v3:Int) (v4:Int) (v5:List Entry) (v6:List Int) (v7:Int) (v8:List Int) (v9:List Int) (v10:List Int) (v11:Int) (v12:Int) (v13:Int) (v14:Bool) (v15:Int) (v16:Int) (v17:Int) (v18:Int) (v19:Int) (v20:Int) (v21:Int):runA T (G N) live [] o1 body3 (St3 a0 (v0,v1,v2,v3,v4,v5,v6,v7,v8,v9,v10,v11,v12,v13,v14,v15,v16,v17,v18,v19,v20,v21)) (kloop [1,2,3,4] q1 (K3 N o0))=step3 N a0 (fun a=>o1 loop7 (K7 N o0 o1 q1) (St7 a0 a)) (fun a=>q1 (St3 a0 a)) (v0,v1,v2,v3,v4,v5,v6,v7,v8,v9,v10,v11,v12,v13,v14,v15,v16,v17,v18,v19,v20,v21):=by kernel_rfl
theorem body7_0 (N:Nat) (o0:Orc E R) (o1:Orc E R) (o2:Orc E R) (q1:St E→Option R) (q2:St E→Option R) (a0:Node) (v0:List Int) (v1:Int) (v2:Int) (v3:Int) (v4:Int) (v5:Int) (v6:List Entry) (v7:List Int) (v8:Int) (v9:List Int) (v10:List Int) (v11:List Int) (v12:Int) (v13:Int) (v14:Int) (v15:Bool) (v16:Int) (v17:Int) (v18:Int) (v19:Int) (v20:Int) (v21:Int) (v22:Int) (v23:List Int):runA T (G N) live [] o2 body7 (St7 a0 (v0,v1,v2,v3,v4,v5,v6,v7,v8,v9,v10,v11,v12,v13,v14,v15,v16,v17,v18,v19,v20,v21,v22,v23)) (kloop [1,2,3,4,5,6] q2 (K7 N o0 o1 q1))=step7 N a0 (fun a=>q1 (St3 a0 a)) (fun a=>q2 (St7 a0 a)) (v0,v1,v2,v3,v4,v5,v6,v7,v8,v9,v10,v11,v12,v13,v14,v15,v16,v17,v18,v19,v20,v21,v22,v23):=by kernel_rfl
theorem lp7_eq (N:Nat) (a0:Node) (q1:St E→Option R) (a:(List Int)×Int×Int×Int×Int×Int×(List Entry)×(List Int)×Int×(List Int)×(List Int)×(List Int)×Int×Int×Int×Bool×Int×Int×Int×Int×Int×Int×Int×(List Int)):(orc T (G N) live [] N 2) loop7 (K7 N (orc T (G N) live [] N 3) (orc T (G N) live [] N 2) q1) (St7 a0 a)=lp7 N a0 (fun a=>q1 (St3 a0 a)) a:=
 (orc_loop (b:=body7) (live:=[1,2,3,4,5,6]) (by kernel_rfl)).trans (iter_eq (St7 a0) _ _ (fun q2 a=>by
  have hc:=congrFun (congrFun (congrArg (step7 N a0) (Eq.refl (fun a=>q1 (St3 a0 a)))) (fun a=>q2 (St7 a0 a))) a
  obtain ⟨u0,u1,u2,u3,u4,u5,u6,u7,u8,u9,u10,u11,u12,u13,u14,u15,u16,u17,u18,u19,u20,u21,u22,u23⟩:=a
  exact (body7_0 N (orc T (G N) live [] N 3) (orc T (G N) live [] N 2) (orc T (G N) live [] N 1) q1 q2 a0 u0 u1 u2 u3 u4 u5 u6 u7 u8 u9 u10 u11 u12 u13 u14 u15 u16 u17 u18 u19 u20 u21 u22 u23).trans hc) N a)
theorem lp3_eq (N:Nat) (a0:Node) (a:(List Int)×Int×Int×Int×Int×(List Entry)×(List Int)×Int×(List Int)×(List Int)×(List Int)×Int×Int×Int×Bool×Int×Int×Int×Int×Int×Int×Int):(orc T (G N) live [] N 3) loop3 (K3 N (orc T (G N) live [] N 3)) (St3 a0 a)=lp3 N a0 a:=
 (orc_loop (b:=body3) (live:=[1,2,3,4]) (by kernel_rfl)).trans (iter_eq (St3 a0) _ _ (fun q1 a=>by
  have hc:=congrFun (congrFun (congrArg (step3 N a0) (funext fun a=>lp7_eq N a0 q1 a)) (fun a=>q1 (St3 a0 a))) a
  obtain ⟨u0,u1,u2,u3,u4,u5,u6,u7,u8,u9,u10,u11,u12,u13,u14,u15,u16,u17,u18,u19,u20,u21⟩:=a
  exact (body3_0 N (orc T (G N) live [] N 3) (orc T (G N) live [] N 2) q1 a0 u0 u1 u2 u3 u4 u5 u6 u7 u8 u9 u10 u11 u12 u13 u14 u15 u16 u17 u18 u19 u20 u21).trans hc) N a)
theorem G_ok (N:Nat):GamOK Tryz.prog (G N):=gam_ok (⟨spec_l10Members_.snd N,spec_l10Most.snd N,trivial⟩)
theorem snd (N:Nat):Sound Tryz.prog E 72 (sp N):=
 Mir.sound T_OK (G_ok N) mixed Tryz.func72 (c:=code) (by kernel_rfl) (by kernel_rfl) (sp N) (Nat.le_of_ble_eq_true (by kernel_rfl)) live [] (by
  rintro ⟨a0,_⟩ r h
  exact ⟨N,3,((run N _ a0).trans (congrArg (m0 N a0) (funext fun a=>lp3_eq N a0 a))).trans h⟩)
end spec_l10Advance
namespace spec_l10Append
noncomputable def code:Code:=Tryz.f71.body.getD .skip
abbrev live:Live:=[]
noncomputable def G (N:Nat):Ctx E:=gam [(70,[],spec_l10Term.sp N)]
theorem run (N:Nat) (o0:Orc E R) (a0:Node) (a1:Int):runF T (G N) live [] Tryz.f71 code (sp N) o0 (a0,a1,())=m N a0 a1:=by kernel_rfl
theorem G_ok (N:Nat):GamOK Tryz.prog (G N):=gam_ok (⟨spec_l10Term.snd N,trivial⟩)
theorem snd (N:Nat):Sound Tryz.prog E 71 (sp N):=
 Mir.sound T_OK (G_ok N) mixed Tryz.func71 (c:=code) (by kernel_rfl) (by kernel_rfl) (sp N) (Nat.le_of_ble_eq_true (by kernel_rfl)) live [] (by
  rintro ⟨a0,a1,_⟩ r h
  exact ⟨N,2,((run N _ a0 a1).trans rfl).trans h⟩)
end spec_l10Append
namespace spec_l10Tell
noncomputable def code:Code:=Tryz.f89.body.getD .skip
abbrev live:Live:=[(4,[1,3,4,5])]
noncomputable def G (N:Nat):Ctx E:=gam [(68,[],spec_l10Members_.sp N),(71,[],spec_l10Append.sp N)]
noncomputable def loop4:Code:=codeAt code [1,1,1,0,1,0]
noncomputable def body4:Code:=codeAt loop4 [0]
noncomputable def K4 (N:Nat) (o0:Orc E R):KT E R:=kAt TD (G N) live [] o0 code [1,1,1,0,1,0] (kfin TD Tryz.f89 (sp N))
noncomputable def St4 (a0:Node):((List Int)×Int×(List Message))→St E
 | (v0,v1,v15)=>{ ρ:=[(1,.c (.at (.ptr 0 0))),(3,.c (.at (.own 1))),(4,.c (.at (.ro 3 (.int .i64) v0))),(5,.c (.at (.int .i64 v1)))],H:=[(0,.box 32 [.int .i64 a0.Id,.int .i64 a0.Term,.int .i64 a0.Vote,.ro 72 (.st 72) a0.Log,.ro 3 (.int .i64) a0.Start,.int .i64 a0.Role,.ro 3 (.int .i64) a0.Votes,.ro 3 (.int .i64) a0.Next,.ro 3 (.int .i64) a0.Match,.int .i64 a0.Commit,.int .i64 a0.Elapsed,.int .i64 a0.Wait,.bool a0.Up]),(1,.drow 38 (.st 38) v15 2),(2,.hdr)],nx:=3,n:=32,pin:=[] }
theorem run (N:Nat) (o0:Orc E R) (a0:Node):runF TD (G N) live [] Tryz.f89 code (sp N) o0 (a0,())=m0 N a0 (fun a=>o0 loop4 (K4 N o0) (St4 a0 a)):=by kernel_rfl
theorem body4_0 (N:Nat) (o0:Orc E R) (o1:Orc E R) (q1:St E→Option R) (a0:Node) (v0:List Int) (v1:Int) (v15:List Message):runA TD (G N) live [] o1 body4 (St4 a0 (v0,v1,v15)) (kloop [1,3,4,5] q1 (K4 N o0))=step4 N a0 (fun a=>q1 (St4 a0 a)) (v0,v1,v15):=by kernel_rfl
theorem lp4_eq (N:Nat) (a0:Node) (a:(List Int)×Int×(List Message)):(orc TD (G N) live [] N 2) loop4 (K4 N (orc TD (G N) live [] N 2)) (St4 a0 a)=lp4 N a0 a:=
 (orc_loop (b:=body4) (live:=[1,3,4,5]) (by kernel_rfl)).trans (iter_eq (St4 a0) _ _ (fun q1 a=>by
  have hc:=congrFun (congrFun (rfl:(step4 N a0)=(step4 N a0)) (fun a=>q1 (St4 a0 a))) a
  obtain ⟨u0,u1,u2⟩:=a
  exact (body4_0 N (orc TD (G N) live [] N 2) (orc TD (G N) live [] N 1) q1 a0 u0 u1 u2).trans hc) N a)
theorem G_ok (N:Nat):GamOK Tryz.prog (G N):=gam_ok (⟨spec_l10Members_.snd N,spec_l10Append.snd N,trivial⟩)
theorem snd (N:Nat):Sound Tryz.prog E 89 (sp N):=
 Mir.sound TD_OK (G_ok N) mixed Tryz.func89 (c:=code) (by kernel_rfl) (by kernel_rfl) (sp N) (Nat.le_of_ble_eq_true (by kernel_rfl)) live [] (by
  rintro ⟨a0,_⟩ r h
  exact ⟨N,2,((run N _ a0).trans (congrArg (m0 N a0) (funext fun a=>lp4_eq N a0 a))).trans h⟩)
end spec_l10Tell
namespace spec_l10Lead
noncomputable def code:Code:=Tryz.f69.body.getD .skip
abbrev live:Live:=[(4,[1,2,4])]
noncomputable def G (N:Nat):Ctx E:=gam [(72,[],spec_l10Advance.sp N),(89,[],spec_l10Tell.sp N)]
noncomputable def loop4:Code:=codeAt code [1,1,1,0,1,0]
noncomputable def body4:Code:=codeAt loop4 [0]
noncomputable def K4 (N:Nat) (o0:Orc E R):KT E R:=kAt T (G N) live [] o0 code [1,1,1,0,1,0] (kfin T Tryz.f69 (sp N))
noncomputable def St4 (a0:Node):(Int×Int×Int×(List Int)×(List Int)×Int×Int×Int×Int×Int×Int×Int)→St E
 | (v0,v5,v7,v12,v13,v14,v15,v16,v17,v18,v19,v20)=>{ ρ:=[(1,.c (.at (.ptr 0 0))),(2,.c (.at (.ptr 5 0))),(4,.c (.at (.int .i64 v0)))],H:=[(0,.box 32 [.int .i64 a0.Id,.int .i64 a0.Term,.int .i64 a0.Vote,.own 1,.ro 3 (.int .i64) a0.Start,.int .i64 v5,.own 2,.own 3,.own 4,.int .i64 a0.Commit,.int .i64 v7,.int .i64 a0.Wait,.bool a0.Up]),(1,.row 72 (.st 72) a0.Log false),(2,.row 3 (.int .i64) a0.Votes false),(3,.row 3 (.int .i64) v12 false),(4,.row 3 (.int .i64) v13 false),(5,.box 32 [.int .i64 v14,.int .i64 v15,.int .i64 v16,.nils,.nils,.int .i64 v17,.nils,.nils,.nils,.int .i64 v18,.int .i64 v19,.int .i64 v20,.bool false])],nx:=6,n:=39,pin:=[] }
theorem run (N:Nat) (o0:Orc E R) (a0:Node):runF T (G N) live [] Tryz.f69 code (sp N) o0 (a0,())=m0 N a0 (fun a=>o0 loop4 (K4 N o0) (St4 a0 a)):=by kernel_rfl
theorem body4_0 (N:Nat) (o0:Orc E R) (o1:Orc E R) (q1:St E→Option R) (a0:Node) (v0:Int) (v5:Int) (v7:Int) (v12:List Int) (v13:List Int) (v14:Int) (v15:Int) (v16:Int) (v17:Int) (v18:Int) (v19:Int) (v20:Int):runA T (G N) live [] o1 body4 (St4 a0 (v0,v5,v7,v12,v13,v14,v15,v16,v17,v18,v19,v20)) (kloop [1,2,4] q1 (K4 N o0))=step4 N a0 (fun a=>q1 (St4 a0 a)) (v0,v5,v7,v12,v13,v14,v15,v16,v17,v18,v19,v20):=by kernel_rfl
theorem lp4_eq (N:Nat) (a0:Node) (a:Int×Int×Int×(List Int)×(List Int)×Int×Int×Int×Int×Int×Int×Int):(orc T (G N) live [] N 2) loop4 (K4 N (orc T (G N) live [] N 2)) (St4 a0 a)=lp4 N a0 a:=
 (orc_loop (b:=body4) (live:=[1,2,4]) (by kernel_rfl)).trans (iter_eq (St4 a0) _ _ (fun q1 a=>by
  have hc:=congrFun (congrFun (rfl:(step4 N a0)=(step4 N a0)) (fun a=>q1 (St4 a0 a))) a
  obtain ⟨u0,u1,u2,u3,u4,u5,u6,u7,u8,u9,u10,u11⟩:=a
  exact (body4_0 N (orc T (G N) live [] N 2) (orc T (G N) live [] N 1) q1 a0 u0 u1 u2 u3 u4 u5 u6 u7 u8 u9 u10 u11).trans hc) N a)
theorem G_ok (N:Nat):GamOK Tryz.prog (G N):=gam_ok (⟨spec_l10Advance.snd N,spec_l10Tell.snd N,trivial⟩)
theorem snd (N:Nat):Sound Tryz.prog E 69 (sp N):=
 Mir.sound T_OK (G_ok N) mixed Tryz.func69 (c:=code) (by kernel_rfl) (by kernel_rfl) (sp N) (Nat.le_of_ble_eq_true (by kernel_rfl)) live [] (by
  rintro ⟨a0,_⟩ r h
  exact ⟨N,2,((run N _ a0).trans (congrArg (m0 N a0) (funext fun a=>lp4_eq N a0 a))).trans h⟩)
end spec_l10Lead
namespace spec_l10Voted
noncomputable def code:Code:=Tryz.f43.body.getD .skip
abbrev live:Live:=[(5,[2,3,4,6])]
noncomputable def G (N:Nat):Ctx E:=gam [(66,[],spec_l10Has.sp N),(68,[],spec_l10Members.sp N),(67,[],spec_l10Most.sp N),(69,[],spec_l10Lead.sp N)]
noncomputable def loop5:Code:=codeAt code [1,1,0,1,0,1,0,0]
noncomputable def body5:Code:=codeAt loop5 [0]
noncomputable def K5 (N:Nat) (o0:Orc E R):KT E R:=kAt T (G N) live [] o0 code [1,1,0,1,0,1,0,0] (kfin T Tryz.f43 (sp N))
noncomputable def St5 (a0:Node) (a1:Message):(Int×Int×Int×Int×Int×Int×Int×Int)→St E
 | (v0,v23,v24,v25,v26,v27,v28,v29)=>{ ρ:=[(2,.c (.at (.ptr 0 0))),(3,.c (.at (.ptr 5 0))),(4,.c (.at (.ptr 6 0))),(6,.c (.at (.int .i64 v0)))],H:=[(0,.box 32 [.int .i64 a0.Id,.int .i64 a0.Term,.int .i64 a0.Vote,.own 1,.ro 3 (.int .i64) a0.Start,.int .i64 a0.Role,.own 2,.own 3,.own 4,.int .i64 a0.Commit,.int .i64 a0.Elapsed,.int .i64 a0.Wait,.bool a0.Up]),(1,.row 72 (.st 72) a0.Log false),(2,.row 3 (.int .i64) a0.Votes false),(3,.row 3 (.int .i64) a0.Next false),(4,.row 3 (.int .i64) a0.Match false),(5,.box 38 [.int .i64 a1.Kind,.int .i64 a1.From,.int .i64 a1.To,.int .i64 a1.Term,.int .i64 a1.Index,.int .i64 a1.LogTerm,.int .i64 a1.Commit,.ro 72 (.st 72) a1.Entries,.bool a1.Ok]),(6,.box 32 [.int .i64 v23,.int .i64 v24,.int .i64 v25,.nils,.nils,.int .i64 v26,.nils,.nils,.nils,.int .i64 v27,.int .i64 v28,.int .i64 v29,.bool false])],nx:=7,n:=74,pin:=[] }
theorem run (N:Nat) (o0:Orc E R) (a0:Node) (a1:Message):runF T (G N) live [] Tryz.f43 code (sp N) o0 (a0,a1,())=m0 N a0 a1 (fun a=>o0 loop5 (K5 N o0) (St5 a0 a1 a)):=by kernel_rfl
theorem body5_0 (N:Nat) (o0:Orc E R) (o1:Orc E R) (q1:St E→Option R) (a0:Node) (a1:Message) (v0:Int) (v23:Int) (v24:Int) (v25:Int) (v26:Int) (v27:Int) (v28:Int) (v29:Int):runA T (G N) live [] o1 body5 (St5 a0 a1 (v0,v23,v24,v25,v26,v27,v28,v29)) (kloop [2,3,4,6] q1 (K5 N o0))=step5 N a0 a1 (fun a=>q1 (St5 a0 a1 a)) (v0,v23,v24,v25,v26,v27,v28,v29):=by kernel_rfl
theorem lp5_eq (N:Nat) (a0:Node) (a1:Message) (a:Int×Int×Int×Int×Int×Int×Int×Int):(orc T (G N) live [] N 2) loop5 (K5 N (orc T (G N) live [] N 2)) (St5 a0 a1 a)=lp5 N a0 a1 a:=
 (orc_loop (b:=body5) (live:=[2,3,4,6]) (by kernel_rfl)).trans (iter_eq (St5 a0 a1) _ _ (fun q1 a=>by
  have hc:=congrFun (congrFun (rfl:(step5 N a0 a1)=(step5 N a0 a1)) (fun a=>q1 (St5 a0 a1 a))) a
  obtain ⟨u0,u1,u2,u3,u4,u5,u6,u7⟩:=a
  exact (body5_0 N (orc T (G N) live [] N 2) (orc T (G N) live [] N 1) q1 a0 a1 u0 u1 u2 u3 u4 u5 u6 u7).trans hc) N a)
theorem G_ok (N:Nat):GamOK Tryz.prog (G N):=gam_ok (⟨spec_l10Has.snd N,spec_l10Members.snd N,spec_l10Most.snd N,spec_l10Lead.snd N,trivial⟩)
theorem snd (N:Nat):Sound Tryz.prog E 43 (sp N):=
 Mir.sound T_OK (G_ok N) mixed Tryz.func43 (c:=code) (by kernel_rfl) (by kernel_rfl) (sp N) (Nat.le_of_ble_eq_true (by kernel_rfl)) live [] (by
  rintro ⟨a0,a1,_⟩ r h
  exact ⟨N,2,((run N _ a0 a1).trans (congrArg (m0 N a0 a1) (funext fun a=>lp5_eq N a0 a1 a))).trans h⟩)
end spec_l10Voted
namespace spec_l10Entries
noncomputable def code:Code:=Tryz.f44.body.getD .skip
abbrev live:Live:=[(9,[2,3,4,7])]
noncomputable def G (N:Nat):Ctx E:=gam [(41,[],spec_l10Down.sp N),(70,[],spec_l10Term.sp N)]
noncomputable def loop9:Code:=codeAt code [1,1,1,1,1,1,0,1,0]
noncomputable def body9:Code:=codeAt loop9 [0]
noncomputable def K9 (N:Nat) (o0:Orc E R):KT E R:=kAt TD (G N) live [] o0 code [1,1,1,1,1,1,0,1,0] (kfin TD Tryz.f44 (sp N))
noncomputable def St9 (a0:Node) (a1:Message):(Int×Int×Int×Int×Int×Int×Int×Int×Bool×(List Entry)×(List Int)×(List Int)×(List Int)×(List Int)×Int×Int×Int×Int×Int×Int×Int)→St E
 | (v0,v1,v2,v3,v4,v5,v6,v7,v8,v9,v10,v11,v12,v13,v23,v24,v25,v26,v27,v28,v29)=>{ ρ:=[(2,.c (.at (.ptr 0 0))),(3,.c (.at (.ptr 6 0))),(4,.c (.at (.ptr 7 0))),(7,.c (.at (.int .i64 v0)))],H:=[(0,.box 32 [.int .i64 v1,.int .i64 v2,.int .i64 v3,.own 1,.own 2,.int .i64 v4,.own 3,.own 4,.own 5,.int .i64 v5,.int .i64 v6,.int .i64 v7,.bool v8]),(1,.row 72 (.st 72) v9 false),(2,.row 3 (.int .i64) v10 false),(3,.row 3 (.int .i64) v11 false),(4,.row 3 (.int .i64) v12 false),(5,.row 3 (.int .i64) v13 false),(6,.box 38 [.int .i64 a1.Kind,.int .i64 a1.From,.int .i64 a1.To,.int .i64 a1.Term,.int .i64 a1.Index,.int .i64 a1.LogTerm,.int .i64 a1.Commit,.ro 72 (.st 72) a1.Entries,.bool a1.Ok]),(7,.box 32 [.int .i64 v23,.int .i64 v24,.int .i64 v25,.nils,.nils,.int .i64 v26,.nils,.nils,.nils,.int .i64 v27,.int .i64 v28,.int .i64 v29,.bool false])],nx:=8,n:=120,pin:=[] }
theorem run (N:Nat) (o0:Orc E R) (a0:Node) (a1:Message):runF TD (G N) live [] Tryz.f44 code (sp N) o0 (a0,a1,())=m0 N a0 a1 (fun a=>o0 loop9 (K9 N o0) (St9 a0 a1 a)):=by kernel_rfl
theorem body9_0 (N:Nat) (o0:Orc E R) (o1:Orc E R) (q1:St E→Option R) (a0:Node) (a1:Message) (v0:Int) (v1:Int) (v2:Int) (v3:Int) (v4:Int) (v5:Int) (v6:Int) (v7:Int) (v8:Bool) (v9:List Entry) (v10:List Int) (v11:List Int) (v12:List Int) (v13:List Int) (v23:Int) (v24:Int) (v25:Int) (v26:Int) (v27:Int) (v28:Int) (v29:Int):runA TD (G N) live [] o1 body9 (St9 a0 a1 (v0,v1,v2,v3,v4,v5,v6,v7,v8,v9,v10,v11,v12,v13,v23,v24,v25,v26,v27,v28,v29)) (kloop [2,3,4,7] q1 (K9 N o0))=step9 N a0 a1 (fun a=>q1 (St9 a0 a1 a)) (v0,v1,v2,v3,v4,v5,v6,v7,v8,v9,v10,v11,v12,v13,v23,v24,v25,v26,v27,v28,v29):=by kernel_rfl
theorem lp9_eq (N:Nat) (a0:Node) (a1:Message) (a:Int×Int×Int×Int×Int×Int×Int×Int×Bool×(List Entry)×(List Int)×(List Int)×(List Int)×(List Int)×Int×Int×Int×Int×Int×Int×Int):(orc TD (G N) live [] N 2) loop9 (K9 N (orc TD (G N) live [] N 2)) (St9 a0 a1 a)=lp9 N a0 a1 a:=
 (orc_loop (b:=body9) (live:=[2,3,4,7]) (by kernel_rfl)).trans (iter_eq (St9 a0 a1) _ _ (fun q1 a=>by
  have hc:=congrFun (congrFun (rfl:(step9 N a0 a1)=(step9 N a0 a1)) (fun a=>q1 (St9 a0 a1 a))) a
  obtain ⟨u0,u1,u2,u3,u4,u5,u6,u7,u8,u9,u10,u11,u12,u13,u14,u15,u16,u17,u18,u19,u20⟩:=a
  exact (body9_0 N (orc TD (G N) live [] N 2) (orc TD (G N) live [] N 1) q1 a0 a1 u0 u1 u2 u3 u4 u5 u6 u7 u8 u9 u10 u11 u12 u13 u14 u15 u16 u17 u18 u19 u20).trans hc) N a)
theorem G_ok (N:Nat):GamOK Tryz.prog (G N):=gam_ok (⟨spec_l10Down.snd N,spec_l10Term.snd N,trivial⟩)
theorem snd (N:Nat):Sound Tryz.prog E 44 (sp N):=
 Mir.sound TD_OK (G_ok N) mixed Tryz.func44 (c:=code) (by kernel_rfl) (by kernel_rfl) (sp N) (Nat.le_of_ble_eq_true (by kernel_rfl)) live [] (by
  rintro ⟨a0,a1,_⟩ r h
  exact ⟨N,2,((run N _ a0 a1).trans (congrArg (m0 N a0 a1) (funext fun a=>lp9_eq N a0 a1 a))).trans h⟩)
end spec_l10Entries
namespace spec_l10Answer
noncomputable def code:Code:=Tryz.f45.body.getD .skip
abbrev live:Live:=[]
noncomputable def G (N:Nat):Ctx E:=gam [(71,[],spec_l10Append.sp N),(72,[],spec_l10Advance.sp N)]
theorem run (N:Nat) (o0:Orc E R) (a0:Node) (a1:Message):runF T (G N) live [] Tryz.f45 code (sp N) o0 (a0,a1,())=m N a0 a1:=by kernel_rfl
theorem G_ok (N:Nat):GamOK Tryz.prog (G N):=gam_ok (⟨spec_l10Append.snd N,spec_l10Advance.snd N,trivial⟩)
theorem snd (N:Nat):Sound Tryz.prog E 45 (sp N):=
 Mir.sound T_OK (G_ok N) mixed Tryz.func45 (c:=code) (by kernel_rfl) (by kernel_rfl) (sp N) (Nat.le_of_ble_eq_true (by kernel_rfl)) live [] (by
  rintro ⟨a0,a1,_⟩ r h
  exact ⟨N,2,((run N _ a0 a1).trans rfl).trans h⟩)
end spec_l10Answer
namespace spec_l10Take
noncomputable def code:Code:=Tryz.f23.body.getD .skip
abbrev live:Live:=[]
noncomputable def G (N:Nat):Ctx E:=gam [(22,[],spec_l10Own.sp N),(41,[],spec_l10Down.sp N),(42,[],spec_l10Vote.sp N),(43,[],spec_l10Voted.sp N),(44,[],spec_l10Entries.sp N),(45,[],spec_l10Answer.sp N)]
theorem run (N:Nat) (o0:Orc E R) (a0:Node) (a1:Message):runF T (G N) live [] Tryz.f23 code (sp N) o0 (a0,a1,())=m N a0 a1:=by kernel_rfl
theorem G_ok (N:Nat):GamOK Tryz.prog (G N):=gam_ok (⟨spec_l10Own.snd N,spec_l10Down.snd N,spec_l10Vote.snd N,spec_l10Voted.snd N,spec_l10Entries.snd N,spec_l10Answer.snd N,trivial⟩)
theorem snd (N:Nat):Sound Tryz.prog E 23 (sp N):=
 Mir.sound T_OK (G_ok N) mixed Tryz.func23 (c:=code) (by kernel_rfl) (by kernel_rfl) (sp N) (Nat.le_of_ble_eq_true (by kernel_rfl)) live [] (by
  rintro ⟨a0,a1,_⟩ r h
  exact ⟨N,2,((run N _ a0 a1).trans rfl).trans h⟩)
end spec_l10Take
namespace spec_NodeTake
noncomputable def code:Code:=Tryz.f6.body.getD .skip
abbrev live:Live:=[]
noncomputable def G (N:Nat):Ctx E:=gam [(20,[],spec_NodeOK.sp N),(21,[],spec_l10MessageOK.sp N),(22,[],spec_l10Own.sp N),(23,[],spec_l10Take.sp N)]
theorem run (N:Nat) (o0:Orc E R) (a0:Node) (a1:Message):runF T (G N) live [] Tryz.f6 code (sp N) o0 (a0,a1,())=m N a0 a1:=by kernel_rfl
theorem G_ok (N:Nat):GamOK Tryz.prog (G N):=gam_ok (⟨spec_NodeOK.snd N,spec_l10MessageOK.snd N,spec_l10Own.snd N,spec_l10Take.snd N,trivial⟩)
theorem snd (N:Nat):Sound Tryz.prog E 6 (sp N):=
 Mir.sound T_OK (G_ok N) mixed Tryz.func6 (c:=code) (by kernel_rfl) (by kernel_rfl) (sp N) (Nat.le_of_ble_eq_true (by kernel_rfl)) live [] (by
  rintro ⟨a0,a1,_⟩ r h
  exact ⟨N,2,((run N _ a0 a1).trans rfl).trans h⟩)
end spec_NodeTake
end Mir.Y
