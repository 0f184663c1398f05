/- The models are what the functions do. -/
import Derived.Test.YtcgniikapdcfmaaGreatRLM3
import Derived.Test.YtcgniikapdcfmaaGreatRLDel54
namespace Mir.Y
set_option linter.unusedVariables false
set_option maxRecDepth 10000
open Go Go.Proofs Mir
namespace laws_at
noncomputable def code:Code:=Tryz.f4.body.getD .skip
abbrev live:Live:=[]
noncomputable def G (N:Nat):Ctx E:=gam []
theorem run (N:Nat) (o0:Orc E R) (a0:List Int) (a1:Int) (a2:Int):runF T (G N) live [] Tryz.f4 code (sp N) o0 (a0,a1,a2,())=m N a0 a1 a2:=by kernel_rfl
theorem G_ok (N:Nat):GamOK Tryz.prog (G N):=gam_ok (trivial)
theorem snd (N:Nat):Sound Tryz.prog E 4 (sp N):=
 Mir.sound T_OK (G_ok N) mixed Tryz.func4 (c:=code) (by kernel_rfl) (by kernel_rfl) (sp N) (Nat.le_of_ble_eq_true (by kernel_rfl)) live [] (by
  rintro ⟨a0,a1,a2,_⟩ r h
  exact ⟨N,2,((run N _ a0 a1 a2).trans rfl).trans h⟩)
end laws_at
namespace spec_l00Source
noncomputable def code:Code:=Tryz.f12.body.getD .skip
abbrev live:Live:=[]
noncomputable def G (N:Nat):Ctx E:=gam []
theorem run (N:Nat) (o0:Orc E R) (a0:List Int):runF T (G N) live [] Tryz.f12 code (sp N) o0 (a0,())=m N a0:=by kernel_rfl
theorem G_ok (N:Nat):GamOK Tryz.prog (G N):=gam_ok (trivial)
theorem snd (N:Nat):Sound Tryz.prog E 12 (sp N):=
 Mir.sound T_OK (G_ok N) mixed Tryz.func12 (c:=code) (by kernel_rfl) (by kernel_rfl) (sp N) (Nat.le_of_ble_eq_true (by kernel_rfl)) live [] (by
  rintro ⟨a0,_⟩ r h
  exact ⟨N,2,((run N _ a0).trans rfl).trans h⟩)
end spec_l00Source
namespace spec_l00Src_byte_
noncomputable def code:Code:=Tryz.f41.body.getD .skip
abbrev live:Live:=[]
noncomputable def G (N:Nat):Ctx E:=gam []
theorem run (N:Nat) (o0:Orc E R) (a0:l00Src):runF T (G N) live [] Tryz.f41 code (sp N) o0 (a0,())=m N a0:=by kernel_rfl
theorem G_ok (N:Nat):GamOK Tryz.prog (G N):=gam_ok (trivial)
theorem snd (N:Nat):Sound Tryz.prog E 41 (sp N):=
 Mir.sound T_OK (G_ok N) mixed Tryz.func41 (c:=code) (by kernel_rfl) (by kernel_rfl) (sp N) (Nat.le_of_ble_eq_true (by kernel_rfl)) live [] (by
  rintro ⟨a0,_⟩ r h
  exact ⟨N,2,((run N _ a0).trans rfl).trans h⟩)
end spec_l00Src_byte_
namespace spec_l00Src_next_
noncomputable def code:Code:=Tryz.f23.body.getD .skip
abbrev live:Live:=[]
noncomputable def G (N:Nat):Ctx E:=gam [(41,[],spec_l00Src_byte_.sp N)]
theorem run (N:Nat) (o0:Orc E R) (a0:l00Src) (a1:Int):runF T (G N) live [] Tryz.f23 code (sp N) o0 (a0,a1,())=m N a0 a1:=by kernel_rfl
theorem G_ok (N:Nat):GamOK Tryz.prog (G N):=gam_ok (⟨spec_l00Src_byte_.snd N,trivial⟩)
theorem snd (N:Nat):Sound Tryz.prog E 23 (sp N):=
 Mir.sound T_OK (G_ok N) mixed Tryz.func23 (c:=code) (by kernel_rfl) (by kernel_rfl) (sp N) (Nat.le_of_ble_eq_true (by kernel_rfl)) live [] (by
  rintro ⟨a0,a1,_⟩ r h
  exact ⟨N,2,((run N _ a0 a1).trans rfl).trans h⟩)
end spec_l00Src_next_
namespace spec_l00Src_chance_
noncomputable def code:Code:=Tryz.f21.body.getD .skip
abbrev live:Live:=[]
noncomputable def G (N:Nat):Ctx E:=gam [(23,[],spec_l00Src_next_.sp N)]
theorem run (N:Nat) (o0:Orc E R) (a0:l00Src) (a1:Int):runF T (G N) live [] Tryz.f21 code (sp N) o0 (a0,a1,())=m N a0 a1:=by kernel_rfl
theorem G_ok (N:Nat):GamOK Tryz.prog (G N):=gam_ok (⟨spec_l00Src_next_.snd N,trivial⟩)
theorem snd (N:Nat):Sound Tryz.prog E 21 (sp N):=
 Mir.sound T_OK (G_ok N) mixed Tryz.func21 (c:=code) (by kernel_rfl) (by kernel_rfl) (sp N) (Nat.le_of_ble_eq_true (by kernel_rfl)) live [] (by
  rintro ⟨a0,a1,_⟩ r h
  exact ⟨N,2,((run N _ a0 a1).trans rfl).trans h⟩)
end spec_l00Src_chance_
namespace spec_l00Src_elected
noncomputable def code:Code:=Tryz.f22.body.getD .skip
abbrev live:Live:=[(7,[0,5,7]),(3,[0,1,5,6])]
noncomputable def G (N:Nat):Ctx E:=gam [(23,[],spec_l00Src_next_.sp N)]
noncomputable def loop3:Code:=codeAt code [1,1,0,1,0]
noncomputable def body3:Code:=codeAt loop3 [0]
noncomputable def loop7:Code:=codeAt code [1,1,1,0,1,0]
noncomputable def body7:Code:=codeAt loop7 [0]
noncomputable def K3 (N:Nat) (o0:Orc E R):KT E R:=kAt T (G N) live [] o0 code [1,1,0,1,0] (kfin T Tryz.f22 (sp N))
noncomputable def St3 (a0:l00Src) (a1:Int):(Int×(List Int)×Int×Int×(List GroupAct))→St E
 | (v1,v2,v3,v4,v5)=>{ ρ:=[(0,.c (.at (.ptr 0 0))),(1,.c (.at (.int .i64 a1))),(5,.c (.at (.own 1))),(6,.c (.at (.int .i64 v1)))],H:=[(0,.box 61 [.ro 5 (.int .u8) v2,.int .i64 v3,.int .i64 v4]),(1,.row 46 (.st 46) v5 false)],nx:=2,n:=32,pin:=[0] }
noncomputable def K7 (N:Nat) (o0:Orc E R):KT E R:=kAt T (G N) live [] o0 code [1,1,1,0,1,0] (kfin T Tryz.f22 (sp N))
noncomputable def St7 (a0:l00Src) (a1:Int):(Int×(List Int)×Int×Int×(List GroupAct))→St E
 | (v0,v1,v2,v3,v4)=>{ ρ:=[(0,.c (.at (.ptr 0 0))),(5,.c (.at (.own 1))),(7,.c (.at (.int .i64 v0)))],H:=[(0,.box 61 [.ro 5 (.int .u8) v1,.int .i64 v2,.int .i64 v3]),(1,.row 46 (.st 46) v4 false)],nx:=2,n:=32,pin:=[0] }
theorem run (N:Nat) (o0:Orc E R) (a0:l00Src) (a1:Int):runF T (G N) live [] Tryz.f22 code (sp N) o0 (a0,a1,())=m0 N a0 a1 (fun a=>o0 loop3 (K3 N o0) (St3 a0 a1 a)):=by kernel_rfl
theorem body3_0 (N:Nat) (o0:Orc E R) (o1:Orc E R) (q1:St E→Option R) (a0:l00Src) (a1:Int) (v1:Int) (v2:List Int) (v3:Int) (v4:Int) (v5:List GroupAct):runA T (G N) live [] o1 body3 (St3 a0 a1 (v1,v2,v3,v4,v5)) (kloop [0,1,5,6] q1 (K3 N o0))=step3 N a0 a1 (fun a=>o0 loop7 (K7 N o0) (St7 a0 a1 a)) (fun a=>q1 (St3 a0 a1 a)) (v1,v2,v3,v4,v5):=by kernel_rfl
theorem body7_0 (N:Nat) (o0:Orc E R) (o1:Orc E R) (q1:St E→Option R) (a0:l00Src) (a1:Int) (v0:Int) (v1:List Int) (v2:Int) (v3:Int) (v4:List GroupAct):runA T (G N) live [] o1 body7 (St7 a0 a1 (v0,v1,v2,v3,v4)) (kloop [0,5,7] q1 (K7 N o0))=step7 N a0 a1 (fun a=>q1 (St7 a0 a1 a)) (v0,v1,v2,v3,v4):=by kernel_rfl
theorem lp7_eq (N:Nat) (a0:l00Src) (a1:Int) (a:Int×(List Int)×Int×Int×(List GroupAct)):(orc T (G N) live [] N 2) loop7 (K7 N (orc T (G N) live [] N 2)) (St7 a0 a1 a)=lp7 N a0 a1 a:=
 (orc_loop (b:=body7) (live:=[0,5,7]) (by kernel_rfl)).trans (iter_eq (St7 a0 a1) _ _ (fun q1 a=>by
  have hc:=congrFun (congrFun (rfl:(step7 N a0 a1)=(step7 N a0 a1)) (fun a=>q1 (St7 a0 a1 a))) a
  obtain ⟨u0,u1,u2,u3,u4⟩:=a
  exact (body7_0 N (orc T (G N) live [] N 2) (orc T (G N) live [] N 1) q1 a0 a1 u0 u1 u2 u3 u4).trans hc) N a)
theorem lp3_eq (N:Nat) (a0:l00Src) (a1:Int) (a:Int×(List Int)×Int×Int×(List GroupAct)):(orc T (G N) live [] N 2) loop3 (K3 N (orc T (G N) live [] N 2)) (St3 a0 a1 a)=lp3 N a0 a1 a:=
 (orc_loop (b:=body3) (live:=[0,1,5,6]) (by kernel_rfl)).trans (iter_eq (St3 a0 a1) _ _ (fun q1 a=>by
  have hc:=congrFun (congrFun (congrArg (step3 N a0 a1) (funext fun a=>lp7_eq N a0 a1 a)) (fun a=>q1 (St3 a0 a1 a))) a
  obtain ⟨u0,u1,u2,u3,u4⟩:=a
  exact (body3_0 N (orc T (G N) live [] N 2) (orc T (G N) live [] N 1) q1 a0 a1 u0 u1 u2 u3 u4).trans hc) N a)
theorem G_ok (N:Nat):GamOK Tryz.prog (G N):=gam_ok (⟨spec_l00Src_next_.snd N,trivial⟩)
theorem snd (N:Nat):Sound Tryz.prog E 22 (sp N):=
 Mir.sound T_OK (G_ok N) mixed Tryz.func22 (c:=code) (by kernel_rfl) (by kernel_rfl) (sp N) (Nat.le_of_ble_eq_true (by kernel_rfl)) live [] (by
  rintro ⟨a0,a1,_⟩ r h
  exact ⟨N,2,((run N _ a0 a1).trans (congrArg (m0 N a0 a1) (funext fun a=>lp3_eq N a0 a1 a))).trans h⟩)
end spec_l00Src_elected
namespace spec_l00Src_size
noncomputable def code:Code:=Tryz.f24.body.getD .skip
abbrev live:Live:=[]
noncomputable def G (N:Nat):Ctx E:=gam []
theorem run (N:Nat) (o0:Orc E R) (a0:l00Src) (a1:Int):runF T (G N) live [] Tryz.f24 code (sp N) o0 (a0,a1,())=m N a0 a1:=by kernel_rfl
theorem G_ok (N:Nat):GamOK Tryz.prog (G N):=gam_ok (trivial)
theorem snd (N:Nat):Sound Tryz.prog E 24 (sp N):=
 Mir.sound T_OK (G_ok N) mixed Tryz.func24 (c:=code) (by kernel_rfl) (by kernel_rfl) (sp N) (Nat.le_of_ble_eq_true (by kernel_rfl)) live [] (by
  rintro ⟨a0,a1,_⟩ r h
  exact ⟨N,2,((run N _ a0 a1).trans rfl).trans h⟩)
end spec_l00Src_size
namespace spec_l00Src_pick_
noncomputable def code:Code:=Tryz.f44.body.getD .skip
abbrev live:Live:=[]
noncomputable def G (N:Nat):Ctx E:=gam [(23,[],spec_l00Src_next_.sp N)]
theorem run (N:Nat) (o0:Orc E R) (a0:l00Src) (a1:List ByteArray):runF T (G N) live [] Tryz.f44 code (sp N) o0 (a0,a1,())=m N a0 a1:=by kernel_rfl
theorem G_ok (N:Nat):GamOK Tryz.prog (G N):=gam_ok (⟨spec_l00Src_next_.snd N,trivial⟩)
theorem snd (N:Nat):Sound Tryz.prog E 44 (sp N):=
 Mir.sound T_OK (G_ok N) mixed Tryz.func44 (c:=code) (by kernel_rfl) (by kernel_rfl) (sp N) (Nat.le_of_ble_eq_true (by kernel_rfl)) live [] (by
  rintro ⟨a0,a1,_⟩ r h
  exact ⟨N,2,((run N _ a0 a1).trans rfl).trans h⟩)
end spec_l00Src_pick_
namespace spec_l00Src_key
noncomputable def code:Code:=Tryz.f62.body.getD .skip
abbrev live:Live:=[]
noncomputable def G (N:Nat):Ctx E:=gam [(44,[],spec_l00Src_pick_.sp N)]
theorem run (N:Nat) (o0:Orc E R) (a0:l00Src):runF T (G N) live [] Tryz.f62 code (sp N) o0 (a0,())=m N a0:=by kernel_rfl
theorem G_ok (N:Nat):GamOK Tryz.prog (G N):=gam_ok (⟨spec_l00Src_pick_.snd N,trivial⟩)
theorem snd (N:Nat):Sound Tryz.prog E 62 (sp N):=
 Mir.sound T_OK (G_ok N) mixed Tryz.func62 (c:=code) (by kernel_rfl) (by kernel_rfl) (sp N) (Nat.le_of_ble_eq_true (by kernel_rfl)) live [] (by
  rintro ⟨a0,_⟩ r h
  exact ⟨N,2,((run N _ a0).trans rfl).trans h⟩)
end spec_l00Src_key
namespace spec_l00Src_datum
noncomputable def code:Code:=Tryz.f63.body.getD .skip
abbrev live:Live:=[]
noncomputable def G (N:Nat):Ctx E:=gam [(44,[],spec_l00Src_pick_.sp N)]
theorem run (N:Nat) (o0:Orc E R) (a0:l00Src):runF T (G N) live [] Tryz.f63 code (sp N) o0 (a0,())=m N a0:=by kernel_rfl
theorem G_ok (N:Nat):GamOK Tryz.prog (G N):=gam_ok (⟨spec_l00Src_pick_.snd N,trivial⟩)
theorem snd (N:Nat):Sound Tryz.prog E 63 (sp N):=
 Mir.sound T_OK (G_ok N) mixed Tryz.func63 (c:=code) (by kernel_rfl) (by kernel_rfl) (sp N) (Nat.le_of_ble_eq_true (by kernel_rfl)) live [] (by
  rintro ⟨a0,_⟩ r h
  exact ⟨N,2,((run N _ a0).trans rfl).trans h⟩)
end spec_l00Src_datum
namespace spec_l00Src_command
noncomputable def code:Code:=Tryz.f43.body.getD .skip
abbrev live:Live:=[]
noncomputable def G (N:Nat):Ctx E:=gam [(23,[],spec_l00Src_next_.sp N),(62,[],spec_l00Src_key.sp N),(63,[],spec_l00Src_datum.sp N),(21,[],spec_l00Src_chance_.sp N)]
theorem run (N:Nat) (o0:Orc E R) (a0:l00Src):runF T (G N) live [] Tryz.f43 code (sp N) o0 (a0,())=m N a0:=by kernel_rfl
theorem G_ok (N:Nat):GamOK Tryz.prog (G N):=gam_ok (⟨spec_l00Src_next_.snd N,spec_l00Src_key.snd N,spec_l00Src_datum.snd N,spec_l00Src_chance_.snd N,trivial⟩)
theorem snd (N:Nat):Sound Tryz.prog E 43 (sp N):=
 Mir.sound T_OK (G_ok N) mixed Tryz.func43 (c:=code) (by kernel_rfl) (by kernel_rfl) (sp N) (Nat.le_of_ble_eq_true (by kernel_rfl)) live [] (by
  rintro ⟨a0,_⟩ r h
  exact ⟨N,2,((run N _ a0).trans rfl).trans h⟩)
end spec_l00Src_command
namespace spec_l02Two
noncomputable def code:Code:=Tryz.f61.body.getD .skip
abbrev live:Live:=[]
noncomputable def G (N:Nat):Ctx E:=gam []
theorem run (N:Nat) (o0:Orc E R) (a0:Int):runF T (G N) live [] Tryz.f61 code (sp N) o0 (a0,())=m N a0:=by kernel_rfl
theorem G_ok (N:Nat):GamOK Tryz.prog (G N):=gam_ok (trivial)
theorem snd (N:Nat):Sound Tryz.prog E 61 (sp N):=
 Mir.sound T_OK (G_ok N) mixed Tryz.func61 (c:=code) (by kernel_rfl) (by kernel_rfl) (sp N) (Nat.le_of_ble_eq_true (by kernel_rfl)) live [] (by
  rintro ⟨a0,_⟩ r h
  exact ⟨N,2,((run N _ a0).trans rfl).trans h⟩)
end spec_l02Two
namespace spec_l02Bytes
noncomputable def code:Code:=Tryz.f42.body.getD .skip
abbrev live:Live:=[]
noncomputable def G (N:Nat):Ctx E:=gam [(61,[],spec_l02Two.sp N)]
theorem run (N:Nat) (o0:Orc E R) (a0:Command):runF T (G N) live [] Tryz.f42 code (sp N) o0 (a0,())=m N a0:=by kernel_rfl
theorem G_ok (N:Nat):GamOK Tryz.prog (G N):=gam_ok (⟨spec_l02Two.snd N,trivial⟩)
theorem snd (N:Nat):Sound Tryz.prog E 42 (sp N):=
 Mir.sound T_OK (G_ok N) mixed Tryz.func42 (c:=code) (by kernel_rfl) (by kernel_rfl) (sp N) (Nat.le_of_ble_eq_true (by kernel_rfl)) live [] (by
  rintro ⟨a0,_⟩ r h
  exact ⟨N,2,((run N _ a0).trans rfl).trans h⟩)
end spec_l02Bytes
namespace spec_l00Src_groupAct
noncomputable def code:Code:=Tryz.f25.body.getD .skip
abbrev live:Live:=[]
noncomputable def G (N:Nat):Ctx E:=gam [(23,[],spec_l00Src_next_.sp N),(43,[],spec_l00Src_command.sp N),(42,[],spec_l02Bytes.sp N),(21,[],spec_l00Src_chance_.sp N),(44,[],spec_l00Src_pick_.sp N)]
theorem run (N:Nat) (o0:Orc E R) (a0:l00Src) (a1:Int):runF T (G N) live [] Tryz.f25 code (sp N) o0 (a0,a1,())=m N a0 a1:=by kernel_rfl
theorem G_ok (N:Nat):GamOK Tryz.prog (G N):=gam_ok (⟨spec_l00Src_next_.snd N,spec_l00Src_command.snd N,spec_l02Bytes.snd N,spec_l00Src_chance_.snd N,spec_l00Src_pick_.snd N,trivial⟩)
theorem snd (N:Nat):Sound Tryz.prog E 25 (sp N):=
 Mir.sound T_OK (G_ok N) mixed Tryz.func25 (c:=code) (by kernel_rfl) (by kernel_rfl) (sp N) (Nat.le_of_ble_eq_true (by kernel_rfl)) live [] (by
  rintro ⟨a0,a1,_⟩ r h
  exact ⟨N,2,((run N _ a0 a1).trans rfl).trans h⟩)
end spec_l00Src_groupAct
namespace spec_l00Src_groupActs
noncomputable def code:Code:=Tryz.f13.body.getD .skip
abbrev live:Live:=[(5,[0,1,5,6])]
noncomputable def G (N:Nat):Ctx E:=gam [(21,[],spec_l00Src_chance_.sp N),(23,[],spec_l00Src_next_.sp N),(22,[],spec_l00Src_elected.sp N),(24,[],spec_l00Src_size.sp N),(25,[],spec_l00Src_groupAct.sp N)]
noncomputable def loop5:Code:=codeAt code [1,1,1,0,1,0]
noncomputable def body5:Code:=codeAt loop5 [0]
noncomputable def K5 (N:Nat) (o0:Orc E R):KT E R:=kAt T (G N) live [] o0 code [1,1,1,0,1,0] (kfin T Tryz.f13 (sp N))
noncomputable def St5 (a0:l00Src) (a1:Int):(Int×(List Int)×Int×Int×(List GroupAct))→St E
 | (v1,v2,v3,v4,v5)=>{ ρ:=[(0,.c (.at (.ptr 0 0))),(1,.c (.at (.int .i64 a1))),(5,.c (.at (.own 1))),(6,.c (.at (.int .i64 v1)))],H:=[(0,.box 61 [.ro 5 (.int .u8) v2,.int .i64 v3,.int .i64 v4]),(1,.row 46 (.st 46) v5 false)],nx:=2,n:=46,pin:=[0] }
theorem run (N:Nat) (o0:Orc E R) (a0:l00Src) (a1:Int):runF T (G N) live [] Tryz.f13 code (sp N) o0 (a0,a1,())=m0 N a0 a1 (fun a=>o0 loop5 (K5 N o0) (St5 a0 a1 a)):=by kernel_rfl
theorem body5_0 (N:Nat) (o0:Orc E R) (o1:Orc E R) (q1:St E→Option R) (a0:l00Src) (a1:Int) (v1:Int) (v2:List Int) (v3:Int) (v4:Int) (v5:List GroupAct):runA T (G N) live [] o1 body5 (St5 a0 a1 (v1,v2,v3,v4,v5)) (kloop [0,1,5,6] q1 (K5 N o0))=step5 N a0 a1 (fun a=>q1 (St5 a0 a1 a)) (v1,v2,v3,v4,v5):=by kernel_rfl
theorem lp5_eq (N:Nat) (a0:l00Src) (a1:Int) (a:Int×(List Int)×Int×Int×(List GroupAct)):(orc T (G N) live [] N 2) loop5 (K5 N (orc T (G N) live [] N 2)) (St5 a0 a1 a)=lp5 N a0 a1 a:=
 (orc_loop (b:=body5) (live:=[0,1,5,6]) (by kernel_rfl)).trans (iter_eq (St5 a0 a1) _ _ (fun q1 a=>by
  have hc:=congrFun (congrFun (rfl:(step5 N a0 a1)=(step5 N a0 a1)) (fun a=>q1 (St5 a0 a1 a))) a
  obtain ⟨u0,u1,u2,u3,u4⟩:=a
  exact (body5_0 N (orc T (G N) live [] N 2) (orc T (G N) live [] N 1) q1 a0 a1 u0 u1 u2 u3 u4).trans hc) N a)
theorem G_ok (N:Nat):GamOK Tryz.prog (G N):=gam_ok (⟨spec_l00Src_chance_.snd N,spec_l00Src_next_.snd N,spec_l00Src_elected.snd N,spec_l00Src_size.snd N,spec_l00Src_groupAct.snd N,trivial⟩)
theorem snd (N:Nat):Sound Tryz.prog E 13 (sp N):=
 Mir.sound T_OK (G_ok N) mixed Tryz.func13 (c:=code) (by kernel_rfl) (by kernel_rfl) (sp N) (Nat.le_of_ble_eq_true (by kernel_rfl)) live [] (by
  rintro ⟨a0,a1,_⟩ r h
  exact ⟨N,2,((run N _ a0 a1).trans (congrArg (m0 N a0 a1) (funext fun a=>lp5_eq N a0 a1 a))).trans h⟩)
end spec_l00Src_groupActs
namespace spec_GroupActsOf
noncomputable def code:Code:=Tryz.f6.body.getD .skip
abbrev live:Live:=[]
noncomputable def G (N:Nat):Ctx E:=gam [(12,[],spec_l00Source.sp N),(13,[],spec_l00Src_groupActs.sp N)]
theorem run (N:Nat) (o0:Orc E R) (a0:List Int) (a1:Int):runF T (G N) live [] Tryz.f6 code (sp N) o0 (a0,a1,())=m N a0 a1:=by kernel_rfl
theorem G_ok (N:Nat):GamOK Tryz.prog (G N):=gam_ok (⟨spec_l00Source.snd N,spec_l00Src_groupActs.snd N,trivial⟩)
theorem snd (N:Nat):Sound Tryz.prog E 6 (sp N):=
 Mir.sound T_OK (G_ok N) mixed Tryz.func6 (c:=code) (by kernel_rfl) (by kernel_rfl) (sp N) (Nat.le_of_ble_eq_true (by kernel_rfl)) live [] (by
  rintro ⟨a0,a1,_⟩ r h
  exact ⟨N,2,((run N _ a0 a1).trans rfl).trans h⟩)
end spec_GroupActsOf
namespace impl_isList_impl_GroupAct
noncomputable def code:Code:=Tryz.f9.body.getD .skip
abbrev live:Live:=[]
noncomputable def G (N:Nat):Ctx E:=gam []
theorem run (N:Nat) (o0:Orc E R) (a0:List GroupAct):runF T (G N) live [] Tryz.f9 code (sp N) o0 (a0,())=m N a0:=by kernel_rfl
theorem G_ok (N:Nat):GamOK Tryz.prog (G N):=gam_ok (trivial)
theorem snd (N:Nat):Sound Tryz.prog E 9 (sp N):=
 Mir.sound T_OK (G_ok N) mixed Tryz.func9 (c:=code) (by kernel_rfl) (by kernel_rfl) (sp N) (Nat.le_of_ble_eq_true (by kernel_rfl)) live [] (by
  rintro ⟨a0,_⟩ r h
  exact ⟨N,2,((run N _ a0).trans rfl).trans h⟩)
end impl_isList_impl_GroupAct
namespace impl_within
noncomputable def code:Code:=Tryz.f17.body.getD .skip
abbrev live:Live:=[]
noncomputable def G (N:Nat):Ctx E:=gam []
theorem run (N:Nat) (o0:Orc E R) (a0:Int) (a1:Int) (a2:Int):runF T (G N) live [] Tryz.f17 code (sp N) o0 (a0,a1,a2,())=m N a0 a1 a2:=by kernel_rfl
theorem G_ok (N:Nat):GamOK Tryz.prog (G N):=gam_ok (trivial)
theorem snd (N:Nat):Sound Tryz.prog E 17 (sp N):=
 Mir.sound T_OK (G_ok N) mixed Tryz.func17 (c:=code) (by kernel_rfl) (by kernel_rfl) (sp N) (Nat.le_of_ble_eq_true (by kernel_rfl)) live [] (by
  rintro ⟨a0,a1,a2,_⟩ r h
  exact ⟨N,2,((run N _ a0 a1 a2).trans rfl).trans h⟩)
end impl_within
namespace slices_Clone_int_int
noncomputable def code:Code:=Tryz.f33.body.getD .skip
abbrev live:Live:=[]
noncomputable def G (N:Nat):Ctx E:=gam []
theorem run (N:Nat) (o0:Orc E R) (a0:List Int):runF T (G N) live [] Tryz.f33 code (sp N) o0 (a0,())=m N a0:=by kernel_rfl
theorem G_ok (N:Nat):GamOK Tryz.prog (G N):=gam_ok (trivial)
theorem snd (N:Nat):Sound Tryz.prog E 33 (sp N):=
 Mir.sound T_OK (G_ok N) mixed Tryz.func33 (c:=code) (by kernel_rfl) (by kernel_rfl) (sp N) (Nat.le_of_ble_eq_true (by kernel_rfl)) live [] (by
  rintro ⟨a0,_⟩ r h
  exact ⟨N,2,((run N _ a0).trans rfl).trans h⟩)
end slices_Clone_int_int
namespace math_bits_Mul64
noncomputable def code:Code:=Tryz.f79.body.getD .skip
abbrev live:Live:=[]
noncomputable def G (N:Nat):Ctx E:=gam []
theorem run (N:Nat) (o0:Orc E R) (a0:Int) (a1:Int):runF T (G N) live [] Tryz.f79 code (sp N) o0 (a0,a1,())=m N a0 a1:=by kernel_rfl
theorem G_ok (N:Nat):GamOK Tryz.prog (G N):=gam_ok (trivial)
theorem snd (N:Nat):Sound Tryz.prog E 79 (sp N):=
 Mir.sound T_OK (G_ok N) mixed Tryz.func79 (c:=code) (by kernel_rfl) (by kernel_rfl) (sp N) (Nat.le_of_ble_eq_true (by kernel_rfl)) live [] (by
  rintro ⟨a0,a1,_⟩ r h
  exact ⟨N,2,((run N _ a0 a1).trans rfl).trans h⟩)
end math_bits_Mul64
namespace math_bits_Mul
noncomputable def code:Code:=Tryz.f68.body.getD .skip
abbrev live:Live:=[]
noncomputable def G (N:Nat):Ctx E:=gam [(79,[],math_bits_Mul64.sp N)]
theorem run (N:Nat) (o0:Orc E R) (a0:Int) (a1:Int):runF T (G N) live [] Tryz.f68 code (sp N) o0 (a0,a1,())=m N a0 a1:=by kernel_rfl
theorem G_ok (N:Nat):GamOK Tryz.prog (G N):=gam_ok (⟨math_bits_Mul64.snd N,trivial⟩)
theorem snd (N:Nat):Sound Tryz.prog E 68 (sp N):=
 Mir.sound T_OK (G_ok N) mixed Tryz.func68 (c:=code) (by kernel_rfl) (by kernel_rfl) (sp N) (Nat.le_of_ble_eq_true (by kernel_rfl)) live [] (by
  rintro ⟨a0,a1,_⟩ r h
  exact ⟨N,2,((run N _ a0 a1).trans rfl).trans h⟩)
end math_bits_Mul
namespace slices_Repeat_int_int
noncomputable def code:Code:=Tryz.f53.body.getD .skip
abbrev live:Live:=[(8,[7,8])]
noncomputable def G (N:Nat):Ctx E:=gam [(68,[],math_bits_Mul.sp N)]
noncomputable def loop8:Code:=codeAt code [1,1,1,1,1,1,0,0]
noncomputable def body8:Code:=codeAt loop8 [0]
noncomputable def K8 (N:Nat) (o0:Orc E R):KT E R:=kAt T (G N) live [] o0 code [1,1,1,1,1,1,0,0] (kfin T Tryz.f53 (sp N))
noncomputable def St8 (a0:List Int) (a1:Int):(Int×(List Int))→St E
 | (v0,v1)=>{ ρ:=[(7,.c (.at (.own 0))),(8,.c (.at (.int .i64 v0)))],H:=[(0,.row 3 (.int .i64) v1 false)],nx:=1,n:=48,pin:=[] }
theorem run (N:Nat) (o0:Orc E R) (a0:List Int) (a1:Int):runF T (G N) live [] Tryz.f53 code (sp N) o0 (a0,a1,())=m0 N a0 a1 (fun a=>o0 loop8 (K8 N o0) (St8 a0 a1 a)):=by kernel_rfl
theorem body8_0 (N:Nat) (o0:Orc E R) (o1:Orc E R) (q1:St E→Option R) (a0:List Int) (a1:Int) (v0:Int) (v1:List Int):runA T (G N) live [] o1 body8 (St8 a0 a1 (v0,v1)) (kloop [7,8] q1 (K8 N o0))=step8 N a0 a1 (fun a=>q1 (St8 a0 a1 a)) (v0,v1):=by kernel_rfl
theorem lp8_eq (N:Nat) (a0:List Int) (a1:Int) (a:Int×(List Int)):(orc T (G N) live [] N 2) loop8 (K8 N (orc T (G N) live [] N 2)) (St8 a0 a1 a)=lp8 N a0 a1 a:=
 (orc_loop (b:=body8) (live:=[7,8]) (by kernel_rfl)).trans (iter_eq (St8 a0 a1) _ _ (fun q1 a=>by
  have hc:=congrFun (congrFun (rfl:(step8 N a0 a1)=(step8 N a0 a1)) (fun a=>q1 (St8 a0 a1 a))) a
  obtain ⟨u0,u1⟩:=a
  exact (body8_0 N (orc T (G N) live [] N 2) (orc T (G N) live [] N 1) q1 a0 a1 u0 u1).trans hc) N a)
theorem G_ok (N:Nat):GamOK Tryz.prog (G N):=gam_ok (⟨math_bits_Mul.snd N,trivial⟩)
theorem snd (N:Nat):Sound Tryz.prog E 53 (sp N):=
 Mir.sound T_OK (G_ok N) mixed Tryz.func53 (c:=code) (by kernel_rfl) (by kernel_rfl) (sp N) (Nat.le_of_ble_eq_true (by kernel_rfl)) live [] (by
  rintro ⟨a0,a1,_⟩ r h
  exact ⟨N,2,((run N _ a0 a1).trans (congrArg (m0 N a0 a1) (funext fun a=>lp8_eq N a0 a1 a))).trans h⟩)
end slices_Repeat_int_int
namespace impl_Node_follow
noncomputable def code:Code:=Tryz.f34.body.getD .skip
abbrev live:Live:=[]
noncomputable def G (N:Nat):Ctx E:=gam [(53,[],slices_Repeat_int_int.sp N)]
theorem run (N:Nat) (o0:Orc E R) (a0:Node):runF T (G N) live [] Tryz.f34 code (sp N) o0 (a0,())=m N a0:=by kernel_rfl
theorem G_ok (N:Nat):GamOK Tryz.prog (G N):=gam_ok (⟨slices_Repeat_int_int.snd N,trivial⟩)
theorem snd (N:Nat):Sound Tryz.prog E 34 (sp N):=
 Mir.sound T_OK (G_ok N) mixed Tryz.func34 (c:=code) (by kernel_rfl) (by kernel_rfl) (sp N) (Nat.le_of_ble_eq_true (by kernel_rfl)) live [] (by
  rintro ⟨a0,_⟩ r h
  exact ⟨N,2,((run N _ a0).trans rfl).trans h⟩)
end impl_Node_follow
namespace impl_newNode
noncomputable def code:Code:=Tryz.f18.body.getD .skip
abbrev live:Live:=[]
noncomputable def G (N:Nat):Ctx E:=gam [(33,[],slices_Clone_int_int.sp N),(34,[],impl_Node_follow.sp N)]
theorem run (N:Nat) (o0:Orc E R) (a0:Int) (a1:List Int):runF T (G N) live [] Tryz.f18 code (sp N) o0 (a0,a1,())=m N a0 a1:=by kernel_rfl
theorem G_ok (N:Nat):GamOK Tryz.prog (G N):=gam_ok (⟨slices_Clone_int_int.snd N,impl_Node_follow.snd N,trivial⟩)
theorem snd (N:Nat):Sound Tryz.prog E 18 (sp N):=
 Mir.sound T_OK (G_ok N) mixed Tryz.func18 (c:=code) (by kernel_rfl) (by kernel_rfl) (sp N) (Nat.le_of_ble_eq_true (by kernel_rfl)) live [] (by
  rintro ⟨a0,a1,_⟩ r h
  exact ⟨N,2,((run N _ a0 a1).trans rfl).trans h⟩)
end impl_newNode
namespace impl_NewGroup
noncomputable def code:Code:=Tryz.f10.body.getD .skip
abbrev live:Live:=[(10,[2,4,5,24,25]),(5,[0,2,4,5,15,16])]
noncomputable def G (N:Nat):Ctx E:=gam [(17,[],impl_within.sp N),(18,[],impl_newNode.sp N)]
noncomputable def loop5:Code:=codeAt code [1,1,1,0,1,0]
noncomputable def body5:Code:=codeAt loop5 [0]
noncomputable def loop10:Code:=codeAt code [1,1,1,1,0,1,0]
noncomputable def body10:Code:=codeAt loop10 [0]
noncomputable def K5 (N:Nat) (o0:Orc E R):KT E R:=kAt T (G N) live [] o0 code [1,1,1,0,1,0] (kfin T Tryz.f10 (sp N))
noncomputable def St5 (a0:Int):(Int×Int×(List Int))→St E
 | (v1,v2,v3)=>{ ρ:=[(0,.c (.at (.int .i64 a0))),(2,.c (.at (.ptr 0 0))),(4,.c (.at (.ptr 1 0))),(5,.c (.at (.own 2))),(15,.c (.at (.int .i64 v1))),(16,.c (.at (.int .i64 v2)))],H:=[(0,.box 29 [.nils,.nils,.nils,.nils]),(1,.box 29 [.nils,.nils,.nils,.nils]),(2,.row 3 (.int .i64) v3 false)],nx:=3,n:=38,pin:=[] }
noncomputable def K10 (N:Nat) (o0:Orc E R):KT E R:=kAt T (G N) live [] o0 code [1,1,1,1,0,1,0] (kfin T Tryz.f10 (sp N))
noncomputable def St10 (a0:Int):A10→St E
 | .s0 v1 v2=>{ ρ:=[(2,.c (.at (.ptr 0 0))),(4,.c (.at (.ptr 1 0))),(5,.c (.at (.own 2))),(24,.c (.at (.int .i64 a0))),(25,.c (.at (.int .i64 v1)))],H:=[(0,.box 29 [.nils,.nils,.nils,.nils]),(1,.box 29 [.nils,.nils,.nils,.nils]),(2,.row 3 (.int .i64) v2 false)],nx:=3,n:=38,pin:=[] }
 | .s1 v1 v2 v3=>{ ρ:=[(2,.c (.at (.ptr 0 0))),(4,.c (.at (.ptr 1 0))),(5,.c (.at (.own 3))),(24,.c (.at (.int .i64 a0))),(25,.c (.at (.int .i64 v1)))],H:=[(0,.box 29 [.nils,.nils,.nils,.nils]),(1,.box 29 [.own 2,.nils,.nils,.nils]),(2,.row 39 (.st 39) v2 false),(3,.row 3 (.int .i64) v3 false)],nx:=4,n:=38,pin:=[] }
theorem run (N:Nat) (o0:Orc E R) (a0:Int):runF T (G N) live [] Tryz.f10 code (sp N) o0 (a0,())=m0 N a0 (fun a=>o0 loop5 (K5 N o0) (St5 a0 a)):=by kernel_rfl
theorem body5_0 (N:Nat) (o0:Orc E R) (o1:Orc E R) (q1:St E→Option R) (a0:Int) (v1:Int) (v2:Int) (v3:List Int):runA T (G N) live [] o1 body5 (St5 a0 (v1,v2,v3)) (kloop [0,2,4,5,15,16] q1 (K5 N o0))=step5 N a0 (fun a=>o0 loop10 (K10 N o0) (St10 a0 a)) (fun a=>q1 (St5 a0 a)) (v1,v2,v3):=by kernel_rfl
theorem body10_0 (N:Nat) (o0:Orc E R) (o1:Orc E R) (q1:St E→Option R) (a0:Int) (v1:Int) (v2:List Int):runA T (G N) live [] o1 body10 (St10 a0 (.s0 v1 v2)) (kloop [2,4,5,24,25] q1 (K10 N o0))=step10 N a0 (fun a=>q1 (St10 a0 a)) (.s0 v1 v2):=by kernel_rfl
theorem body10_1 (N:Nat) (o0:Orc E R) (o1:Orc E R) (q1:St E→Option R) (a0:Int) (v1:Int) (v2:List Node) (v3:List Int):runA T (G N) live [] o1 body10 (St10 a0 (.s1 v1 v2 v3)) (kloop [2,4,5,24,25] q1 (K10 N o0))=step10 N a0 (fun a=>q1 (St10 a0 a)) (.s1 v1 v2 v3):=by kernel_rfl
theorem lp10_eq (N:Nat) (a0:Int) (a:A10):(orc T (G N) live [] N 2) loop10 (K10 N (orc T (G N) live [] N 2)) (St10 a0 a)=lp10 N a0 a:=
 (orc_loop (b:=body10) (live:=[2,4,5,24,25]) (by kernel_rfl)).trans (iter_eq (St10 a0) _ _ (fun q1 a=>by
  have hc:=congrFun (congrFun (rfl:(step10 N a0)=(step10 N a0)) (fun a=>q1 (St10 a0 a))) a
  cases a with
  | s0 u0 u1=>exact (body10_0 N (orc T (G N) live [] N 2) (orc T (G N) live [] N 1) q1 a0 u0 u1).trans hc
  | s1 u0 u1 u2=>exact (body10_1 N (orc T (G N) live [] N 2) (orc T (G N) live [] N 1) q1 a0 u0 u1 u2).trans hc) N a)
theorem lp5_eq (N:Nat) (a0:Int) (a:Int×Int×(List Int)):(orc T (G N) live [] N 2) loop5 (K5 N (orc T (G N) live [] N 2)) (St5 a0 a)=lp5 N a0 a:=
 (orc_loop (b:=body5) (live:=[0,2,4,5,15,16]) (by kernel_rfl)).trans (iter_eq (St5 a0) _ _ (fun q1 a=>by
  have hc:=congrFun (congrFun (congrArg (step5 N a0) (funext fun a=>lp10_eq N a0 a)) (fun a=>q1 (St5 a0 a))) a
  obtain ⟨u0,u1,u2⟩:=a
  exact (body5_0 N (orc T (G N) live [] N 2) (orc T (G N) live [] N 1) q1 a0 u0 u1 u2).trans hc) N a)
theorem G_ok (N:Nat):GamOK Tryz.prog (G N):=gam_ok (⟨impl_within.snd N,impl_newNode.snd N,trivial⟩)
theorem snd (N:Nat):Sound Tryz.prog E 10 (sp N):=
 Mir.sound T_OK (G_ok N) mixed Tryz.func10 (c:=code) (by kernel_rfl) (by kernel_rfl) (sp N) (Nat.le_of_ble_eq_true (by kernel_rfl)) live [] (by
  rintro ⟨a0,_⟩ r h
  exact ⟨N,2,((run N _ a0).trans (congrArg (m0 N a0) (funext fun a=>lp5_eq N a0 a))).trans h⟩)
end impl_NewGroup
namespace slices_Clone_impl_Done_impl_Done
noncomputable def code:Code:=Tryz.f35.body.getD .skip
abbrev live:Live:=[]
noncomputable def G (N:Nat):Ctx E:=gam []
theorem run (N:Nat) (o0:Orc E R) (a0:List Done):runF T (G N) live [] Tryz.f35 code (sp N) o0 (a0,())=m N a0:=by kernel_rfl
theorem G_ok (N:Nat):GamOK Tryz.prog (G N):=gam_ok (trivial)
theorem snd (N:Nat):Sound Tryz.prog E 35 (sp N):=
 Mir.sound T_OK (G_ok N) mixed Tryz.func35 (c:=code) (by kernel_rfl) (by kernel_rfl) (sp N) (Nat.le_of_ble_eq_true (by kernel_rfl)) live [] (by
  rintro ⟨a0,_⟩ r h
  exact ⟨N,2,((run N _ a0).trans rfl).trans h⟩)
end slices_Clone_impl_Done_impl_Done
namespace slices_Clone_impl_Entry_impl_Entry
noncomputable def code:Code:=Tryz.f38.body.getD .skip
abbrev live:Live:=[]
noncomputable def G (N:Nat):Ctx E:=gam []
theorem run (N:Nat) (o0:Orc E R) (a0:List Entry):runF T (G N) live [] Tryz.f38 code (sp N) o0 (a0,())=m N a0:=by kernel_rfl
theorem G_ok (N:Nat):GamOK Tryz.prog (G N):=gam_ok (trivial)
theorem snd (N:Nat):Sound Tryz.prog E 38 (sp N):=
 Mir.sound T_OK (G_ok N) mixed Tryz.func38 (c:=code) (by kernel_rfl) (by kernel_rfl) (sp N) (Nat.le_of_ble_eq_true (by kernel_rfl)) live [] (by
  rintro ⟨a0,_⟩ r h
  exact ⟨N,2,((run N _ a0).trans rfl).trans h⟩)
end slices_Clone_impl_Entry_impl_Entry
namespace impl_copyNode
noncomputable def code:Code:=Tryz.f36.body.getD .skip
abbrev live:Live:=[]
noncomputable def G (N:Nat):Ctx E:=gam [(38,[],slices_Clone_impl_Entry_impl_Entry.sp N),(33,[],slices_Clone_int_int.sp N)]
theorem run (N:Nat) (o0:Orc E R) (a0:Node):runF T (G N) live [] Tryz.f36 code (sp N) o0 (a0,())=m N a0:=by kernel_rfl
theorem G_ok (N:Nat):GamOK Tryz.prog (G N):=gam_ok (⟨slices_Clone_impl_Entry_impl_Entry.snd N,slices_Clone_int_int.snd N,trivial⟩)
theorem snd (N:Nat):Sound Tryz.prog E 36 (sp N):=
 Mir.sound T_OK (G_ok N) mixed Tryz.func36 (c:=code) (by kernel_rfl) (by kernel_rfl) (sp N) (Nat.le_of_ble_eq_true (by kernel_rfl)) live [] (by
  rintro ⟨a0,_⟩ r h
  exact ⟨N,2,((run N _ a0).trans rfl).trans h⟩)
end impl_copyNode
namespace impl_copyMessage
noncomputable def code:Code:=Tryz.f37.body.getD .skip
abbrev live:Live:=[]
noncomputable def G (N:Nat):Ctx E:=gam [(38,[],slices_Clone_impl_Entry_impl_Entry.sp N)]
theorem run (N:Nat) (o0:Orc E R) (a0:Message):runF T (G N) live [] Tryz.f37 code (sp N) o0 (a0,())=m N a0:=by kernel_rfl
theorem G_ok (N:Nat):GamOK Tryz.prog (G N):=gam_ok (⟨slices_Clone_impl_Entry_impl_Entry.snd N,trivial⟩)
theorem snd (N:Nat):Sound Tryz.prog E 37 (sp N):=
 Mir.sound T_OK (G_ok N) mixed Tryz.func37 (c:=code) (by kernel_rfl) (by kernel_rfl) (sp N) (Nat.le_of_ble_eq_true (by kernel_rfl)) live [] (by
  rintro ⟨a0,_⟩ r h
  exact ⟨N,2,((run N _ a0).trans rfl).trans h⟩)
end impl_copyMessage
namespace impl_copyGroup
noncomputable def code:Code:=Tryz.f19.body.getD .skip
abbrev live:Live:=[(13,[2,3,45,46,47]),(8,[1,2,3,30,31,32]),(3,[1,2,3,15,16,17])]
noncomputable def G (N:Nat):Ctx E:=gam [(35,[],slices_Clone_impl_Done_impl_Done.sp N),(36,[],impl_copyNode.sp N),(37,[],impl_copyMessage.sp N),(38,[],slices_Clone_impl_Entry_impl_Entry.sp N)]
noncomputable def loop3:Code:=codeAt code [1,1,0,1,0]
noncomputable def body3:Code:=codeAt loop3 [0]
noncomputable def loop8:Code:=codeAt code [1,1,1,0,1,0]
noncomputable def body8:Code:=codeAt loop8 [0]
noncomputable def loop13:Code:=codeAt code [1,1,1,1,0,1,0]
noncomputable def body13:Code:=codeAt loop13 [0]
noncomputable def K3 (N:Nat) (o0:Orc E R):KT E R:=kAt T (G N) live [] o0 code [1,1,0,1,0] (kfin T Tryz.f19 (sp N))
noncomputable def St3 (a0:Group):A3→St E
 | .s0 v1 v2 v7=>{ ρ:=[(1,.c (.at (.ptr 0 0))),(2,.c (.at (.ptr 1 0))),(3,.c (.at (.ptr 2 0))),(15,.c (.at (.ro 39 (.st 39) a0.Nodes))),(16,.c (.at (.int .i64 v1))),(17,.c (.at (.int .i64 v2)))],H:=[(0,.box 29 [.ro 39 (.st 39) a0.Nodes,.ro 74 (.st 74) a0.Wire,.ro 67 (.st 67) a0.Leads,.ro 70 (.st 70) a0.Dones]),(1,.box 29 [.nils,.nils,.nils,.nils]),(2,.box 29 [.nils,.nils,.nils,.own 3]),(3,.row 70 (.st 70) v7 false)],nx:=4,n:=66,pin:=[] }
 | .s1 v1 v2 v7 v8=>{ ρ:=[(1,.c (.at (.ptr 0 0))),(2,.c (.at (.ptr 1 0))),(3,.c (.at (.ptr 2 0))),(15,.c (.at (.ro 39 (.st 39) a0.Nodes))),(16,.c (.at (.int .i64 v1))),(17,.c (.at (.int .i64 v2)))],H:=[(0,.box 29 [.ro 39 (.st 39) a0.Nodes,.ro 74 (.st 74) a0.Wire,.ro 67 (.st 67) a0.Leads,.ro 70 (.st 70) a0.Dones]),(1,.box 29 [.nils,.nils,.nils,.nils]),(2,.box 29 [.own 3,.nils,.nils,.own 4]),(3,.row 39 (.st 39) v7 false),(4,.row 70 (.st 70) v8 false)],nx:=5,n:=66,pin:=[] }
noncomputable def K8 (N:Nat) (o0:Orc E R):KT E R:=kAt T (G N) live [] o0 code [1,1,1,0,1,0] (kfin T Tryz.f19 (sp N))
noncomputable def St8 (a0:Group):A8→St E
 | .s0 v1 v2 v7=>{ ρ:=[(1,.c (.at (.ptr 0 0))),(2,.c (.at (.ptr 1 0))),(3,.c (.at (.ptr 2 0))),(30,.c (.at (.ro 74 (.st 74) a0.Wire))),(31,.c (.at (.int .i64 v1))),(32,.c (.at (.int .i64 v2)))],H:=[(0,.box 29 [.ro 39 (.st 39) a0.Nodes,.ro 74 (.st 74) a0.Wire,.ro 67 (.st 67) a0.Leads,.ro 70 (.st 70) a0.Dones]),(1,.box 29 [.nils,.nils,.nils,.nils]),(2,.box 29 [.nils,.nils,.nils,.own 3]),(3,.row 70 (.st 70) v7 false)],nx:=4,n:=66,pin:=[] }
 | .s1 v1 v2 v7 v8=>{ ρ:=[(1,.c (.at (.ptr 0 0))),(2,.c (.at (.ptr 1 0))),(3,.c (.at (.ptr 2 0))),(30,.c (.at (.ro 74 (.st 74) a0.Wire))),(31,.c (.at (.int .i64 v1))),(32,.c (.at (.int .i64 v2)))],H:=[(0,.box 29 [.ro 39 (.st 39) a0.Nodes,.ro 74 (.st 74) a0.Wire,.ro 67 (.st 67) a0.Leads,.ro 70 (.st 70) a0.Dones]),(1,.box 29 [.nils,.nils,.nils,.nils]),(2,.box 29 [.own 3,.nils,.nils,.own 4]),(3,.row 39 (.st 39) v7 false),(4,.row 70 (.st 70) v8 false)],nx:=5,n:=66,pin:=[] }
 | .s2 v1 v2 v7 v8=>{ ρ:=[(1,.c (.at (.ptr 0 0))),(2,.c (.at (.ptr 1 0))),(3,.c (.at (.ptr 2 0))),(30,.c (.at (.ro 74 (.st 74) a0.Wire))),(31,.c (.at (.int .i64 v1))),(32,.c (.at (.int .i64 v2)))],H:=[(0,.box 29 [.ro 39 (.st 39) a0.Nodes,.ro 74 (.st 74) a0.Wire,.ro 67 (.st 67) a0.Leads,.ro 70 (.st 70) a0.Dones]),(1,.box 29 [.nils,.nils,.nils,.nils]),(2,.box 29 [.nils,.own 3,.nils,.own 4]),(3,.row 74 (.st 74) v7 false),(4,.row 70 (.st 70) v8 false)],nx:=5,n:=66,pin:=[] }
 | .s3 v1 v2 v7 v8 v9=>{ ρ:=[(1,.c (.at (.ptr 0 0))),(2,.c (.at (.ptr 1 0))),(3,.c (.at (.ptr 2 0))),(30,.c (.at (.ro 74 (.st 74) a0.Wire))),(31,.c (.at (.int .i64 v1))),(32,.c (.at (.int .i64 v2)))],H:=[(0,.box 29 [.ro 39 (.st 39) a0.Nodes,.ro 74 (.st 74) a0.Wire,.ro 67 (.st 67) a0.Leads,.ro 70 (.st 70) a0.Dones]),(1,.box 29 [.nils,.nils,.nils,.nils]),(2,.box 29 [.own 3,.own 4,.nils,.own 5]),(3,.row 39 (.st 39) v7 false),(4,.row 74 (.st 74) v8 false),(5,.row 70 (.st 70) v9 false)],nx:=6,n:=66,pin:=[] }
noncomputable def K13 (N:Nat) (o0:Orc E R):KT E R:=kAt T (G N) live [] o0 code [1,1,1,1,0,1,0] (kfin T Tryz.f19 (sp N))
noncomputable def St13 (a0:Group):A13→St E
 | .s0 v1 v2 v3=>{ ρ:=[(2,.c (.at (.ptr 0 0))),(3,.c (.at (.ptr 1 0))),(45,.c (.at (.ro 67 (.st 67) a0.Leads))),(46,.c (.at (.int .i64 v1))),(47,.c (.at (.int .i64 v2)))],H:=[(0,.box 29 [.nils,.nils,.nils,.nils]),(1,.box 29 [.nils,.nils,.nils,.own 2]),(2,.row 70 (.st 70) v3 false)],nx:=3,n:=66,pin:=[] }
 | .s1 v1 v2 v3 v4=>{ ρ:=[(2,.c (.at (.ptr 0 0))),(3,.c (.at (.ptr 1 0))),(45,.c (.at (.ro 67 (.st 67) a0.Leads))),(46,.c (.at (.int .i64 v1))),(47,.c (.at (.int .i64 v2)))],H:=[(0,.box 29 [.nils,.nils,.nils,.nils]),(1,.box 29 [.own 2,.nils,.nils,.own 3]),(2,.row 39 (.st 39) v3 false),(3,.row 70 (.st 70) v4 false)],nx:=4,n:=66,pin:=[] }
 | .s2 v1 v2 v3 v4=>{ ρ:=[(2,.c (.at (.ptr 0 0))),(3,.c (.at (.ptr 1 0))),(45,.c (.at (.ro 67 (.st 67) a0.Leads))),(46,.c (.at (.int .i64 v1))),(47,.c (.at (.int .i64 v2)))],H:=[(0,.box 29 [.nils,.nils,.nils,.nils]),(1,.box 29 [.nils,.own 2,.nils,.own 3]),(2,.row 74 (.st 74) v3 false),(3,.row 70 (.st 70) v4 false)],nx:=4,n:=66,pin:=[] }
 | .s3 v1 v2 v3 v4=>{ ρ:=[(2,.c (.at (.ptr 0 0))),(3,.c (.at (.ptr 1 0))),(45,.c (.at (.ro 67 (.st 67) a0.Leads))),(46,.c (.at (.int .i64 v1))),(47,.c (.at (.int .i64 v2)))],H:=[(0,.box 29 [.nils,.nils,.nils,.nils]),(1,.box 29 [.nils,.nils,.own 2,.own 3]),(2,.row 67 (.st 67) v3 false),(3,.row 70 (.st 70) v4 false)],nx:=4,n:=66,pin:=[] }
 | .s4 v1 v2 v3 v4 v5=>{ ρ:=[(2,.c (.at (.ptr 0 0))),(3,.c (.at (.ptr 1 0))),(45,.c (.at (.ro 67 (.st 67) a0.Leads))),(46,.c (.at (.int .i64 v1))),(47,.c (.at (.int .i64 v2)))],H:=[(0,.box 29 [.nils,.nils,.nils,.nils]),(1,.box 29 [.own 2,.own 3,.nils,.own 4]),(2,.row 39 (.st 39) v3 false),(3,.row 74 (.st 74) v4 false),(4,.row 70 (.st 70) v5 false)],nx:=5,n:=66,pin:=[] }
 | .s5 v1 v2 v3 v4 v5=>{ ρ:=[(2,.c (.at (.ptr 0 0))),(3,.c (.at (.ptr 1 0))),(45,.c (.at (.ro 67 (.st 67) a0.Leads))),(46,.c (.at (.int .i64 v1))),(47,.c (.at (.int .i64 v2)))],H:=[(0,.box 29 [.nils,.nils,.nils,.nils]),(1,.box 29 [.own 2,.nils,.own 3,.own 4]),(2,.row 39 (.st 39) v3 false),(3,.row 67 (.st 67) v4 false),(4,.row 70 (.st 70) v5 false)],nx:=5,n:=66,pin:=[] }
 | .s6 v1 v2 v3 v4 v5=>{ ρ:=[(2,.c (.at (.ptr 0 0))),(3,.c (.at (.ptr 1 0))),(45,.c (.at (.ro 67 (.st 67) a0.Leads))),(46,.c (.at (.int .i64 v1))),(47,.c (.at (.int .i64 v2)))],H:=[(0,.box 29 [.nils,.nils,.nils,.nils]),(1,.box 29 [.nils,.own 2,.own 3,.own 4]),(2,.row 74 (.st 74) v3 false),(3,.row 67 (.st 67) v4 false),(4,.row 70 (.st 70) v5 false)],nx:=5,n:=66,pin:=[] }
 | .s7 v1 v2 v3 v4 v5 v6=>{ ρ:=[(2,.c (.at (.ptr 0 0))),(3,.c (.at (.ptr 1 0))),(45,.c (.at (.ro 67 (.st 67) a0.Leads))),(46,.c (.at (.int .i64 v1))),(47,.c (.at (.int .i64 v2)))],H:=[(0,.box 29 [.nils,.nils,.nils,.nils]),(1,.box 29 [.own 2,.own 3,.own 4,.own 5]),(2,.row 39 (.st 39) v3 false),(3,.row 74 (.st 74) v4 false),(4,.row 67 (.st 67) v5 false),(5,.row 70 (.st 70) v6 false)],nx:=6,n:=66,pin:=[] }
theorem run (N:Nat) (o0:Orc E R) (a0:Group):runF T (G N) live [] Tryz.f19 code (sp N) o0 (a0,())=m0 N a0 (fun a=>o0 loop3 (K3 N o0) (St3 a0 a)):=by kernel_rfl
theorem body3_0 (N:Nat) (o0:Orc E R) (o1:Orc E R) (q1:St E→Option R) (a0:Group) (v1:Int) (v2:Int) (v7:List Done):runA T (G N) live [] o1 body3 (St3 a0 (.s0 v1 v2 v7)) (kloop [1,2,3,15,16,17] q1 (K3 N o0))=step3 N a0 (fun a=>o0 loop8 (K8 N o0) (St8 a0 a)) (fun a=>q1 (St3 a0 a)) (.s0 v1 v2 v7):=by kernel_rfl
theorem body3_1 (N:Nat) (o0:Orc E R) (o1:Orc E R) (q1:St E→Option R) (a0:Group) (v1:Int) (v2:Int) (v7:List Node) (v8:List Done):runA T (G N) live [] o1 body3 (St3 a0 (.s1 v1 v2 v7 v8)) (kloop [1,2,3,15,16,17] q1 (K3 N o0))=step3 N a0 (fun a=>o0 loop8 (K8 N o0) (St8 a0 a)) (fun a=>q1 (St3 a0 a)) (.s1 v1 v2 v7 v8):=by kernel_rfl
theorem body8_0 (N:Nat) (o0:Orc E R) (o1:Orc E R) (q1:St E→Option R) (a0:Group) (v1:Int) (v2:Int) (v7:List Done):runA T (G N) live [] o1 body8 (St8 a0 (.s0 v1 v2 v7)) (kloop [1,2,3,30,31,32] q1 (K8 N o0))=step8 N a0 (fun a=>o0 loop13 (K13 N o0) (St13 a0 a)) (fun a=>q1 (St8 a0 a)) (.s0 v1 v2 v7):=by kernel_rfl
theorem body8_1 (N:Nat) (o0:Orc E R) (o1:Orc E R) (q1:St E→Option R) (a0:Group) (v1:Int) (v2:Int) (v7:List Node) (v8:List Done):runA T (G N) live [] o1 body8 (St8 a0 (.s1 v1 v2 v7 v8)) (kloop [1,2,3,30,31,32] q1 (K8 N o0))=step8 N a0 (fun a=>o0 loop13 (K13 N o0) (St13 a0 a)) (fun a=>q1 (St8 a0 a)) (.s1 v1 v2 v7 v8):=by kernel_rfl
theorem body8_2 (N:Nat) (o0:Orc E R) (o1:Orc E R) (q1:St E→Option R) (a0:Group) (v1:Int) (v2:Int) (v7:List Message) (v8:List Done):runA T (G N) live [] o1 body8 (St8 a0 (.s2 v1 v2 v7 v8)) (kloop [1,2,3,30,31,32] q1 (K8 N o0))=step8 N a0 (fun a=>o0 loop13 (K13 N o0) (St13 a0 a)) (fun a=>q1 (St8 a0 a)) (.s2 v1 v2 v7 v8):=by kernel_rfl
theorem body8_3 (N:Nat) (o0:Orc E R) (o1:Orc E R) (q1:St E→Option R) (a0:Group) (v1:Int) (v2:Int) (v7:List Node) (v8:List Message) (v9:List Done):runA T (G N) live [] o1 body8 (St8 a0 (.s3 v1 v2 v7 v8 v9)) (kloop [1,2,3,30,31,32] q1 (K8 N o0))=step8 N a0 (fun a=>o0 loop13 (K13 N o0) (St13 a0 a)) (fun a=>q1 (St8 a0 a)) (.s3 v1 v2 v7 v8 v9):=by kernel_rfl
theorem body13_0 (N:Nat) (o0:Orc E R) (o1:Orc E R) (q1:St E→Option R) (a0:Group) (v1:Int) (v2:Int) (v3:List Done):runA T (G N) live [] o1 body13 (St13 a0 (.s0 v1 v2 v3)) (kloop [2,3,45,46,47] q1 (K13 N o0))=step13 N a0 (fun a=>q1 (St13 a0 a)) (.s0 v1 v2 v3):=by kernel_rfl
theorem body13_1 (N:Nat) (o0:Orc E R) (o1:Orc E R) (q1:St E→Option R) (a0:Group) (v1:Int) (v2:Int) (v3:List Node) (v4:List Done):runA T (G N) live [] o1 body13 (St13 a0 (.s1 v1 v2 v3 v4)) (kloop [2,3,45,46,47] q1 (K13 N o0))=step13 N a0 (fun a=>q1 (St13 a0 a)) (.s1 v1 v2 v3 v4):=by kernel_rfl
theorem body13_2 (N:Nat) (o0:Orc E R) (o1:Orc E R) (q1:St E→Option R) (a0:Group) (v1:Int) (v2:Int) (v3:List Message) (v4:List Done):runA T (G N) live [] o1 body13 (St13 a0 (.s2 v1 v2 v3 v4)) (kloop [2,3,45,46,47] q1 (K13 N o0))=step13 N a0 (fun a=>q1 (St13 a0 a)) (.s2 v1 v2 v3 v4):=by kernel_rfl
theorem body13_3 (N:Nat) (o0:Orc E R) (o1:Orc E R) (q1:St E→Option R) (a0:Group) (v1:Int) (v2:Int) (v3:List Lead) (v4:List Done):runA T (G N) live [] o1 body13 (St13 a0 (.s3 v1 v2 v3 v4)) (kloop [2,3,45,46,47] q1 (K13 N o0))=step13 N a0 (fun a=>q1 (St13 a0 a)) (.s3 v1 v2 v3 v4):=by kernel_rfl
theorem body13_4 (N:Nat) (o0:Orc E R) (o1:Orc E R) (q1:St E→Option R) (a0:Group) (v1:Int) (v2:Int) (v3:List Node) (v4:List Message) (v5:List Done):runA T (G N) live [] o1 body13 (St13 a0 (.s4 v1 v2 v3 v4 v5)) (kloop [2,3,45,46,47] q1 (K13 N o0))=step13 N a0 (fun a=>q1 (St13 a0 a)) (.s4 v1 v2 v3 v4 v5):=by kernel_rfl
theorem body13_5 (N:Nat) (o0:Orc E R) (o1:Orc E R) (q1:St E→Option R) (a0:Group) (v1:Int) (v2:Int) (v3:List Node) (v4:List Lead) (v5:List Done):runA T (G N) live [] o1 body13 (St13 a0 (.s5 v1 v2 v3 v4 v5)) (kloop [2,3,45,46,47] q1 (K13 N o0))=step13 N a0 (fun a=>q1 (St13 a0 a)) (.s5 v1 v2 v3 v4 v5):=by kernel_rfl
theorem body13_6 (N:Nat) (o0:Orc E R) (o1:Orc E R) (q1:St E→Option R) (a0:Group) (v1:Int) (v2:Int) (v3:List Message) (v4:List Lead) (v5:List Done):runA T (G N) live [] o1 body13 (St13 a0 (.s6 v1 v2 v3 v4 v5)) (kloop [2,3,45,46,47] q1 (K13 N o0))=step13 N a0 (fun a=>q1 (St13 a0 a)) (.s6 v1 v2 v3 v4 v5):=by kernel_rfl
theorem body13_7 (N:Nat) (o0:Orc E R) (o1:Orc E R) (q1:St E→Option R) (a0:Group) (v1:Int) (v2:Int) (v3:List Node) (v4:List Message) (v5:List Lead) (v6:List Done):runA T (G N) live [] o1 body13 (St13 a0 (.s7 v1 v2 v3 v4 v5 v6)) (kloop [2,3,45,46,47] q1 (K13 N o0))=step13 N a0 (fun a=>q1 (St13 a0 a)) (.s7 v1 v2 v3 v4 v5 v6):=by kernel_rfl
theorem lp13_eq (N:Nat) (a0:Group) (a:A13):(orc T (G N) live [] N 2) loop13 (K13 N (orc T (G N) live [] N 2)) (St13 a0 a)=lp13 N a0 a:=
 (orc_loop (b:=body13) (live:=[2,3,45,46,47]) (by kernel_rfl)).trans (iter_eq (St13 a0) _ _ (fun q1 a=>by
  have hc:=congrFun (congrFun (rfl:(step13 N a0)=(step13 N a0)) (fun a=>q1 (St13 a0 a))) a
  cases a with
  | s0 u0 u1 u2=>exact (body13_0 N (orc T (G N) live [] N 2) (orc T (G N) live [] N 1) q1 a0 u0 u1 u2).trans hc
  | s1 u0 u1 u2 u3=>exact (body13_1 N (orc T (G N) live [] N 2) (orc T (G N) live [] N 1) q1 a0 u0 u1 u2 u3).trans hc
  | s2 u0 u1 u2 u3=>exact (body13_2 N (orc T (G N) live [] N 2) (orc T (G N) live [] N 1) q1 a0 u0 u1 u2 u3).trans hc
  | s3 u0 u1 u2 u3=>exact (body13_3 N (orc T (G N) live [] N 2) (orc T (G N) live [] N 1) q1 a0 u0 u1 u2 u3).trans hc
  | s4 u0 u1 u2 u3 u4=>exact (body13_4 N (orc T (G N) live [] N 2) (orc T (G N) live [] N 1) q1 a0 u0 u1 u2 u3 u4).trans hc
  | s5 u0 u1 u2 u3 u4=>exact (body13_5 N (orc T (G N) live [] N 2) (orc T (G N) live [] N 1) q1 a0 u0 u1 u2 u3 u4).trans hc
  | s6 u0 u1 u2 u3 u4=>exact (body13_6 N (orc T (G N) live [] N 2) (orc T (G N) live [] N 1) q1 a0 u0 u1 u2 u3 u4).trans hc
  | s7 u0 u1 u2 u3 u4 u5=>exact (body13_7 N (orc T (G N) live [] N 2) (orc T (G N) live [] N 1) q1 a0 u0 u1 u2 u3 u4 u5).trans hc) N a)
theorem lp8_eq (N:Nat) (a0:Group) (a:A8):(orc T (G N) live [] N 2) loop8 (K8 N (orc T (G N) live [] N 2)) (St8 a0 a)=lp8 N a0 a:=
 (orc_loop (b:=body8) (live:=[1,2,3,30,31,32]) (by kernel_rfl)).trans (iter_eq (St8 a0) _ _ (fun q1 a=>by
  have hc:=congrFun (congrFun (congrArg (step8 N a0) (funext fun a=>lp13_eq N a0 a)) (fun a=>q1 (St8 a0 a))) a
  cases a with
  | s0 u0 u1 u2=>exact (body8_0 N (orc T (G N) live [] N 2) (orc T (G N) live [] N 1) q1 a0 u0 u1 u2).trans hc
  | s1 u0 u1 u2 u3=>exact (body8_1 N (orc T (G N) live [] N 2) (orc T (G N) live [] N 1) q1 a0 u0 u1 u2 u3).trans hc
  | s2 u0 u1 u2 u3=>exact (body8_2 N (orc T (G N) live [] N 2) (orc T (G N) live [] N 1) q1 a0 u0 u1 u2 u3).trans hc
  | s3 u0 u1 u2 u3 u4=>exact (body8_3 N (orc T (G N) live [] N 2) (orc T (G N) live [] N 1) q1 a0 u0 u1 u2 u3 u4).trans hc) N a)
theorem lp3_eq (N:Nat) (a0:Group) (a:A3):(orc T (G N) live [] N 2) loop3 (K3 N (orc T (G N) live [] N 2)) (St3 a0 a)=lp3 N a0 a:=
 (orc_loop (b:=body3) (live:=[1,2,3,15,16,17]) (by kernel_rfl)).trans (iter_eq (St3 a0) _ _ (fun q1 a=>by
  have hc:=congrFun (congrFun (congrArg (step3 N a0) (funext fun a=>lp8_eq N a0 a)) (fun a=>q1 (St3 a0 a))) a
  cases a with
  | s0 u0 u1 u2=>exact (body3_0 N (orc T (G N) live [] N 2) (orc T (G N) live [] N 1) q1 a0 u0 u1 u2).trans hc
  | s1 u0 u1 u2 u3=>exact (body3_1 N (orc T (G N) live [] N 2) (orc T (G N) live [] N 1) q1 a0 u0 u1 u2 u3).trans hc) N a)
theorem G_ok (N:Nat):GamOK Tryz.prog (G N):=gam_ok (⟨slices_Clone_impl_Done_impl_Done.snd N,impl_copyNode.snd N,impl_copyMessage.snd N,slices_Clone_impl_Entry_impl_Entry.snd N,trivial⟩)
theorem snd (N:Nat):Sound Tryz.prog E 19 (sp N):=
 Mir.sound T_OK (G_ok N) mixed Tryz.func19 (c:=code) (by kernel_rfl) (by kernel_rfl) (sp N) (Nat.le_of_ble_eq_true (by kernel_rfl)) live [] (by
  rintro ⟨a0,_⟩ r h
  exact ⟨N,2,((run N _ a0).trans (congrArg (m0 N a0) (funext fun a=>lp3_eq N a0 a))).trans h⟩)
end impl_copyGroup
namespace slices_Delete_impl_Message
theorem snd (N:Nat):Sound Tryz.prog E 54 (sp N):=
 delete_sound (E:=E) (ty:=(.st 74)) (fun args W=>run_callFunc_go Tryz.func54 (c:=Tryz.f54.body.getD .skip) (by kernel_rfl) (by kernel_rfl) args W) Tryz.underlying25 (i:=Tryz.t74) (by kernel_rfl) (z:=Tryz.t74.zero.getD undef) (by kernel_rfl) (by kernel_rfl) (by kernel_rfl) (fun v hv=>List.all_eq_true.1 (show (Tryz.t74.zero.getD undef).cells.toList.all Value.oneCell'=true by kernel_rfl) v hv) Go.Proofs.DelW54.del
end slices_Delete_impl_Message
namespace impl_isNumber
noncomputable def code:Code:=Tryz.f45.body.getD .skip
abbrev live:Live:=[]
noncomputable def G (N:Nat):Ctx E:=gam [(17,[],impl_within.sp N)]
theorem run (N:Nat) (o0:Orc E R) (a0:Int):runF T (G N) live [] Tryz.f45 code (sp N) o0 (a0,())=m N a0:=by kernel_rfl
theorem G_ok (N:Nat):GamOK Tryz.prog (G N):=gam_ok (⟨impl_within.snd N,trivial⟩)
theorem snd (N:Nat):Sound Tryz.prog E 45 (sp N):=
 Mir.sound T_OK (G_ok N) mixed Tryz.func45 (c:=code) (by kernel_rfl) (by kernel_rfl) (sp N) (Nat.le_of_ble_eq_true (by kernel_rfl)) live [] (by
  rintro ⟨a0,_⟩ r h
  exact ⟨N,2,((run N _ a0).trans rfl).trans h⟩)
end impl_isNumber
namespace impl_areNumbers_1
noncomputable def code:Code:=Tryz.f66.body.getD .skip
abbrev live:Live:=[]
noncomputable def G (N:Nat):Ctx E:=gam [(17,[],impl_within.sp N)]
theorem run (N:Nat) (o0:Orc E R) (a0:Int):runF T (G N) live [] Tryz.f66 code (sp N) o0 (a0,())=m N a0:=by kernel_rfl
theorem G_ok (N:Nat):GamOK Tryz.prog (G N):=gam_ok (⟨impl_within.snd N,trivial⟩)
theorem snd (N:Nat):Sound Tryz.prog E 66 (sp N):=
 Mir.sound T_OK (G_ok N) mixed Tryz.func66 (c:=code) (by kernel_rfl) (by kernel_rfl) (sp N) (Nat.le_of_ble_eq_true (by kernel_rfl)) live [] (by
  rintro ⟨a0,_⟩ r h
  exact ⟨N,2,((run N _ a0).trans rfl).trans h⟩)
end impl_areNumbers_1
namespace slices_IndexFunc_int_int__impl_areNumbers_1
noncomputable def code:Code:=Tryz.f77.body.getD .skip
abbrev live:Live:=[(2,[0,1,7,8])]
noncomputable def G (N:Nat):Ctx E:=gam [(66,[],impl_areNumbers_1.sp N)]
noncomputable def loop2:Code:=codeAt code [1,0,1,0]
noncomputable def body2:Code:=codeAt loop2 [0]
noncomputable def K2 (N:Nat) (o0:Orc E R):KT E R:=kAt T (G N) live [] o0 code [1,0,1,0] (kfin T Tryz.f77 (sp N))
noncomputable def St2 (a0:List Int):(Int×Int)→St E
 | (v1,v2)=>{ ρ:=[(0,.c (.at (.ro 3 (.int .i64) a0))),(1,.clo 66 []),(7,.c (.at (.int .i64 v1))),(8,.c (.at (.int .i64 v2)))],H:=[],nx:=0,n:=19,pin:=[] }
theorem run (N:Nat) (o0:Orc E R) (a0:List Int):runF T (G N) live [] Tryz.f77 code (sp N) o0 (a0,(),())=m0 N a0 (fun a=>o0 loop2 (K2 N o0) (St2 a0 a)):=by kernel_rfl
theorem body2_0 (N:Nat) (o0:Orc E R) (o1:Orc E R) (q1:St E→Option R) (a0:List Int) (v1:Int) (v2:Int):runA T (G N) live [] o1 body2 (St2 a0 (v1,v2)) (kloop [0,1,7,8] q1 (K2 N o0))=step2 N a0 (fun a=>q1 (St2 a0 a)) (v1,v2):=by kernel_rfl
theorem lp2_eq (N:Nat) (a0:List Int) (a:Int×Int):(orc T (G N) live [] N 2) loop2 (K2 N (orc T (G N) live [] N 2)) (St2 a0 a)=lp2 N a0 a:=
 (orc_loop (b:=body2) (live:=[0,1,7,8]) (by kernel_rfl)).trans (iter_eq (St2 a0) _ _ (fun q1 a=>by
  have hc:=congrFun (congrFun (rfl:(step2 N a0)=(step2 N a0)) (fun a=>q1 (St2 a0 a))) a
  obtain ⟨u0,u1⟩:=a
  exact (body2_0 N (orc T (G N) live [] N 2) (orc T (G N) live [] N 1) q1 a0 u0 u1).trans hc) N a)
theorem G_ok (N:Nat):GamOK Tryz.prog (G N):=gam_ok (⟨impl_areNumbers_1.snd N,trivial⟩)
theorem snd (N:Nat):Sound Tryz.prog E 77 (sp N):=
 Mir.sound T_OK (G_ok N) mixed Tryz.func77 (c:=code) (by kernel_rfl) (by kernel_rfl) (sp N) (Nat.le_of_ble_eq_true (by kernel_rfl)) live [] (by
  rintro ⟨a0,_,_⟩ r h
  exact ⟨N,2,((run N _ a0).trans (congrArg (m0 N a0) (funext fun a=>lp2_eq N a0 a))).trans h⟩)
end slices_IndexFunc_int_int__impl_areNumbers_1
namespace slices_ContainsFunc_int_int__impl_areNumbers_1
noncomputable def code:Code:=Tryz.f65.body.getD .skip
abbrev live:Live:=[]
noncomputable def G (N:Nat):Ctx E:=gam [(77,[66],slices_IndexFunc_int_int__impl_areNumbers_1.sp N)]
theorem run (N:Nat) (o0:Orc E R) (a0:List Int):runF T (G N) live [] Tryz.f65 code (sp N) o0 (a0,(),())=m N a0:=by kernel_rfl
theorem G_ok (N:Nat):GamOK Tryz.prog (G N):=gam_ok (⟨slices_IndexFunc_int_int__impl_areNumbers_1.snd N,trivial⟩)
theorem snd (N:Nat):Sound Tryz.prog E 65 (sp N):=
 Mir.sound T_OK (G_ok N) mixed Tryz.func65 (c:=code) (by kernel_rfl) (by kernel_rfl) (sp N) (Nat.le_of_ble_eq_true (by kernel_rfl)) live [] (by
  rintro ⟨a0,_,_⟩ r h
  exact ⟨N,2,((run N _ a0).trans rfl).trans h⟩)
end slices_ContainsFunc_int_int__impl_areNumbers_1
namespace impl_areNumbers
noncomputable def code:Code:=Tryz.f48.body.getD .skip
abbrev live:Live:=[]
noncomputable def G (N:Nat):Ctx E:=gam [(65,[66],slices_ContainsFunc_int_int__impl_areNumbers_1.sp N)]
theorem run (N:Nat) (o0:Orc E R) (a0:List Int):runF T (G N) live [] Tryz.f48 code (sp N) o0 (a0,())=m N a0:=by kernel_rfl
theorem G_ok (N:Nat):GamOK Tryz.prog (G N):=gam_ok (⟨slices_ContainsFunc_int_int__impl_areNumbers_1.snd N,trivial⟩)
theorem snd (N:Nat):Sound Tryz.prog E 48 (sp N):=
 Mir.sound T_OK (G_ok N) mixed Tryz.func48 (c:=code) (by kernel_rfl) (by kernel_rfl) (sp N) (Nat.le_of_ble_eq_true (by kernel_rfl)) live [] (by
  rintro ⟨a0,_⟩ r h
  exact ⟨N,2,((run N _ a0).trans rfl).trans h⟩)
end impl_areNumbers
namespace impl_areRising
noncomputable def code:Code:=Tryz.f49.body.getD .skip
abbrev live:Live:=[(2,[0,3])]
noncomputable def G (N:Nat):Ctx E:=gam []
noncomputable def loop2:Code:=codeAt code [1,0,1,0]
noncomputable def body2:Code:=codeAt loop2 [0]
noncomputable def K2 (N:Nat) (o0:Orc E R):KT E R:=kAt T (G N) live [] o0 code [1,0,1,0] (kfin T Tryz.f49 (sp N))
noncomputable def St2 (a0:List Int):Int→St E
 | v1=>{ ρ:=[(0,.c (.at (.ro 3 (.int .i64) a0))),(3,.c (.at (.int .i64 v1)))],H:=[],nx:=0,n:=20,pin:=[] }
theorem run (N:Nat) (o0:Orc E R) (a0:List Int):runF T (G N) live [] Tryz.f49 code (sp N) o0 (a0,())=m0 N a0 (fun a=>o0 loop2 (K2 N o0) (St2 a0 a)):=by kernel_rfl
theorem body2_0 (N:Nat) (o0:Orc E R) (o1:Orc E R) (q1:St E→Option R) (a0:List Int) (v1:Int):runA T (G N) live [] o1 body2 (St2 a0 v1) (kloop [0,3] q1 (K2 N o0))=step2 N a0 (fun a=>q1 (St2 a0 a)) v1:=by kernel_rfl
theorem lp2_eq (N:Nat) (a0:List Int) (a:Int):(orc T (G N) live [] N 2) loop2 (K2 N (orc T (G N) live [] N 2)) (St2 a0 a)=lp2 N a0 a:=
 (orc_loop (b:=body2) (live:=[0,3]) (by kernel_rfl)).trans (iter_eq (St2 a0) _ _ (fun q1 a=>by
  have hc:=congrFun (congrFun (rfl:(step2 N a0)=(step2 N a0)) (fun a=>q1 (St2 a0 a))) a
  exact (body2_0 N (orc T (G N) live [] N 2) (orc T (G N) live [] N 1) q1 a0 a).trans hc) N a)
theorem G_ok (N:Nat):GamOK Tryz.prog (G N):=gam_ok (trivial)
theorem snd (N:Nat):Sound Tryz.prog E 49 (sp N):=
 Mir.sound T_OK (G_ok N) mixed Tryz.func49 (c:=code) (by kernel_rfl) (by kernel_rfl) (sp N) (Nat.le_of_ble_eq_true (by kernel_rfl)) live [] (by
  rintro ⟨a0,_⟩ r h
  exact ⟨N,2,((run N _ a0).trans (congrArg (m0 N a0) (funext fun a=>lp2_eq N a0 a))).trans h⟩)
end impl_areRising
namespace impl_membersOK
noncomputable def code:Code:=Tryz.f47.body.getD .skip
abbrev live:Live:=[]
noncomputable def G (N:Nat):Ctx E:=gam [(48,[],impl_areNumbers.sp N),(49,[],impl_areRising.sp N)]
theorem run (N:Nat) (o0:Orc E R) (a0:List Int):runF T (G N) live [] Tryz.f47 code (sp N) o0 (a0,())=m N a0:=by kernel_rfl
theorem G_ok (N:Nat):GamOK Tryz.prog (G N):=gam_ok (⟨impl_areNumbers.snd N,impl_areRising.snd N,trivial⟩)
theorem snd (N:Nat):Sound Tryz.prog E 47 (sp N):=
 Mir.sound T_OK (G_ok N) mixed Tryz.func47 (c:=code) (by kernel_rfl) (by kernel_rfl) (sp N) (Nat.le_of_ble_eq_true (by kernel_rfl)) live [] (by
  rintro ⟨a0,_⟩ r h
  exact ⟨N,2,((run N _ a0).trans rfl).trans h⟩)
end impl_membersOK
namespace impl_readMembers
noncomputable def code:Code:=Tryz.f75.body.getD .skip
abbrev live:Live:=[(3,[0,4,8,9])]
noncomputable def G (N:Nat):Ctx E:=gam [(47,[],impl_membersOK.sp N)]
noncomputable def loop3:Code:=codeAt code [1,1,0,1,0]
noncomputable def body3:Code:=codeAt loop3 [0]
noncomputable def K3 (N:Nat) (o0:Orc E R):KT E R:=kAt T (G N) live [] o0 code [1,1,0,1,0] (kfin T Tryz.f75 (sp N))
noncomputable def St3 (a0:ByteArray):(Int×Int×(List Int))→St E
 | (v1,v2,v3)=>{ ρ:=[(0,.c (.at (.str a0))),(4,.c (.at (.own 0))),(8,.c (.at (.int .i64 v1))),(9,.c (.at (.int .i64 v2)))],H:=[(0,.row 3 (.int .i64) v3 false)],nx:=1,n:=23,pin:=[] }
theorem run (N:Nat) (o0:Orc E R) (a0:ByteArray):runF T (G N) live [] Tryz.f75 code (sp N) o0 (a0,())=m0 N a0 (fun a=>o0 loop3 (K3 N o0) (St3 a0 a)):=by kernel_rfl
theorem body3_0 (N:Nat) (o0:Orc E R) (o1:Orc E R) (q1:St E→Option R) (a0:ByteArray) (v1:Int) (v2:Int) (v3:List Int):runA T (G N) live [] o1 body3 (St3 a0 (v1,v2,v3)) (kloop [0,4,8,9] q1 (K3 N o0))=step3 N a0 (fun a=>q1 (St3 a0 a)) (v1,v2,v3):=by kernel_rfl
theorem lp3_eq (N:Nat) (a0:ByteArray) (a:Int×Int×(List Int)):(orc T (G N) live [] N 2) loop3 (K3 N (orc T (G N) live [] N 2)) (St3 a0 a)=lp3 N a0 a:=
 (orc_loop (b:=body3) (live:=[0,4,8,9]) (by kernel_rfl)).trans (iter_eq (St3 a0) _ _ (fun q1 a=>by
  have hc:=congrFun (congrFun (rfl:(step3 N a0)=(step3 N a0)) (fun a=>q1 (St3 a0 a))) a
  obtain ⟨u0,u1,u2⟩:=a
  exact (body3_0 N (orc T (G N) live [] N 2) (orc T (G N) live [] N 1) q1 a0 u0 u1 u2).trans hc) N a)
theorem G_ok (N:Nat):GamOK Tryz.prog (G N):=gam_ok (⟨impl_membersOK.snd N,trivial⟩)
theorem snd (N:Nat):Sound Tryz.prog E 75 (sp N):=
 Mir.sound T_OK (G_ok N) mixed Tryz.func75 (c:=code) (by kernel_rfl) (by kernel_rfl) (sp N) (Nat.le_of_ble_eq_true (by kernel_rfl)) live [] (by
  rintro ⟨a0,_⟩ r h
  exact ⟨N,2,((run N _ a0).trans (congrArg (m0 N a0) (funext fun a=>lp3_eq N a0 a))).trans h⟩)
end impl_readMembers
namespace impl_entryOK
noncomputable def code:Code:=Tryz.f67.body.getD .skip
abbrev live:Live:=[]
noncomputable def G (N:Nat):Ctx E:=gam [(17,[],impl_within.sp N),(75,[],impl_readMembers.sp N)]
theorem run (N:Nat) (o0:Orc E R) (a0:Entry):runF T (G N) live [] Tryz.f67 code (sp N) o0 (a0,())=m N a0:=by kernel_rfl
theorem G_ok (N:Nat):GamOK Tryz.prog (G N):=gam_ok (⟨impl_within.snd N,impl_readMembers.snd N,trivial⟩)
theorem snd (N:Nat):Sound Tryz.prog E 67 (sp N):=
 Mir.sound T_OK (G_ok N) mixed Tryz.func67 (c:=code) (by kernel_rfl) (by kernel_rfl) (sp N) (Nat.le_of_ble_eq_true (by kernel_rfl)) live [] (by
  rintro ⟨a0,_⟩ r h
  exact ⟨N,2,((run N _ a0).trans rfl).trans h⟩)
end impl_entryOK
end Mir.Y
