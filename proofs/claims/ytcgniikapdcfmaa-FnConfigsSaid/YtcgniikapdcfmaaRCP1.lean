/- The models are what the functions do. -/
import Derived.Test.YtcgniikapdcfmaaRCM3
namespace Mir.Y
set_option linter.unusedVariables false
set_option maxRecDepth 10000
open Go Go.Proofs Mir
namespace spec_l00Source
noncomputable def code:Code:=Try.f11.body.getD .skip
abbrev live:Live:=[]
noncomputable def G (N:Nat):Ctx E:=gam []
theorem run (N:Nat) (o0:Orc E R) (a0:List Int):runF T (G N) live [] Try.f11 code (sp N) o0 (a0,())=m N a0:=by kernel_rfl
theorem G_ok (N:Nat):GamOK Try.prog (G N):=gam_ok (trivial)
theorem snd (N:Nat):Sound Try.prog E 11 (sp N):=
 Mir.sound T_OK (G_ok N) mixed Try.func11 (c:=code) (by kernel_rfl) (by kernel_rfl) (sp N) (Nat.le_of_ble_eq_true (by kernel_rfl)) live [] (by
  rintro ⟨a0,_⟩ r h
  exact ⟨N,2,((run N _ a0).trans rfl).trans h⟩)
end spec_l00Source
namespace spec_l00Src_byte_
noncomputable def code:Code:=Try.f44.body.getD .skip
abbrev live:Live:=[]
noncomputable def G (N:Nat):Ctx E:=gam []
theorem run (N:Nat) (o0:Orc E R) (a0:l00Src):runF T (G N) live [] Try.f44 code (sp N) o0 (a0,())=m N a0:=by kernel_rfl
theorem G_ok (N:Nat):GamOK Try.prog (G N):=gam_ok (trivial)
theorem snd (N:Nat):Sound Try.prog E 44 (sp N):=
 Mir.sound T_OK (G_ok N) mixed Try.func44 (c:=code) (by kernel_rfl) (by kernel_rfl) (sp N) (Nat.le_of_ble_eq_true (by kernel_rfl)) live [] (by
  rintro ⟨a0,_⟩ r h
  exact ⟨N,2,((run N _ a0).trans rfl).trans h⟩)
end spec_l00Src_byte_
namespace spec_l00Src_next_
noncomputable def code:Code:=Try.f23.body.getD .skip
abbrev live:Live:=[]
noncomputable def G (N:Nat):Ctx E:=gam [(44,[],spec_l00Src_byte_.sp N)]
theorem run (N:Nat) (o0:Orc E R) (a0:l00Src) (a1:Int):runF T (G N) live [] Try.f23 code (sp N) o0 (a0,a1,())=m N a0 a1:=by kernel_rfl
theorem G_ok (N:Nat):GamOK Try.prog (G N):=gam_ok (⟨spec_l00Src_byte_.snd N,trivial⟩)
theorem snd (N:Nat):Sound Try.prog E 23 (sp N):=
 Mir.sound T_OK (G_ok N) mixed Try.func23 (c:=code) (by kernel_rfl) (by kernel_rfl) (sp N) (Nat.le_of_ble_eq_true (by kernel_rfl)) live [] (by
  rintro ⟨a0,a1,_⟩ r h
  exact ⟨N,2,((run N _ a0 a1).trans rfl).trans h⟩)
end spec_l00Src_next_
namespace spec_l00Src_chance_
noncomputable def code:Code:=Try.f55.body.getD .skip
abbrev live:Live:=[]
noncomputable def G (N:Nat):Ctx E:=gam [(23,[],spec_l00Src_next_.sp N)]
theorem run (N:Nat) (o0:Orc E R) (a0:l00Src) (a1:Int):runF T (G N) live [] Try.f55 code (sp N) o0 (a0,a1,())=m N a0 a1:=by kernel_rfl
theorem G_ok (N:Nat):GamOK Try.prog (G N):=gam_ok (⟨spec_l00Src_next_.snd N,trivial⟩)
theorem snd (N:Nat):Sound Try.prog E 55 (sp N):=
 Mir.sound T_OK (G_ok N) mixed Try.func55 (c:=code) (by kernel_rfl) (by kernel_rfl) (sp N) (Nat.le_of_ble_eq_true (by kernel_rfl)) live [] (by
  rintro ⟨a0,a1,_⟩ r h
  exact ⟨N,2,((run N _ a0 a1).trans rfl).trans h⟩)
end spec_l00Src_chance_
namespace spec_l00Src_elected
noncomputable def code:Code:=Try.f56.body.getD .skip
abbrev live:Live:=[(7,[0,5,7]),(3,[0,1,5,6])]
noncomputable def G (N:Nat):Ctx E:=gam [(23,[],spec_l00Src_next_.sp N)]
noncomputable def loop3:Code:=codeAt code [1,1,0,1,0]
noncomputable def body3:Code:=codeAt loop3 [0]
noncomputable def loop7:Code:=codeAt code [1,1,1,0,1,0]
noncomputable def body7:Code:=codeAt loop7 [0]
noncomputable def K3 (N:Nat) (o0:Orc E R):KT E R:=kAt T (G N) live [] o0 code [1,1,0,1,0] (kfin T Try.f56 (sp N))
noncomputable def St3 (a0:l00Src) (a1:Int):(Int×(List Int)×Int×Int×(List GroupAct))→St E
 | (v1,v2,v3,v4,v5)=>{ ρ:=[(0,.c (.at (.ptr 0 0))),(1,.c (.at (.int .i64 a1))),(5,.c (.at (.own 1))),(6,.c (.at (.int .i64 v1)))],H:=[(0,.box 46 [.ro 5 (.int .u8) v2,.int .i64 v3,.int .i64 v4]),(1,.row 84 (.st 84) v5 false)],nx:=2,n:=32,pin:=[0] }
noncomputable def K7 (N:Nat) (o0:Orc E R):KT E R:=kAt T (G N) live [] o0 code [1,1,1,0,1,0] (kfin T Try.f56 (sp N))
noncomputable def St7 (a0:l00Src) (a1:Int):(Int×(List Int)×Int×Int×(List GroupAct))→St E
 | (v0,v1,v2,v3,v4)=>{ ρ:=[(0,.c (.at (.ptr 0 0))),(5,.c (.at (.own 1))),(7,.c (.at (.int .i64 v0)))],H:=[(0,.box 46 [.ro 5 (.int .u8) v1,.int .i64 v2,.int .i64 v3]),(1,.row 84 (.st 84) v4 false)],nx:=2,n:=32,pin:=[0] }
theorem run (N:Nat) (o0:Orc E R) (a0:l00Src) (a1:Int):runF T (G N) live [] Try.f56 code (sp N) o0 (a0,a1,())=m0 N a0 a1 (fun a=>o0 loop3 (K3 N o0) (St3 a0 a1 a)):=by kernel_rfl
theorem body3_0 (N:Nat) (o0:Orc E R) (o1:Orc E R) (q1:St E→Option R) (a0:l00Src) (a1:Int) (v1:Int) (v2:List Int) (v3:Int) (v4:Int) (v5:List GroupAct):runA T (G N) live [] o1 body3 (St3 a0 a1 (v1,v2,v3,v4,v5)) (kloop [0,1,5,6] q1 (K3 N o0))=step3 N a0 a1 (fun a=>o0 loop7 (K7 N o0) (St7 a0 a1 a)) (fun a=>q1 (St3 a0 a1 a)) (v1,v2,v3,v4,v5):=by kernel_rfl
theorem body7_0 (N:Nat) (o0:Orc E R) (o1:Orc E R) (q1:St E→Option R) (a0:l00Src) (a1:Int) (v0:Int) (v1:List Int) (v2:Int) (v3:Int) (v4:List GroupAct):runA T (G N) live [] o1 body7 (St7 a0 a1 (v0,v1,v2,v3,v4)) (kloop [0,5,7] q1 (K7 N o0))=step7 N a0 a1 (fun a=>q1 (St7 a0 a1 a)) (v0,v1,v2,v3,v4):=by kernel_rfl
theorem lp7_eq (N:Nat) (a0:l00Src) (a1:Int) (a:Int×(List Int)×Int×Int×(List GroupAct)):(orc T (G N) live [] N 2) loop7 (K7 N (orc T (G N) live [] N 2)) (St7 a0 a1 a)=lp7 N a0 a1 a:=
 (orc_loop (b:=body7) (live:=[0,5,7]) (by kernel_rfl)).trans (iter_eq (St7 a0 a1) _ _ (fun q1 a=>by
  have hc:=congrFun (congrFun (rfl:(step7 N a0 a1)=(step7 N a0 a1)) (fun a=>q1 (St7 a0 a1 a))) a
  obtain ⟨u0,u1,u2,u3,u4⟩:=a
  exact (body7_0 N (orc T (G N) live [] N 2) (orc T (G N) live [] N 1) q1 a0 a1 u0 u1 u2 u3 u4).trans hc) N a)
theorem lp3_eq (N:Nat) (a0:l00Src) (a1:Int) (a:Int×(List Int)×Int×Int×(List GroupAct)):(orc T (G N) live [] N 2) loop3 (K3 N (orc T (G N) live [] N 2)) (St3 a0 a1 a)=lp3 N a0 a1 a:=
 (orc_loop (b:=body3) (live:=[0,1,5,6]) (by kernel_rfl)).trans (iter_eq (St3 a0 a1) _ _ (fun q1 a=>by
  have hc:=congrFun (congrFun (congrArg (step3 N a0 a1) (funext fun a=>lp7_eq N a0 a1 a)) (fun a=>q1 (St3 a0 a1 a))) a
  obtain ⟨u0,u1,u2,u3,u4⟩:=a
  exact (body3_0 N (orc T (G N) live [] N 2) (orc T (G N) live [] N 1) q1 a0 a1 u0 u1 u2 u3 u4).trans hc) N a)
theorem G_ok (N:Nat):GamOK Try.prog (G N):=gam_ok (⟨spec_l00Src_next_.snd N,trivial⟩)
theorem snd (N:Nat):Sound Try.prog E 56 (sp N):=
 Mir.sound T_OK (G_ok N) mixed Try.func56 (c:=code) (by kernel_rfl) (by kernel_rfl) (sp N) (Nat.le_of_ble_eq_true (by kernel_rfl)) live [] (by
  rintro ⟨a0,a1,_⟩ r h
  exact ⟨N,2,((run N _ a0 a1).trans (congrArg (m0 N a0 a1) (funext fun a=>lp3_eq N a0 a1 a))).trans h⟩)
end spec_l00Src_elected
namespace spec_l00Src_size
noncomputable def code:Code:=Try.f57.body.getD .skip
abbrev live:Live:=[]
noncomputable def G (N:Nat):Ctx E:=gam []
theorem run (N:Nat) (o0:Orc E R) (a0:l00Src) (a1:Int):runF T (G N) live [] Try.f57 code (sp N) o0 (a0,a1,())=m N a0 a1:=by kernel_rfl
theorem G_ok (N:Nat):GamOK Try.prog (G N):=gam_ok (trivial)
theorem snd (N:Nat):Sound Try.prog E 57 (sp N):=
 Mir.sound T_OK (G_ok N) mixed Try.func57 (c:=code) (by kernel_rfl) (by kernel_rfl) (sp N) (Nat.le_of_ble_eq_true (by kernel_rfl)) live [] (by
  rintro ⟨a0,a1,_⟩ r h
  exact ⟨N,2,((run N _ a0 a1).trans rfl).trans h⟩)
end spec_l00Src_size
namespace spec_l00Src_pick_
noncomputable def code:Code:=Try.f70.body.getD .skip
abbrev live:Live:=[]
noncomputable def G (N:Nat):Ctx E:=gam [(23,[],spec_l00Src_next_.sp N)]
theorem run (N:Nat) (o0:Orc E R) (a0:l00Src) (a1:List ByteArray):runF T (G N) live [] Try.f70 code (sp N) o0 (a0,a1,())=m N a0 a1:=by kernel_rfl
theorem G_ok (N:Nat):GamOK Try.prog (G N):=gam_ok (⟨spec_l00Src_next_.snd N,trivial⟩)
theorem snd (N:Nat):Sound Try.prog E 70 (sp N):=
 Mir.sound T_OK (G_ok N) mixed Try.func70 (c:=code) (by kernel_rfl) (by kernel_rfl) (sp N) (Nat.le_of_ble_eq_true (by kernel_rfl)) live [] (by
  rintro ⟨a0,a1,_⟩ r h
  exact ⟨N,2,((run N _ a0 a1).trans rfl).trans h⟩)
end spec_l00Src_pick_
namespace spec_l00Src_key
noncomputable def code:Code:=Try.f77.body.getD .skip
abbrev live:Live:=[]
noncomputable def G (N:Nat):Ctx E:=gam [(70,[],spec_l00Src_pick_.sp N)]
theorem run (N:Nat) (o0:Orc E R) (a0:l00Src):runF T (G N) live [] Try.f77 code (sp N) o0 (a0,())=m N a0:=by kernel_rfl
theorem G_ok (N:Nat):GamOK Try.prog (G N):=gam_ok (⟨spec_l00Src_pick_.snd N,trivial⟩)
theorem snd (N:Nat):Sound Try.prog E 77 (sp N):=
 Mir.sound T_OK (G_ok N) mixed Try.func77 (c:=code) (by kernel_rfl) (by kernel_rfl) (sp N) (Nat.le_of_ble_eq_true (by kernel_rfl)) live [] (by
  rintro ⟨a0,_⟩ r h
  exact ⟨N,2,((run N _ a0).trans rfl).trans h⟩)
end spec_l00Src_key
namespace spec_l00Src_datum
noncomputable def code:Code:=Try.f78.body.getD .skip
abbrev live:Live:=[]
noncomputable def G (N:Nat):Ctx E:=gam [(70,[],spec_l00Src_pick_.sp N)]
theorem run (N:Nat) (o0:Orc E R) (a0:l00Src):runF T (G N) live [] Try.f78 code (sp N) o0 (a0,())=m N a0:=by kernel_rfl
theorem G_ok (N:Nat):GamOK Try.prog (G N):=gam_ok (⟨spec_l00Src_pick_.snd N,trivial⟩)
theorem snd (N:Nat):Sound Try.prog E 78 (sp N):=
 Mir.sound T_OK (G_ok N) mixed Try.func78 (c:=code) (by kernel_rfl) (by kernel_rfl) (sp N) (Nat.le_of_ble_eq_true (by kernel_rfl)) live [] (by
  rintro ⟨a0,_⟩ r h
  exact ⟨N,2,((run N _ a0).trans rfl).trans h⟩)
end spec_l00Src_datum
namespace spec_l00Src_command
noncomputable def code:Code:=Try.f69.body.getD .skip
abbrev live:Live:=[]
noncomputable def G (N:Nat):Ctx E:=gam [(23,[],spec_l00Src_next_.sp N),(77,[],spec_l00Src_key.sp N),(78,[],spec_l00Src_datum.sp N),(55,[],spec_l00Src_chance_.sp N)]
theorem run (N:Nat) (o0:Orc E R) (a0:l00Src):runF T (G N) live [] Try.f69 code (sp N) o0 (a0,())=m N a0:=by kernel_rfl
theorem G_ok (N:Nat):GamOK Try.prog (G N):=gam_ok (⟨spec_l00Src_next_.snd N,spec_l00Src_key.snd N,spec_l00Src_datum.snd N,spec_l00Src_chance_.snd N,trivial⟩)
theorem snd (N:Nat):Sound Try.prog E 69 (sp N):=
 Mir.sound T_OK (G_ok N) mixed Try.func69 (c:=code) (by kernel_rfl) (by kernel_rfl) (sp N) (Nat.le_of_ble_eq_true (by kernel_rfl)) live [] (by
  rintro ⟨a0,_⟩ r h
  exact ⟨N,2,((run N _ a0).trans rfl).trans h⟩)
end spec_l00Src_command
namespace spec_l02Two
noncomputable def code:Code:=Try.f76.body.getD .skip
abbrev live:Live:=[]
noncomputable def G (N:Nat):Ctx E:=gam []
theorem run (N:Nat) (o0:Orc E R) (a0:Int):runF T (G N) live [] Try.f76 code (sp N) o0 (a0,())=m N a0:=by kernel_rfl
theorem G_ok (N:Nat):GamOK Try.prog (G N):=gam_ok (trivial)
theorem snd (N:Nat):Sound Try.prog E 76 (sp N):=
 Mir.sound T_OK (G_ok N) mixed Try.func76 (c:=code) (by kernel_rfl) (by kernel_rfl) (sp N) (Nat.le_of_ble_eq_true (by kernel_rfl)) live [] (by
  rintro ⟨a0,_⟩ r h
  exact ⟨N,2,((run N _ a0).trans rfl).trans h⟩)
end spec_l02Two
namespace spec_l02Bytes
noncomputable def code:Code:=Try.f68.body.getD .skip
abbrev live:Live:=[]
noncomputable def G (N:Nat):Ctx E:=gam [(76,[],spec_l02Two.sp N)]
theorem run (N:Nat) (o0:Orc E R) (a0:Command):runF T (G N) live [] Try.f68 code (sp N) o0 (a0,())=m N a0:=by kernel_rfl
theorem G_ok (N:Nat):GamOK Try.prog (G N):=gam_ok (⟨spec_l02Two.snd N,trivial⟩)
theorem snd (N:Nat):Sound Try.prog E 68 (sp N):=
 Mir.sound T_OK (G_ok N) mixed Try.func68 (c:=code) (by kernel_rfl) (by kernel_rfl) (sp N) (Nat.le_of_ble_eq_true (by kernel_rfl)) live [] (by
  rintro ⟨a0,_⟩ r h
  exact ⟨N,2,((run N _ a0).trans rfl).trans h⟩)
end spec_l02Bytes
namespace spec_l00Src_groupAct
noncomputable def code:Code:=Try.f58.body.getD .skip
abbrev live:Live:=[]
noncomputable def G (N:Nat):Ctx E:=gam [(23,[],spec_l00Src_next_.sp N),(69,[],spec_l00Src_command.sp N),(68,[],spec_l02Bytes.sp N),(55,[],spec_l00Src_chance_.sp N),(70,[],spec_l00Src_pick_.sp N)]
theorem run (N:Nat) (o0:Orc E R) (a0:l00Src) (a1:Int):runF T (G N) live [] Try.f58 code (sp N) o0 (a0,a1,())=m N a0 a1:=by kernel_rfl
theorem G_ok (N:Nat):GamOK Try.prog (G N):=gam_ok (⟨spec_l00Src_next_.snd N,spec_l00Src_command.snd N,spec_l02Bytes.snd N,spec_l00Src_chance_.snd N,spec_l00Src_pick_.snd N,trivial⟩)
theorem snd (N:Nat):Sound Try.prog E 58 (sp N):=
 Mir.sound T_OK (G_ok N) mixed Try.func58 (c:=code) (by kernel_rfl) (by kernel_rfl) (sp N) (Nat.le_of_ble_eq_true (by kernel_rfl)) live [] (by
  rintro ⟨a0,a1,_⟩ r h
  exact ⟨N,2,((run N _ a0 a1).trans rfl).trans h⟩)
end spec_l00Src_groupAct
namespace spec_l00Src_groupActs
noncomputable def code:Code:=Try.f43.body.getD .skip
abbrev live:Live:=[(5,[0,1,5,6])]
noncomputable def G (N:Nat):Ctx E:=gam [(55,[],spec_l00Src_chance_.sp N),(23,[],spec_l00Src_next_.sp N),(56,[],spec_l00Src_elected.sp N),(57,[],spec_l00Src_size.sp N),(58,[],spec_l00Src_groupAct.sp N)]
noncomputable def loop5:Code:=codeAt code [1,1,1,0,1,0]
noncomputable def body5:Code:=codeAt loop5 [0]
noncomputable def K5 (N:Nat) (o0:Orc E R):KT E R:=kAt T (G N) live [] o0 code [1,1,1,0,1,0] (kfin T Try.f43 (sp N))
noncomputable def St5 (a0:l00Src) (a1:Int):(Int×(List Int)×Int×Int×(List GroupAct))→St E
 | (v1,v2,v3,v4,v5)=>{ ρ:=[(0,.c (.at (.ptr 0 0))),(1,.c (.at (.int .i64 a1))),(5,.c (.at (.own 1))),(6,.c (.at (.int .i64 v1)))],H:=[(0,.box 46 [.ro 5 (.int .u8) v2,.int .i64 v3,.int .i64 v4]),(1,.row 84 (.st 84) v5 false)],nx:=2,n:=46,pin:=[0] }
theorem run (N:Nat) (o0:Orc E R) (a0:l00Src) (a1:Int):runF T (G N) live [] Try.f43 code (sp N) o0 (a0,a1,())=m0 N a0 a1 (fun a=>o0 loop5 (K5 N o0) (St5 a0 a1 a)):=by kernel_rfl
theorem body5_0 (N:Nat) (o0:Orc E R) (o1:Orc E R) (q1:St E→Option R) (a0:l00Src) (a1:Int) (v1:Int) (v2:List Int) (v3:Int) (v4:Int) (v5:List GroupAct):runA T (G N) live [] o1 body5 (St5 a0 a1 (v1,v2,v3,v4,v5)) (kloop [0,1,5,6] q1 (K5 N o0))=step5 N a0 a1 (fun a=>q1 (St5 a0 a1 a)) (v1,v2,v3,v4,v5):=by kernel_rfl
theorem lp5_eq (N:Nat) (a0:l00Src) (a1:Int) (a:Int×(List Int)×Int×Int×(List GroupAct)):(orc T (G N) live [] N 2) loop5 (K5 N (orc T (G N) live [] N 2)) (St5 a0 a1 a)=lp5 N a0 a1 a:=
 (orc_loop (b:=body5) (live:=[0,1,5,6]) (by kernel_rfl)).trans (iter_eq (St5 a0 a1) _ _ (fun q1 a=>by
  have hc:=congrFun (congrFun (rfl:(step5 N a0 a1)=(step5 N a0 a1)) (fun a=>q1 (St5 a0 a1 a))) a
  obtain ⟨u0,u1,u2,u3,u4⟩:=a
  exact (body5_0 N (orc T (G N) live [] N 2) (orc T (G N) live [] N 1) q1 a0 a1 u0 u1 u2 u3 u4).trans hc) N a)
theorem G_ok (N:Nat):GamOK Try.prog (G N):=gam_ok (⟨spec_l00Src_chance_.snd N,spec_l00Src_next_.snd N,spec_l00Src_elected.snd N,spec_l00Src_size.snd N,spec_l00Src_groupAct.snd N,trivial⟩)
theorem snd (N:Nat):Sound Try.prog E 43 (sp N):=
 Mir.sound T_OK (G_ok N) mixed Try.func43 (c:=code) (by kernel_rfl) (by kernel_rfl) (sp N) (Nat.le_of_ble_eq_true (by kernel_rfl)) live [] (by
  rintro ⟨a0,a1,_⟩ r h
  exact ⟨N,2,((run N _ a0 a1).trans (congrArg (m0 N a0 a1) (funext fun a=>lp5_eq N a0 a1 a))).trans h⟩)
end spec_l00Src_groupActs
namespace spec_l01In
noncomputable def code:Code:=Try.f34.body.getD .skip
abbrev live:Live:=[]
noncomputable def G (N:Nat):Ctx E:=gam []
theorem run (N:Nat) (o0:Orc E R) (a0:Int) (a1:Int) (a2:Int):runF T (G N) live [] Try.f34 code (sp N) o0 (a0,a1,a2,())=m N a0 a1 a2:=by kernel_rfl
theorem G_ok (N:Nat):GamOK Try.prog (G N):=gam_ok (trivial)
theorem snd (N:Nat):Sound Try.prog E 34 (sp N):=
 Mir.sound T_OK (G_ok N) mixed Try.func34 (c:=code) (by kernel_rfl) (by kernel_rfl) (sp N) (Nat.le_of_ble_eq_true (by kernel_rfl)) live [] (by
  rintro ⟨a0,a1,a2,_⟩ r h
  exact ⟨N,2,((run N _ a0 a1 a2).trans rfl).trans h⟩)
end spec_l01In
namespace spec_l10New
noncomputable def code:Code:=Try.f71.body.getD .skip
abbrev live:Live:=[(3,[4,5,6])]
noncomputable def G (N:Nat):Ctx E:=gam []
noncomputable def loop3:Code:=codeAt code [1,1,0,1,0]
noncomputable def body3:Code:=codeAt loop3 [0]
noncomputable def K3 (N:Nat) (o0:Orc E R):KT E R:=kAt T (G N) live [] o0 code [1,1,0,1,0] (kfin T Try.f71 (sp N))
noncomputable def St3 (a0:Int) (a1:List Int):A3→St E
 | .s0 v0 v1 v2 v3 v4 v5 v6 v7 v9 v10 v11 v12 v13 v14 v15 v16 v17 v18=>{ ρ:=[(4,.c (.at (.ptr 0 0))),(5,.c (.at (.ptr 1 0))),(6,.c (.at (.int .i64 v0)))],H:=[(0,.box 26 [.int .i64 v1,.int .i64 v2,.int .i64 v3,.nils,.nils,.int .i64 v4,.nils,.nils,.nils,.int .i64 v5,.int .i64 v6,.int .i64 v7,.bool false]),(1,.box 26 [.int .i64 a0,.int .i64 v9,.int .i64 v10,.own 2,.own 3,.int .i64 v11,.own 4,.nils,.own 5,.int .i64 v12,.int .i64 v13,.int .i64 v14,.bool true]),(2,.row 35 (.st 35) v15 false),(3,.row 3 (.int .i64) v16 false),(4,.row 3 (.int .i64) v17 false),(5,.row 3 (.int .i64) v18 false)],nx:=6,n:=27,pin:=[] }
 | .s1 v0 v1 v2 v3 v4 v5 v6 v7 v9 v10 v11 v12 v13 v14 v15 v16 v17 v18 v19=>{ ρ:=[(4,.c (.at (.ptr 0 0))),(5,.c (.at (.ptr 1 0))),(6,.c (.at (.int .i64 v0)))],H:=[(0,.box 26 [.int .i64 v1,.int .i64 v2,.int .i64 v3,.nils,.nils,.int .i64 v4,.nils,.nils,.nils,.int .i64 v5,.int .i64 v6,.int .i64 v7,.bool false]),(1,.box 26 [.int .i64 a0,.int .i64 v9,.int .i64 v10,.own 2,.own 3,.int .i64 v11,.own 4,.own 5,.own 6,.int .i64 v12,.int .i64 v13,.int .i64 v14,.bool true]),(2,.row 35 (.st 35) v15 false),(3,.row 3 (.int .i64) v16 false),(4,.row 3 (.int .i64) v17 false),(5,.row 3 (.int .i64) v18 false),(6,.row 3 (.int .i64) v19 false)],nx:=7,n:=27,pin:=[] }
theorem run (N:Nat) (o0:Orc E R) (a0:Int) (a1:List Int):runF T (G N) live [] Try.f71 code (sp N) o0 (a0,a1,())=m0 N a0 a1 (fun a=>o0 loop3 (K3 N o0) (St3 a0 a1 a)):=by kernel_rfl
theorem body3_0 (N:Nat) (o0:Orc E R) (o1:Orc E R) (q1:St E→Option R) (a0:Int) (a1:List Int) (v0:Int) (v1:Int) (v2:Int) (v3:Int) (v4:Int) (v5:Int) (v6:Int) (v7:Int) (v9:Int) (v10:Int) (v11:Int) (v12:Int) (v13:Int) (v14:Int) (v15:List Entry) (v16:List Int) (v17:List Int) (v18:List Int):runA T (G N) live [] o1 body3 (St3 a0 a1 (.s0 v0 v1 v2 v3 v4 v5 v6 v7 v9 v10 v11 v12 v13 v14 v15 v16 v17 v18)) (kloop [4,5,6] q1 (K3 N o0))=step3 N a0 a1 (fun a=>q1 (St3 a0 a1 a)) (.s0 v0 v1 v2 v3 v4 v5 v6 v7 v9 v10 v11 v12 v13 v14 v15 v16 v17 v18):=by kernel_rfl
theorem body3_1 (N:Nat) (o0:Orc E R) (o1:Orc E R) (q1:St E→Option R) (a0:Int) (a1:List Int) (v0:Int) (v1:Int) (v2:Int) (v3:Int) (v4:Int) (v5:Int) (v6:Int) (v7:Int) (v9:Int) (v10:Int) (v11:Int) (v12:Int) (v13:Int) (v14:Int) (v15:List Entry) (v16:List Int) (v17:List Int) (v18:List Int) (v19:List Int):runA T (G N) live [] o1 body3 (St3 a0 a1 (.s1 v0 v1 v2 v3 v4 v5 v6 v7 v9 v10 v11 v12 v13 v14 v15 v16 v17 v18 v19)) (kloop [4,5,6] q1 (K3 N o0))=step3 N a0 a1 (fun a=>q1 (St3 a0 a1 a)) (.s1 v0 v1 v2 v3 v4 v5 v6 v7 v9 v10 v11 v12 v13 v14 v15 v16 v17 v18 v19):=by kernel_rfl
theorem lp3_eq (N:Nat) (a0:Int) (a1:List Int) (a:A3):(orc T (G N) live [] N 2) loop3 (K3 N (orc T (G N) live [] N 2)) (St3 a0 a1 a)=lp3 N a0 a1 a:=
 (orc_loop (b:=body3) (live:=[4,5,6]) (by kernel_rfl)).trans (iter_eq (St3 a0 a1) _ _ (fun q1 a=>by
  have hc:=congrFun (congrFun (rfl:(step3 N a0 a1)=(step3 N a0 a1)) (fun a=>q1 (St3 a0 a1 a))) a
  cases a with
  | s0 u0 u1 u2 u3 u4 u5 u6 u7 u8 u9 u10 u11 u12 u13 u14 u15 u16 u17=>exact (body3_0 N (orc T (G N) live [] N 2) (orc T (G N) live [] N 1) q1 a0 a1 u0 u1 u2 u3 u4 u5 u6 u7 u8 u9 u10 u11 u12 u13 u14 u15 u16 u17).trans hc
  | s1 u0 u1 u2 u3 u4 u5 u6 u7 u8 u9 u10 u11 u12 u13 u14 u15 u16 u17 u18=>exact (body3_1 N (orc T (G N) live [] N 2) (orc T (G N) live [] N 1) q1 a0 a1 u0 u1 u2 u3 u4 u5 u6 u7 u8 u9 u10 u11 u12 u13 u14 u15 u16 u17 u18).trans hc) N a)
theorem G_ok (N:Nat):GamOK Try.prog (G N):=gam_ok (trivial)
theorem snd (N:Nat):Sound Try.prog E 71 (sp N):=
 Mir.sound T_OK (G_ok N) mixed Try.func71 (c:=code) (by kernel_rfl) (by kernel_rfl) (sp N) (Nat.le_of_ble_eq_true (by kernel_rfl)) live [] (by
  rintro ⟨a0,a1,_⟩ r h
  exact ⟨N,2,((run N _ a0 a1).trans (congrArg (m0 N a0 a1) (funext fun a=>lp3_eq N a0 a1 a))).trans h⟩)
end spec_l10New
namespace spec_l11New
noncomputable def code:Code:=Try.f61.body.getD .skip
abbrev live:Live:=[(8,[0,2,3,5,6]),(3,[0,2,3,4])]
noncomputable def G (N:Nat):Ctx E:=gam [(71,[],spec_l10New.sp N)]
noncomputable def loop3:Code:=codeAt code [1,1,0,1,0]
noncomputable def body3:Code:=codeAt loop3 [0]
noncomputable def loop8:Code:=codeAt code [1,1,1,1,0,1,0]
noncomputable def body8:Code:=codeAt loop8 [0]
noncomputable def K3 (N:Nat) (o0:Orc E R):KT E R:=kAt T (G N) live [] o0 code [1,1,0,1,0] (kfin T Try.f61 (sp N))
noncomputable def St3 (a0:Int):(Int×(List Int))→St E
 | (v1,v2)=>{ ρ:=[(0,.c (.at (.int .i64 a0))),(2,.c (.at (.ptr 0 0))),(3,.c (.at (.own 1))),(4,.c (.at (.int .i64 v1)))],H:=[(0,.box 52 [.nils,.nils,.nils,.nils]),(1,.row 3 (.int .i64) v2 false)],nx:=2,n:=36,pin:=[] }
noncomputable def K8 (N:Nat) (o0:Orc E R):KT E R:=kAt T (G N) live [] o0 code [1,1,1,1,0,1,0] (kfin T Try.f61 (sp N))
noncomputable def St8 (a0:Int):A8→St E
 | .s0 v1 v2 v3 v4 v5=>{ ρ:=[(0,.c (.at (.int .i64 a0))),(2,.c (.at (.ptr 0 0))),(3,.c (.at (.own 1))),(5,.c (.at (.ptr 2 0))),(6,.c (.at (.int .i64 v1)))],H:=[(0,.box 52 [.nils,.nils,.nils,.nils]),(1,.row 3 (.int .i64) v2 false),(2,.box 52 [.nils,.own 3,.own 4,.own 5]),(3,.row 97 (.st 97) v3 false),(4,.row 99 (.st 99) v4 false),(5,.row 109 (.st 109) v5 false)],nx:=6,n:=36,pin:=[] }
 | .s1 v1 v2 v3 v4 v5 v6=>{ ρ:=[(0,.c (.at (.int .i64 a0))),(2,.c (.at (.ptr 0 0))),(3,.c (.at (.own 1))),(5,.c (.at (.ptr 2 0))),(6,.c (.at (.int .i64 v1)))],H:=[(0,.box 52 [.nils,.nils,.nils,.nils]),(1,.row 3 (.int .i64) v2 false),(2,.box 52 [.own 3,.own 4,.own 5,.own 6]),(3,.row 26 (.st 26) v3 false),(4,.row 97 (.st 97) v4 false),(5,.row 99 (.st 99) v5 false),(6,.row 109 (.st 109) v6 false)],nx:=7,n:=36,pin:=[] }
theorem run (N:Nat) (o0:Orc E R) (a0:Int):runF T (G N) live [] Try.f61 code (sp N) o0 (a0,())=m0 N a0 (fun a=>o0 loop3 (K3 N o0) (St3 a0 a)):=by kernel_rfl
theorem body3_0 (N:Nat) (o0:Orc E R) (o1:Orc E R) (q1:St E→Option R) (a0:Int) (v1:Int) (v2:List Int):runA T (G N) live [] o1 body3 (St3 a0 (v1,v2)) (kloop [0,2,3,4] q1 (K3 N o0))=step3 N a0 (fun a=>o0 loop8 (K8 N o0) (St8 a0 a)) (fun a=>q1 (St3 a0 a)) (v1,v2):=by kernel_rfl
theorem body8_0 (N:Nat) (o0:Orc E R) (o1:Orc E R) (q1:St E→Option R) (a0:Int) (v1:Int) (v2:List Int) (v3:List Message) (v4:List Lead) (v5:List Done):runA T (G N) live [] o1 body8 (St8 a0 (.s0 v1 v2 v3 v4 v5)) (kloop [0,2,3,5,6] q1 (K8 N o0))=step8 N a0 (fun a=>q1 (St8 a0 a)) (.s0 v1 v2 v3 v4 v5):=by kernel_rfl
theorem body8_1 (N:Nat) (o0:Orc E R) (o1:Orc E R) (q1:St E→Option R) (a0:Int) (v1:Int) (v2:List Int) (v3:List Node) (v4:List Message) (v5:List Lead) (v6:List Done):runA T (G N) live [] o1 body8 (St8 a0 (.s1 v1 v2 v3 v4 v5 v6)) (kloop [0,2,3,5,6] q1 (K8 N o0))=step8 N a0 (fun a=>q1 (St8 a0 a)) (.s1 v1 v2 v3 v4 v5 v6):=by kernel_rfl
theorem lp8_eq (N:Nat) (a0:Int) (a:A8):(orc T (G N) live [] N 2) loop8 (K8 N (orc T (G N) live [] N 2)) (St8 a0 a)=lp8 N a0 a:=
 (orc_loop (b:=body8) (live:=[0,2,3,5,6]) (by kernel_rfl)).trans (iter_eq (St8 a0) _ _ (fun q1 a=>by
  have hc:=congrFun (congrFun (rfl:(step8 N a0)=(step8 N a0)) (fun a=>q1 (St8 a0 a))) a
  cases a with
  | s0 u0 u1 u2 u3 u4=>exact (body8_0 N (orc T (G N) live [] N 2) (orc T (G N) live [] N 1) q1 a0 u0 u1 u2 u3 u4).trans hc
  | s1 u0 u1 u2 u3 u4 u5=>exact (body8_1 N (orc T (G N) live [] N 2) (orc T (G N) live [] N 1) q1 a0 u0 u1 u2 u3 u4 u5).trans hc) N a)
theorem lp3_eq (N:Nat) (a0:Int) (a:Int×(List Int)):(orc T (G N) live [] N 2) loop3 (K3 N (orc T (G N) live [] N 2)) (St3 a0 a)=lp3 N a0 a:=
 (orc_loop (b:=body3) (live:=[0,2,3,4]) (by kernel_rfl)).trans (iter_eq (St3 a0) _ _ (fun q1 a=>by
  have hc:=congrFun (congrFun (congrArg (step3 N a0) (funext fun a=>lp8_eq N a0 a)) (fun a=>q1 (St3 a0 a))) a
  obtain ⟨u0,u1⟩:=a
  exact (body3_0 N (orc T (G N) live [] N 2) (orc T (G N) live [] N 1) q1 a0 u0 u1).trans hc) N a)
theorem G_ok (N:Nat):GamOK Try.prog (G N):=gam_ok (⟨spec_l10New.snd N,trivial⟩)
theorem snd (N:Nat):Sound Try.prog E 61 (sp N):=
 Mir.sound T_OK (G_ok N) mixed Try.func61 (c:=code) (by kernel_rfl) (by kernel_rfl) (sp N) (Nat.le_of_ble_eq_true (by kernel_rfl)) live [] (by
  rintro ⟨a0,_⟩ r h
  exact ⟨N,2,((run N _ a0).trans (congrArg (m0 N a0) (funext fun a=>lp3_eq N a0 a))).trans h⟩)
end spec_l11New
namespace spec_NewGroup
noncomputable def code:Code:=Try.f52.body.getD .skip
abbrev live:Live:=[]
noncomputable def G (N:Nat):Ctx E:=gam [(34,[],spec_l01In.sp N),(61,[],spec_l11New.sp N)]
theorem run (N:Nat) (o0:Orc E R) (a0:Int):runF T (G N) live [] Try.f52 code (sp N) o0 (a0,())=m N a0:=by kernel_rfl
theorem G_ok (N:Nat):GamOK Try.prog (G N):=gam_ok (⟨spec_l01In.snd N,spec_l11New.snd N,trivial⟩)
theorem snd (N:Nat):Sound Try.prog E 52 (sp N):=
 Mir.sound T_OK (G_ok N) mixed Try.func52 (c:=code) (by kernel_rfl) (by kernel_rfl) (sp N) (Nat.le_of_ble_eq_true (by kernel_rfl)) live [] (by
  rintro ⟨a0,_⟩ r h
  exact ⟨N,2,((run N _ a0).trans rfl).trans h⟩)
end spec_NewGroup
namespace spec_l10Own
noncomputable def code:Code:=Try.f67.body.getD .skip
abbrev live:Live:=[]
noncomputable def G (N:Nat):Ctx E:=gam []
theorem run (N:Nat) (o0:Orc E R) (a0:Node):runF T (G N) live [] Try.f67 code (sp N) o0 (a0,())=m N a0:=by kernel_rfl
theorem G_ok (N:Nat):GamOK Try.prog (G N):=gam_ok (trivial)
theorem snd (N:Nat):Sound Try.prog E 67 (sp N):=
 Mir.sound T_OK (G_ok N) mixed Try.func67 (c:=code) (by kernel_rfl) (by kernel_rfl) (sp N) (Nat.le_of_ble_eq_true (by kernel_rfl)) live [] (by
  rintro ⟨a0,_⟩ r h
  exact ⟨N,2,((run N _ a0).trans rfl).trans h⟩)
end spec_l10Own
namespace spec_l10Down
noncomputable def code:Code:=Try.f79.body.getD .skip
abbrev live:Live:=[(4,[1,2,3])]
noncomputable def G (N:Nat):Ctx E:=gam []
noncomputable def loop4:Code:=codeAt code [1,1,1,0,1,0]
noncomputable def body4:Code:=codeAt loop4 [0]
noncomputable def K4 (N:Nat) (o0:Orc E R):KT E R:=kAt T (G N) live [] o0 code [1,1,1,0,1,0] (kfin T Try.f79 (sp N))
noncomputable def St4 (a0:Node):(Int×Int×(List Int)×(List Int)×(List Int)×Int×Int×Int×Int×Int×Int×Int)→St E
 | (v0,v4,v11,v12,v13,v14,v15,v16,v17,v18,v19,v20)=>{ ρ:=[(1,.c (.at (.ptr 0 0))),(2,.c (.at (.ptr 6 0))),(3,.c (.at (.int .i64 v0)))],H:=[(0,.box 26 [.int .i64 a0.Id,.int .i64 a0.Term,.int .i64 a0.Vote,.own 1,.own 2,.int .i64 v4,.own 3,.own 4,.own 5,.int .i64 a0.Commit,.int .i64 a0.Elapsed,.int .i64 a0.Wait,.bool a0.Up]),(1,.row 35 (.st 35) a0.Log false),(2,.row 3 (.int .i64) a0.Start false),(3,.row 3 (.int .i64) v11 false),(4,.row 3 (.int .i64) v12 false),(5,.row 3 (.int .i64) v13 false),(6,.box 26 [.int .i64 v14,.int .i64 v15,.int .i64 v16,.nils,.nils,.int .i64 v17,.nils,.nils,.nils,.int .i64 v18,.int .i64 v19,.int .i64 v20,.bool false])],nx:=7,n:=20,pin:=[] }
theorem run (N:Nat) (o0:Orc E R) (a0:Node):runF T (G N) live [] Try.f79 code (sp N) o0 (a0,())=m0 N a0 (fun a=>o0 loop4 (K4 N o0) (St4 a0 a)):=by kernel_rfl
theorem body4_0 (N:Nat) (o0:Orc E R) (o1:Orc E R) (q1:St E→Option R) (a0:Node) (v0:Int) (v4:Int) (v11:List Int) (v12:List Int) (v13:List Int) (v14:Int) (v15:Int) (v16:Int) (v17:Int) (v18:Int) (v19:Int) (v20:Int):runA T (G N) live [] o1 body4 (St4 a0 (v0,v4,v11,v12,v13,v14,v15,v16,v17,v18,v19,v20)) (kloop [1,2,3] q1 (K4 N o0))=step4 N a0 (fun a=>q1 (St4 a0 a)) (v0,v4,v11,v12,v13,v14,v15,v16,v17,v18,v19,v20):=by kernel_rfl
theorem lp4_eq (N:Nat) (a0:Node) (a:Int×Int×(List Int)×(List Int)×(List Int)×Int×Int×Int×Int×Int×Int×Int):(orc T (G N) live [] N 2) loop4 (K4 N (orc T (G N) live [] N 2)) (St4 a0 a)=lp4 N a0 a:=
 (orc_loop (b:=body4) (live:=[1,2,3]) (by kernel_rfl)).trans (iter_eq (St4 a0) _ _ (fun q1 a=>by
  have hc:=congrFun (congrFun (rfl:(step4 N a0)=(step4 N a0)) (fun a=>q1 (St4 a0 a))) a
  obtain ⟨u0,u1,u2,u3,u4,u5,u6,u7,u8,u9,u10,u11⟩:=a
  exact (body4_0 N (orc T (G N) live [] N 2) (orc T (G N) live [] N 1) q1 a0 u0 u1 u2 u3 u4 u5 u6 u7 u8 u9 u10 u11).trans hc) N a)
theorem G_ok (N:Nat):GamOK Try.prog (G N):=gam_ok (trivial)
theorem snd (N:Nat):Sound Try.prog E 79 (sp N):=
 Mir.sound T_OK (G_ok N) mixed Try.func79 (c:=code) (by kernel_rfl) (by kernel_rfl) (sp N) (Nat.le_of_ble_eq_true (by kernel_rfl)) live [] (by
  rintro ⟨a0,_⟩ r h
  exact ⟨N,2,((run N _ a0).trans (congrArg (m0 N a0) (funext fun a=>lp4_eq N a0 a))).trans h⟩)
end spec_l10Down
namespace spec_l10Term
noncomputable def code:Code:=Try.f87.body.getD .skip
abbrev live:Live:=[]
noncomputable def G (N:Nat):Ctx E:=gam []
theorem run (N:Nat) (o0:Orc E R) (a0:Node) (a1:Int):runF T (G N) live [] Try.f87 code (sp N) o0 (a0,a1,())=m N a0 a1:=by kernel_rfl
theorem G_ok (N:Nat):GamOK Try.prog (G N):=gam_ok (trivial)
theorem snd (N:Nat):Sound Try.prog E 87 (sp N):=
 Mir.sound T_OK (G_ok N) mixed Try.func87 (c:=code) (by kernel_rfl) (by kernel_rfl) (sp N) (Nat.le_of_ble_eq_true (by kernel_rfl)) live [] (by
  rintro ⟨a0,a1,_⟩ r h
  exact ⟨N,2,((run N _ a0 a1).trans rfl).trans h⟩)
end spec_l10Term
namespace spec_l10UpToDate
noncomputable def code:Code:=Try.f88.body.getD .skip
abbrev live:Live:=[]
noncomputable def G (N:Nat):Ctx E:=gam [(87,[],spec_l10Term.sp N)]
theorem run (N:Nat) (o0:Orc E R) (a0:Node) (a1:Int) (a2:Int):runF T (G N) live [] Try.f88 code (sp N) o0 (a0,a1,a2,())=m N a0 a1 a2:=by kernel_rfl
theorem G_ok (N:Nat):GamOK Try.prog (G N):=gam_ok (⟨spec_l10Term.snd N,trivial⟩)
theorem snd (N:Nat):Sound Try.prog E 88 (sp N):=
 Mir.sound T_OK (G_ok N) mixed Try.func88 (c:=code) (by kernel_rfl) (by kernel_rfl) (sp N) (Nat.le_of_ble_eq_true (by kernel_rfl)) live [] (by
  rintro ⟨a0,a1,a2,_⟩ r h
  exact ⟨N,2,((run N _ a0 a1 a2).trans rfl).trans h⟩)
end spec_l10UpToDate
namespace spec_l10Vote
noncomputable def code:Code:=Try.f80.body.getD .skip
abbrev live:Live:=[]
noncomputable def G (N:Nat):Ctx E:=gam [(88,[],spec_l10UpToDate.sp N)]
theorem run (N:Nat) (o0:Orc E R) (a0:Node) (a1:Message):runF T (G N) live [] Try.f80 code (sp N) o0 (a0,a1,())=m N a0 a1:=by kernel_rfl
theorem G_ok (N:Nat):GamOK Try.prog (G N):=gam_ok (⟨spec_l10UpToDate.snd N,trivial⟩)
theorem snd (N:Nat):Sound Try.prog E 80 (sp N):=
 Mir.sound T_OK (G_ok N) mixed Try.func80 (c:=code) (by kernel_rfl) (by kernel_rfl) (sp N) (Nat.le_of_ble_eq_true (by kernel_rfl)) live [] (by
  rintro ⟨a0,a1,_⟩ r h
  exact ⟨N,2,((run N _ a0 a1).trans rfl).trans h⟩)
end spec_l10Vote
namespace spec_l10Has
noncomputable def code:Code:=Try.f37.body.getD .skip
abbrev live:Live:=[(2,[0,1,5])]
noncomputable def G (N:Nat):Ctx E:=gam []
noncomputable def loop2:Code:=codeAt code [1,0,1,0]
noncomputable def body2:Code:=codeAt loop2 [0]
noncomputable def K2 (N:Nat) (o0:Orc E R):KT E R:=kAt T (G N) live [] o0 code [1,0,1,0] (kfin T Try.f37 (sp N))
noncomputable def St2 (a0:List Int) (a1:Int):Int→St E
 | v2=>{ ρ:=[(0,.c (.at (.ro 3 (.int .i64) a0))),(1,.c (.at (.int .i64 a1))),(5,.c (.at (.int .i64 v2)))],H:=[],nx:=0,n:=18,pin:=[] }
theorem run (N:Nat) (o0:Orc E R) (a0:List Int) (a1:Int):runF T (G N) live [] Try.f37 code (sp N) o0 (a0,a1,())=m0 N a0 a1 (fun a=>o0 loop2 (K2 N o0) (St2 a0 a1 a)):=by kernel_rfl
theorem body2_0 (N:Nat) (o0:Orc E R) (o1:Orc E R) (q1:St E→Option R) (a0:List Int) (a1:Int) (v2:Int):runA T (G N) live [] o1 body2 (St2 a0 a1 v2) (kloop [0,1,5] q1 (K2 N o0))=step2 N a0 a1 (fun a=>q1 (St2 a0 a1 a)) v2:=by kernel_rfl
theorem lp2_eq (N:Nat) (a0:List Int) (a1:Int) (a:Int):(orc T (G N) live [] N 2) loop2 (K2 N (orc T (G N) live [] N 2)) (St2 a0 a1 a)=lp2 N a0 a1 a:=
 (orc_loop (b:=body2) (live:=[0,1,5]) (by kernel_rfl)).trans (iter_eq (St2 a0 a1) _ _ (fun q1 a=>by
  have hc:=congrFun (congrFun (rfl:(step2 N a0 a1)=(step2 N a0 a1)) (fun a=>q1 (St2 a0 a1 a))) a
  exact (body2_0 N (orc T (G N) live [] N 2) (orc T (G N) live [] N 1) q1 a0 a1 a).trans hc) N a)
theorem G_ok (N:Nat):GamOK Try.prog (G N):=gam_ok (trivial)
theorem snd (N:Nat):Sound Try.prog E 37 (sp N):=
 Mir.sound T_OK (G_ok N) mixed Try.func37 (c:=code) (by kernel_rfl) (by kernel_rfl) (sp N) (Nat.le_of_ble_eq_true (by kernel_rfl)) live [] (by
  rintro ⟨a0,a1,_⟩ r h
  exact ⟨N,2,((run N _ a0 a1).trans (congrArg (m0 N a0 a1) (funext fun a=>lp2_eq N a0 a1 a))).trans h⟩)
end spec_l10Has
namespace spec_l02Members
noncomputable def code:Code:=Try.f41.body.getD .skip
abbrev live:Live:=[(3,[0,4,5])]
noncomputable def G (N:Nat):Ctx E:=gam [(34,[],spec_l01In.sp N)]
noncomputable def loop3:Code:=codeAt code [1,1,0,1,0]
noncomputable def body3:Code:=codeAt loop3 [0]
noncomputable def K3 (N:Nat) (o0:Orc E R):KT E R:=kAt T (G N) live [] o0 code [1,1,0,1,0] (kfin T Try.f41 (sp N))
noncomputable def St3 (a0:ByteArray):(Int×(List Int))→St E
 | (v1,v2)=>{ ρ:=[(0,.c (.at (.str a0))),(4,.c (.at (.own 0))),(5,.c (.at (.int .i64 v1)))],H:=[(0,.row 3 (.int .i64) v2 false)],nx:=1,n:=45,pin:=[] }
theorem run (N:Nat) (o0:Orc E R) (a0:ByteArray):runF T (G N) live [] Try.f41 code (sp N) o0 (a0,())=m0 N a0 (fun a=>o0 loop3 (K3 N o0) (St3 a0 a)):=by kernel_rfl
theorem body3_0 (N:Nat) (o0:Orc E R) (o1:Orc E R) (q1:St E→Option R) (a0:ByteArray) (v1:Int) (v2:List Int):runA T (G N) live [] o1 body3 (St3 a0 (v1,v2)) (kloop [0,4,5] q1 (K3 N o0))=step3 N a0 (fun a=>q1 (St3 a0 a)) (v1,v2):=by kernel_rfl
theorem lp3_eq (N:Nat) (a0:ByteArray) (a:Int×(List Int)):(orc T (G N) live [] N 2) loop3 (K3 N (orc T (G N) live [] N 2)) (St3 a0 a)=lp3 N a0 a:=
 (orc_loop (b:=body3) (live:=[0,4,5]) (by kernel_rfl)).trans (iter_eq (St3 a0) _ _ (fun q1 a=>by
  have hc:=congrFun (congrFun (rfl:(step3 N a0)=(step3 N a0)) (fun a=>q1 (St3 a0 a))) a
  obtain ⟨u0,u1⟩:=a
  exact (body3_0 N (orc T (G N) live [] N 2) (orc T (G N) live [] N 1) q1 a0 u0 u1).trans hc) N a)
theorem G_ok (N:Nat):GamOK Try.prog (G N):=gam_ok (⟨spec_l01In.snd N,trivial⟩)
theorem snd (N:Nat):Sound Try.prog E 41 (sp N):=
 Mir.sound T_OK (G_ok N) mixed Try.func41 (c:=code) (by kernel_rfl) (by kernel_rfl) (sp N) (Nat.le_of_ble_eq_true (by kernel_rfl)) live [] (by
  rintro ⟨a0,_⟩ r h
  exact ⟨N,2,((run N _ a0).trans (congrArg (m0 N a0) (funext fun a=>lp3_eq N a0 a))).trans h⟩)
end spec_l02Members
namespace spec_l10Members
noncomputable def code:Code:=Try.f21.body.getD .skip
abbrev live:Live:=[(2,[0,1,3])]
noncomputable def G (N:Nat):Ctx E:=gam [(41,[],spec_l02Members.sp N)]
noncomputable def loop2:Code:=codeAt code [1,0,1,0]
noncomputable def body2:Code:=codeAt loop2 [0]
noncomputable def K2 (N:Nat) (o0:Orc E R):KT E R:=kAt T (G N) live [] o0 code [1,0,1,0] (kfin T Try.f21 (sp N))
noncomputable def St2 (a0:Node):Int→St E
 | v9=>{ ρ:=[(0,.c (.agg [.int .i64 a0.Id,.int .i64 a0.Term,.int .i64 a0.Vote,.own 0,.ro 3 (.int .i64) a0.Start,.int .i64 a0.Role,.own 1,.own 2,.own 3,.int .i64 a0.Commit,.int .i64 a0.Elapsed,.int .i64 a0.Wait,.bool a0.Up])),(1,.c (.at (.ptr 4 0))),(3,.c (.at (.int .i64 v9)))],H:=[(0,.row 35 (.st 35) a0.Log false),(1,.row 3 (.int .i64) a0.Votes false),(2,.row 3 (.int .i64) a0.Next false),(3,.row 3 (.int .i64) a0.Match false),(4,.box 26 [.int .i64 a0.Id,.int .i64 a0.Term,.int .i64 a0.Vote,.own 0,.ro 3 (.int .i64) a0.Start,.int .i64 a0.Role,.own 1,.own 2,.own 3,.int .i64 a0.Commit,.int .i64 a0.Elapsed,.int .i64 a0.Wait,.bool a0.Up])],nx:=5,n:=34,pin:=[0] }
theorem run (N:Nat) (o0:Orc E R) (a0:Node):runF T (G N) live [] Try.f21 code (sp N) o0 (a0,())=m0 N a0 (fun a=>o0 loop2 (K2 N o0) (St2 a0 a)):=by kernel_rfl
theorem body2_0 (N:Nat) (o0:Orc E R) (o1:Orc E R) (q1:St E→Option R) (a0:Node) (v9:Int):runA T (G N) live [] o1 body2 (St2 a0 v9) (kloop [0,1,3] q1 (K2 N o0))=step2 N a0 (fun a=>q1 (St2 a0 a)) v9:=by kernel_rfl
theorem lp2_eq (N:Nat) (a0:Node) (a:Int):(orc T (G N) live [] N 2) loop2 (K2 N (orc T (G N) live [] N 2)) (St2 a0 a)=lp2 N a0 a:=
 (orc_loop (b:=body2) (live:=[0,1,3]) (by kernel_rfl)).trans (iter_eq (St2 a0) _ _ (fun q1 a=>by
  have hc:=congrFun (congrFun (rfl:(step2 N a0)=(step2 N a0)) (fun a=>q1 (St2 a0 a))) a
  exact (body2_0 N (orc T (G N) live [] N 2) (orc T (G N) live [] N 1) q1 a0 a).trans hc) N a)
theorem G_ok (N:Nat):GamOK Try.prog (G N):=gam_ok (⟨spec_l02Members.snd N,trivial⟩)
theorem snd (N:Nat):Sound Try.prog E 21 (sp N):=
 Mir.sound T_OK (G_ok N) mixed Try.func21 (c:=code) (by kernel_rfl) (by kernel_rfl) (sp N) (Nat.le_of_ble_eq_true (by kernel_rfl)) live [] (by
  rintro ⟨a0,_⟩ r h
  exact ⟨N,2,((run N _ a0).trans (congrArg (m0 N a0) (funext fun a=>lp2_eq N a0 a))).trans h⟩)
end spec_l10Members
namespace spec_l01Bit
noncomputable def code:Code:=Try.f36.body.getD .skip
abbrev live:Live:=[]
noncomputable def G (N:Nat):Ctx E:=gam []
theorem run (N:Nat) (o0:Orc E R) (a0:Bool):runF T (G N) live [] Try.f36 code (sp N) o0 (a0,())=m N a0:=by kernel_rfl
theorem G_ok (N:Nat):GamOK Try.prog (G N):=gam_ok (trivial)
theorem snd (N:Nat):Sound Try.prog E 36 (sp N):=
 Mir.sound T_OK (G_ok N) mixed Try.func36 (c:=code) (by kernel_rfl) (by kernel_rfl) (sp N) (Nat.le_of_ble_eq_true (by kernel_rfl)) live [] (by
  rintro ⟨a0,_⟩ r h
  exact ⟨N,2,((run N _ a0).trans rfl).trans h⟩)
end spec_l01Bit
namespace spec_l10Most
noncomputable def code:Code:=Try.f85.body.getD .skip
abbrev live:Live:=[(3,[0,1,5,6])]
noncomputable def G (N:Nat):Ctx E:=gam [(37,[],spec_l10Has.sp N),(36,[],spec_l01Bit.sp N)]
noncomputable def loop3:Code:=codeAt code [1,1,0,1,0]
noncomputable def body3:Code:=codeAt loop3 [0]
noncomputable def K3 (N:Nat) (o0:Orc E R):KT E R:=kAt T (G N) live [] o0 code [1,1,0,1,0] (kfin T Try.f85 (sp N))
noncomputable def St3 (a0:List Int) (a1:List Int):(Int×Int)→St E
 | (v2,v3)=>{ ρ:=[(0,.c (.at (.ro 3 (.int .i64) a0))),(1,.c (.at (.ro 3 (.int .i64) a1))),(5,.c (.at (.int .i64 v2))),(6,.c (.at (.int .i64 v3)))],H:=[],nx:=0,n:=27,pin:=[] }
theorem run (N:Nat) (o0:Orc E R) (a0:List Int) (a1:List Int):runF T (G N) live [] Try.f85 code (sp N) o0 (a0,a1,())=m0 N a0 a1 (fun a=>o0 loop3 (K3 N o0) (St3 a0 a1 a)):=by kernel_rfl
theorem body3_0 (N:Nat) (o0:Orc E R) (o1:Orc E R) (q1:St E→Option R) (a0:List Int) (a1:List Int) (v2:Int) (v3:Int):runA T (G N) live [] o1 body3 (St3 a0 a1 (v2,v3)) (kloop [0,1,5,6] q1 (K3 N o0))=step3 N a0 a1 (fun a=>q1 (St3 a0 a1 a)) (v2,v3):=by kernel_rfl
theorem lp3_eq (N:Nat) (a0:List Int) (a1:List Int) (a:Int×Int):(orc T (G N) live [] N 2) loop3 (K3 N (orc T (G N) live [] N 2)) (St3 a0 a1 a)=lp3 N a0 a1 a:=
 (orc_loop (b:=body3) (live:=[0,1,5,6]) (by kernel_rfl)).trans (iter_eq (St3 a0 a1) _ _ (fun q1 a=>by
  have hc:=congrFun (congrFun (rfl:(step3 N a0 a1)=(step3 N a0 a1)) (fun a=>q1 (St3 a0 a1 a))) a
  obtain ⟨u0,u1⟩:=a
  exact (body3_0 N (orc T (G N) live [] N 2) (orc T (G N) live [] N 1) q1 a0 a1 u0 u1).trans hc) N a)
theorem G_ok (N:Nat):GamOK Try.prog (G N):=gam_ok (⟨spec_l10Has.snd N,spec_l01Bit.snd N,trivial⟩)
theorem snd (N:Nat):Sound Try.prog E 85 (sp N):=
 Mir.sound T_OK (G_ok N) mixed Try.func85 (c:=code) (by kernel_rfl) (by kernel_rfl) (sp N) (Nat.le_of_ble_eq_true (by kernel_rfl)) live [] (by
  rintro ⟨a0,a1,_⟩ r h
  exact ⟨N,2,((run N _ a0 a1).trans (congrArg (m0 N a0 a1) (funext fun a=>lp3_eq N a0 a1 a))).trans h⟩)
end spec_l10Most
namespace spec_l10Members_
noncomputable def code:Code:=Try.f21.body.getD .skip
abbrev live:Live:=[(2,[1,3])]
noncomputable def G (N:Nat):Ctx E:=gam [(41,[],spec_l02Members.sp N)]
noncomputable def loop2:Code:=codeAt code [1,0,1,0]
noncomputable def body2:Code:=codeAt loop2 [0]
noncomputable def K2 (N:Nat) (o0:Orc E R):KT E R:=kAt T (G N) live [] o0 code [1,0,1,0] (kfin T Try.f21 (sp N))
noncomputable def St2 (a0:Node):Int→St E
 | v0=>{ ρ:=[(1,.c (.at (.ptr 0 0))),(3,.c (.at (.int .i64 v0)))],H:=[(0,.box 26 [.int .i64 a0.Id,.int .i64 a0.Term,.int .i64 a0.Vote,.ro 35 (.st 35) a0.Log,.ro 3 (.int .i64) a0.Start,.int .i64 a0.Role,.ro 3 (.int .i64) a0.Votes,.ro 3 (.int .i64) a0.Next,.ro 3 (.int .i64) a0.Match,.int .i64 a0.Commit,.int .i64 a0.Elapsed,.int .i64 a0.Wait,.bool a0.Up])],nx:=1,n:=34,pin:=[] }
theorem run (N:Nat) (o0:Orc E R) (a0:Node):runF T (G N) live [] Try.f21 code (sp N) o0 (a0,())=m0 N a0 (fun a=>o0 loop2 (K2 N o0) (St2 a0 a)):=by kernel_rfl
theorem body2_0 (N:Nat) (o0:Orc E R) (o1:Orc E R) (q1:St E→Option R) (a0:Node) (v0:Int):runA T (G N) live [] o1 body2 (St2 a0 v0) (kloop [1,3] q1 (K2 N o0))=step2 N a0 (fun a=>q1 (St2 a0 a)) v0:=by kernel_rfl
theorem lp2_eq (N:Nat) (a0:Node) (a:Int):(orc T (G N) live [] N 2) loop2 (K2 N (orc T (G N) live [] N 2)) (St2 a0 a)=lp2 N a0 a:=
 (orc_loop (b:=body2) (live:=[1,3]) (by kernel_rfl)).trans (iter_eq (St2 a0) _ _ (fun q1 a=>by
  have hc:=congrFun (congrFun (rfl:(step2 N a0)=(step2 N a0)) (fun a=>q1 (St2 a0 a))) a
  exact (body2_0 N (orc T (G N) live [] N 2) (orc T (G N) live [] N 1) q1 a0 a).trans hc) N a)
theorem G_ok (N:Nat):GamOK Try.prog (G N):=gam_ok (⟨spec_l02Members.snd N,trivial⟩)
theorem snd (N:Nat):Sound Try.prog E 21 (sp N):=
 Mir.sound T_OK (G_ok N) mixed Try.func21 (c:=code) (by kernel_rfl) (by kernel_rfl) (sp N) (Nat.le_of_ble_eq_true (by kernel_rfl)) live [] (by
  rintro ⟨a0,_⟩ r h
  exact ⟨N,2,((run N _ a0).trans (congrArg (m0 N a0) (funext fun a=>lp2_eq N a0 a))).trans h⟩)
end spec_l10Members_
namespace spec_l10Advance
noncomputable def code:Code:=Try.f75.body.getD .skip
abbrev live:Live:=[(7,[1,2,3,4,5,6]),(3,[1,2,3,4])]
noncomputable def G (N:Nat):Ctx E:=gam [(21,[],spec_l10Members_.sp N),(85,[],spec_l10Most.sp N)]
noncomputable def loop3:Code:=codeAt code [1,1,0,1,0]
noncomputable def body3:Code:=codeAt loop3 [0]
noncomputable def loop7:Code:=codeAt body3 [1,0,0,1,0,1,0]
noncomputable def body7:Code:=codeAt loop7 [0]
noncomputable def K3 (N:Nat) (o0:Orc E R):KT E R:=kAt T (G N) live [] o0 code [1,1,0,1,0] (kfin T Try.f75 (sp N))
noncomputable def St3 (a0:Node):((List Int)×Int×Int×Int×Int×(List Entry)×(List Int)×Int×(List Int)×(List Int)×(List Int)×Int×Int×Int×Bool×Int×Int×Int×Int×Int×Int×Int)→St E
 | (v0,v1,v2,v3,v4,v5,v6,v7,v8,v9,v10,v11,v12,v13,v14,v15,v16,v17,v18,v19,v20,v21)=>{ ρ:=[(1,.c (.at (.ptr 0 0))),(2,.c (.at (.ptr 1 0))),(3,.c (.at (.ro 3 (.int .i64) v0))),(4,.c (.at (.int .i64 v1)))],H:=[(0,.box 26 [.int .i64 v2,.int .i64 v3,.int .i64 v4,.ro 35 (.st 35) v5,.ro 3 (.int .i64) v6,.int .i64 v7,.ro 3 (.int .i64) v8,.ro 3 (.int .i64) v9,.ro 3 (.int .i64) v10,.int .i64 v11,.int .i64 v12,.int .i64 v13,.bool v14]),(1,.box 26 [.int .i64 v15,.int .i64 v16,.int .i64 v17,.nils,.nils,.int .i64 v18,.nils,.nils,.nils,.int .i64 v19,.int .i64 v20,.int .i64 v21,.bool false])],nx:=2,n:=60,pin:=[] }
noncomputable def K7 (N:Nat) (o0:Orc E R) (o1:Orc E R) (q1:St E→Option R):KT E R:=kAt T (G N) live [] o1 body3 [1,0,0,1,0,1,0] (kloop [1,2,3,4] q1 (K3 N o0))
noncomputable def St7 (a0:Node):((List Int)×Int×Int×Int×Int×Int×(List Entry)×(List Int)×Int×(List Int)×(List Int)×(List Int)×Int×Int×Int×Bool×Int×Int×Int×Int×Int×Int×Int×(List Int))→St E
 | (v0,v1,v2,v3,v4,v5,v6,v7,v8,v9,v10,v11,v12,v13,v14,v15,v16,v17,v18,v19,v20,v21,v22,v23)=>{ ρ:=[(1,.c (.at (.ptr 0 0))),(2,.c (.at (.ptr 1 0))),(3,.c (.at (.ro 3 (.int .i64) v0))),(4,.c (.at (.int .i64 v1))),(5,.c (.at (.own 2))),(6,.c (.at (.int .i64 v2)))],H:=[(0,.box 26 [.int .i64 v3,.int .i64 v4,.int .i64 v5,.ro 35 (.st 35) v6,.ro 3 (.int .i64) v7,.int .i64 v8,.ro 3 (.int .i64) v9,.ro 3 (.int .i64) v10,.ro 3 (.int .i64) v11,.int .i64 v12,.int .i64 v13,.int .i64 v14,.bool v15]),(1,.box 26 [.int .i64 v16,.int .i64 v17,.int .i64 v18,.nils,.nils,.int .i64 v19,.nils,.nils,.nils,.int .i64 v20,.int .i64 v21,.int .i64 v22,.bool false]),(2,.row 3 (.int .i64) v23 false)],nx:=3,n:=60,pin:=[] }
theorem run (N:Nat) (o0:Orc E R) (a0:Node):runF T (G N) live [] Try.f75 code (sp N) o0 (a0,())=m0 N a0 (fun a=>o0 loop3 (K3 N o0) (St3 a0 a)):=by kernel_rfl
theorem body3_0 (N:Nat) (o0:Orc E R) (o1:Orc E R) (q1:St E→Option R) (a0:Node) (v0:List Int) (v1:Int) (v2:Int) (v3:Int) (v4:Int) (v5:List Entry) (v6:List Int) (v7:Int) (v8:List Int) (v9:List Int) (v10:List Int) (v11:Int) (v12:Int) (v13:Int) (v14:Bool) (v15:Int) (v16:Int) (v17:Int) (v18:Int) (v19:Int) (v20:Int) (v21:Int):runA T (G N) live [] o1 body3 (St3 a0 (v0,v1,v2,v3,v4,v5,v6,v7,v8,v9,v10,v11,v12,v13,v14,v15,v16,v17,v18,v19,v20,v21)) (kloop [1,2,3,4] q1 (K3 N o0))=step3 N a0 (fun a=>o1 loop7 (K7 N o0 o1 q1) (St7 a0 a)) (fun a=>q1 (St3 a0 a)) (v0,v1,v2,v3,v4,v5,v6,v7,v8,v9,v10,v11,v12,v13,v14,v15,v16,v17,v18,v19,v20,v21):=by kernel_rfl
theorem body7_0 (N:Nat) (o0:Orc E R) (o1:Orc E R) (o2:Orc E R) (q1:St E→Option R) (q2:St E→Option R) (a0:Node) (v0:List Int) (v1:Int) (v2:Int) (v3:Int) (v4:Int) (v5:Int) (v6:List Entry) (v7:List Int) (v8:Int) (v9:List Int) (v10:List Int) (v11:List Int) (v12:Int) (v13:Int) (v14:Int) (v15:Bool) (v16:Int) (v17:Int) (v18:Int) (v19:Int) (v20:Int) (v21:Int) (v22:Int) (v23:List Int):runA T (G N) live [] o2 body7 (St7 a0 (v0,v1,v2,v3,v4,v5,v6,v7,v8,v9,v10,v11,v12,v13,v14,v15,v16,v17,v18,v19,v20,v21,v22,v23)) (kloop [1,2,3,4,5,6] q2 (K7 N o0 o1 q1))=step7 N a0 (fun a=>q1 (St3 a0 a)) (fun a=>q2 (St7 a0 a)) (v0,v1,v2,v3,v4,v5,v6,v7,v8,v9,v10,v11,v12,v13,v14,v15,v16,v17,v18,v19,v20,v21,v22,v23):=by kernel_rfl
theorem lp7_eq (N:Nat) (a0:Node) (q1:St E→Option R) (a:(List Int)×Int×Int×Int×Int×Int×(List Entry)×(List Int)×Int×(List Int)×(List Int)×(List Int)×Int×Int×Int×Bool×Int×Int×Int×Int×Int×Int×Int×(List Int)):(orc T (G N) live [] N 2) loop7 (K7 N (orc T (G N) live [] N 3) (orc T (G N) live [] N 2) q1) (St7 a0 a)=lp7 N a0 (fun a=>q1 (St3 a0 a)) a:=
 (orc_loop (b:=body7) (live:=[1,2,3,4,5,6]) (by kernel_rfl)).trans (iter_eq (St7 a0) _ _ (fun q2 a=>by
  have hc:=congrFun (congrFun (congrArg (step7 N a0) (Eq.refl (fun a=>q1 (St3 a0 a)))) (fun a=>q2 (St7 a0 a))) a
  obtain ⟨u0,u1,u2,u3,u4,u5,u6,u7,u8,u9,u10,u11,u12,u13,u14,u15,u16,u17,u18,u19,u20,u21,u22,u23⟩:=a
  exact (body7_0 N (orc T (G N) live [] N 3) (orc T (G N) live [] N 2) (orc T (G N) live [] N 1) q1 q2 a0 u0 u1 u2 u3 u4 u5 u6 u7 u8 u9 u10 u11 u12 u13 u14 u15 u16 u17 u18 u19 u20 u21 u22 u23).trans hc) N a)
theorem lp3_eq (N:Nat) (a0:Node) (a:(List Int)×Int×Int×Int×Int×(List Entry)×(List Int)×Int×(List Int)×(List Int)×(List Int)×Int×Int×Int×Bool×Int×Int×Int×Int×Int×Int×Int):(orc T (G N) live [] N 3) loop3 (K3 N (orc T (G N) live [] N 3)) (St3 a0 a)=lp3 N a0 a:=
 (orc_loop (b:=body3) (live:=[1,2,3,4]) (by kernel_rfl)).trans (iter_eq (St3 a0) _ _ (fun q1 a=>by
  have hc:=congrFun (congrFun (congrArg (step3 N a0) (funext fun a=>lp7_eq N a0 q1 a)) (fun a=>q1 (St3 a0 a))) a
  obtain ⟨u0,u1,u2,u3,u4,u5,u6,u7,u8,u9,u10,u11,u12,u13,u14,u15,u16,u17,u18,u19,u20,u21⟩:=a
  exact (body3_0 N (orc T (G N) live [] N 3) (orc T (G N) live [] N 2) q1 a0 u0 u1 u2 u3 u4 u5 u6 u7 u8 u9 u10 u11 u12 u13 u14 u15 u16 u17 u18 u19 u20 u21).trans hc) N a)
theorem G_ok (N:Nat):GamOK Try.prog (G N):=gam_ok (⟨spec_l10Members_.snd N,spec_l10Most.snd N,trivial⟩)
theorem snd (N:Nat):Sound Try.prog E 75 (sp N):=
 Mir.sound T_OK (G_ok N) mixed Try.func75 (c:=code) (by kernel_rfl) (by kernel_rfl) (sp N) (Nat.le_of_ble_eq_true (by kernel_rfl)) live [] (by
  rintro ⟨a0,_⟩ r h
  exact ⟨N,3,((run N _ a0).trans (congrArg (m0 N a0) (funext fun a=>lp3_eq N a0 a))).trans h⟩)
end spec_l10Advance
namespace spec_l10Append
noncomputable def code:Code:=Try.f84.body.getD .skip
abbrev live:Live:=[]
noncomputable def G (N:Nat):Ctx E:=gam [(87,[],spec_l10Term.sp N)]
theorem run (N:Nat) (o0:Orc E R) (a0:Node) (a1:Int):runF T (G N) live [] Try.f84 code (sp N) o0 (a0,a1,())=m N a0 a1:=by kernel_rfl
theorem G_ok (N:Nat):GamOK Try.prog (G N):=gam_ok (⟨spec_l10Term.snd N,trivial⟩)
theorem snd (N:Nat):Sound Try.prog E 84 (sp N):=
 Mir.sound T_OK (G_ok N) mixed Try.func84 (c:=code) (by kernel_rfl) (by kernel_rfl) (sp N) (Nat.le_of_ble_eq_true (by kernel_rfl)) live [] (by
  rintro ⟨a0,a1,_⟩ r h
  exact ⟨N,2,((run N _ a0 a1).trans rfl).trans h⟩)
end spec_l10Append
namespace spec_l10Tell
noncomputable def code:Code:=Try.f73.body.getD .skip
abbrev live:Live:=[(4,[1,3,4,5])]
noncomputable def G (N:Nat):Ctx E:=gam [(21,[],spec_l10Members_.sp N),(84,[],spec_l10Append.sp N)]
noncomputable def loop4:Code:=codeAt code [1,1,1,0,1,0]
noncomputable def body4:Code:=codeAt loop4 [0]
noncomputable def K4 (N:Nat) (o0:Orc E R):KT E R:=kAt T (G N) live [] o0 code [1,1,1,0,1,0] (kfin T Try.f73 (sp N))
noncomputable def St4 (a0:Node):((List Int)×Int×(List Message))→St E
 | (v0,v1,v15)=>{ ρ:=[(1,.c (.at (.ptr 0 0))),(3,.c (.at (.own 1))),(4,.c (.at (.ro 3 (.int .i64) v0))),(5,.c (.at (.int .i64 v1)))],H:=[(0,.box 26 [.int .i64 a0.Id,.int .i64 a0.Term,.int .i64 a0.Vote,.ro 35 (.st 35) a0.Log,.ro 3 (.int .i64) a0.Start,.int .i64 a0.Role,.ro 3 (.int .i64) a0.Votes,.ro 3 (.int .i64) a0.Next,.ro 3 (.int .i64) a0.Match,.int .i64 a0.Commit,.int .i64 a0.Elapsed,.int .i64 a0.Wait,.bool a0.Up]),(1,.row 97 (.st 97) v15 false)],nx:=2,n:=32,pin:=[] }
theorem run (N:Nat) (o0:Orc E R) (a0:Node):runF T (G N) live [] Try.f73 code (sp N) o0 (a0,())=m0 N a0 (fun a=>o0 loop4 (K4 N o0) (St4 a0 a)):=by kernel_rfl
theorem body4_0 (N:Nat) (o0:Orc E R) (o1:Orc E R) (q1:St E→Option R) (a0:Node) (v0:List Int) (v1:Int) (v15:List Message):runA T (G N) live [] o1 body4 (St4 a0 (v0,v1,v15)) (kloop [1,3,4,5] q1 (K4 N o0))=step4 N a0 (fun a=>q1 (St4 a0 a)) (v0,v1,v15):=by kernel_rfl
theorem lp4_eq (N:Nat) (a0:Node) (a:(List Int)×Int×(List Message)):(orc T (G N) live [] N 2) loop4 (K4 N (orc T (G N) live [] N 2)) (St4 a0 a)=lp4 N a0 a:=
 (orc_loop (b:=body4) (live:=[1,3,4,5]) (by kernel_rfl)).trans (iter_eq (St4 a0) _ _ (fun q1 a=>by
  have hc:=congrFun (congrFun (rfl:(step4 N a0)=(step4 N a0)) (fun a=>q1 (St4 a0 a))) a
  obtain ⟨u0,u1,u2⟩:=a
  exact (body4_0 N (orc T (G N) live [] N 2) (orc T (G N) live [] N 1) q1 a0 u0 u1 u2).trans hc) N a)
theorem G_ok (N:Nat):GamOK Try.prog (G N):=gam_ok (⟨spec_l10Members_.snd N,spec_l10Append.snd N,trivial⟩)
theorem snd (N:Nat):Sound Try.prog E 73 (sp N):=
 Mir.sound T_OK (G_ok N) mixed Try.func73 (c:=code) (by kernel_rfl) (by kernel_rfl) (sp N) (Nat.le_of_ble_eq_true (by kernel_rfl)) live [] (by
  rintro ⟨a0,_⟩ r h
  exact ⟨N,2,((run N _ a0).trans (congrArg (m0 N a0) (funext fun a=>lp4_eq N a0 a))).trans h⟩)
end spec_l10Tell
namespace spec_l10Lead
noncomputable def code:Code:=Try.f86.body.getD .skip
abbrev live:Live:=[(4,[1,2,4])]
noncomputable def G (N:Nat):Ctx E:=gam [(75,[],spec_l10Advance.sp N),(73,[],spec_l10Tell.sp N)]
noncomputable def loop4:Code:=codeAt code [1,1,1,0,1,0]
noncomputable def body4:Code:=codeAt loop4 [0]
noncomputable def K4 (N:Nat) (o0:Orc E R):KT E R:=kAt T (G N) live [] o0 code [1,1,1,0,1,0] (kfin T Try.f86 (sp N))
noncomputable def St4 (a0:Node):(Int×Int×Int×(List Int)×(List Int)×Int×Int×Int×Int×Int×Int×Int)→St E
 | (v0,v5,v7,v12,v13,v14,v15,v16,v17,v18,v19,v20)=>{ ρ:=[(1,.c (.at (.ptr 0 0))),(2,.c (.at (.ptr 5 0))),(4,.c (.at (.int .i64 v0)))],H:=[(0,.box 26 [.int .i64 a0.Id,.int .i64 a0.Term,.int .i64 a0.Vote,.own 1,.ro 3 (.int .i64) a0.Start,.int .i64 v5,.own 2,.own 3,.own 4,.int .i64 a0.Commit,.int .i64 v7,.int .i64 a0.Wait,.bool a0.Up]),(1,.row 35 (.st 35) a0.Log false),(2,.row 3 (.int .i64) a0.Votes false),(3,.row 3 (.int .i64) v12 false),(4,.row 3 (.int .i64) v13 false),(5,.box 26 [.int .i64 v14,.int .i64 v15,.int .i64 v16,.nils,.nils,.int .i64 v17,.nils,.nils,.nils,.int .i64 v18,.int .i64 v19,.int .i64 v20,.bool false])],nx:=6,n:=39,pin:=[] }
theorem run (N:Nat) (o0:Orc E R) (a0:Node):runF T (G N) live [] Try.f86 code (sp N) o0 (a0,())=m0 N a0 (fun a=>o0 loop4 (K4 N o0) (St4 a0 a)):=by kernel_rfl
theorem body4_0 (N:Nat) (o0:Orc E R) (o1:Orc E R) (q1:St E→Option R) (a0:Node) (v0:Int) (v5:Int) (v7:Int) (v12:List Int) (v13:List Int) (v14:Int) (v15:Int) (v16:Int) (v17:Int) (v18:Int) (v19:Int) (v20:Int):runA T (G N) live [] o1 body4 (St4 a0 (v0,v5,v7,v12,v13,v14,v15,v16,v17,v18,v19,v20)) (kloop [1,2,4] q1 (K4 N o0))=step4 N a0 (fun a=>q1 (St4 a0 a)) (v0,v5,v7,v12,v13,v14,v15,v16,v17,v18,v19,v20):=by kernel_rfl
theorem lp4_eq (N:Nat) (a0:Node) (a:Int×Int×Int×(List Int)×(List Int)×Int×Int×Int×Int×Int×Int×Int):(orc T (G N) live [] N 2) loop4 (K4 N (orc T (G N) live [] N 2)) (St4 a0 a)=lp4 N a0 a:=
 (orc_loop (b:=body4) (live:=[1,2,4]) (by kernel_rfl)).trans (iter_eq (St4 a0) _ _ (fun q1 a=>by
  have hc:=congrFun (congrFun (rfl:(step4 N a0)=(step4 N a0)) (fun a=>q1 (St4 a0 a))) a
  obtain ⟨u0,u1,u2,u3,u4,u5,u6,u7,u8,u9,u10,u11⟩:=a
  exact (body4_0 N (orc T (G N) live [] N 2) (orc T (G N) live [] N 1) q1 a0 u0 u1 u2 u3 u4 u5 u6 u7 u8 u9 u10 u11).trans hc) N a)
theorem G_ok (N:Nat):GamOK Try.prog (G N):=gam_ok (⟨spec_l10Advance.snd N,spec_l10Tell.snd N,trivial⟩)
theorem snd (N:Nat):Sound Try.prog E 86 (sp N):=
 Mir.sound T_OK (G_ok N) mixed Try.func86 (c:=code) (by kernel_rfl) (by kernel_rfl) (sp N) (Nat.le_of_ble_eq_true (by kernel_rfl)) live [] (by
  rintro ⟨a0,_⟩ r h
  exact ⟨N,2,((run N _ a0).trans (congrArg (m0 N a0) (funext fun a=>lp4_eq N a0 a))).trans h⟩)
end spec_l10Lead
namespace spec_l10Voted
noncomputable def code:Code:=Try.f81.body.getD .skip
abbrev live:Live:=[(5,[2,3,4,6])]
noncomputable def G (N:Nat):Ctx E:=gam [(37,[],spec_l10Has.sp N),(21,[],spec_l10Members.sp N),(85,[],spec_l10Most.sp N),(86,[],spec_l10Lead.sp N)]
noncomputable def loop5:Code:=codeAt code [1,1,0,1,0,1,0,0]
noncomputable def body5:Code:=codeAt loop5 [0]
noncomputable def K5 (N:Nat) (o0:Orc E R):KT E R:=kAt T (G N) live [] o0 code [1,1,0,1,0,1,0,0] (kfin T Try.f81 (sp N))
noncomputable def St5 (a0:Node) (a1:Message):(Int×Int×Int×Int×Int×Int×Int×Int)→St E
 | (v0,v23,v24,v25,v26,v27,v28,v29)=>{ ρ:=[(2,.c (.at (.ptr 0 0))),(3,.c (.at (.ptr 5 0))),(4,.c (.at (.ptr 6 0))),(6,.c (.at (.int .i64 v0)))],H:=[(0,.box 26 [.int .i64 a0.Id,.int .i64 a0.Term,.int .i64 a0.Vote,.own 1,.ro 3 (.int .i64) a0.Start,.int .i64 a0.Role,.own 2,.own 3,.own 4,.int .i64 a0.Commit,.int .i64 a0.Elapsed,.int .i64 a0.Wait,.bool a0.Up]),(1,.row 35 (.st 35) a0.Log false),(2,.row 3 (.int .i64) a0.Votes false),(3,.row 3 (.int .i64) a0.Next false),(4,.row 3 (.int .i64) a0.Match false),(5,.box 97 [.int .i64 a1.Kind,.int .i64 a1.From,.int .i64 a1.To,.int .i64 a1.Term,.int .i64 a1.Index,.int .i64 a1.LogTerm,.int .i64 a1.Commit,.ro 35 (.st 35) a1.Entries,.bool a1.Ok]),(6,.box 26 [.int .i64 v23,.int .i64 v24,.int .i64 v25,.nils,.nils,.int .i64 v26,.nils,.nils,.nils,.int .i64 v27,.int .i64 v28,.int .i64 v29,.bool false])],nx:=7,n:=74,pin:=[] }
theorem run (N:Nat) (o0:Orc E R) (a0:Node) (a1:Message):runF T (G N) live [] Try.f81 code (sp N) o0 (a0,a1,())=m0 N a0 a1 (fun a=>o0 loop5 (K5 N o0) (St5 a0 a1 a)):=by kernel_rfl
theorem body5_0 (N:Nat) (o0:Orc E R) (o1:Orc E R) (q1:St E→Option R) (a0:Node) (a1:Message) (v0:Int) (v23:Int) (v24:Int) (v25:Int) (v26:Int) (v27:Int) (v28:Int) (v29:Int):runA T (G N) live [] o1 body5 (St5 a0 a1 (v0,v23,v24,v25,v26,v27,v28,v29)) (kloop [2,3,4,6] q1 (K5 N o0))=step5 N a0 a1 (fun a=>q1 (St5 a0 a1 a)) (v0,v23,v24,v25,v26,v27,v28,v29):=by kernel_rfl
theorem lp5_eq (N:Nat) (a0:Node) (a1:Message) (a:Int×Int×Int×Int×Int×Int×Int×Int):(orc T (G N) live [] N 2) loop5 (K5 N (orc T (G N) live [] N 2)) (St5 a0 a1 a)=lp5 N a0 a1 a:=
 (orc_loop (b:=body5) (live:=[2,3,4,6]) (by kernel_rfl)).trans (iter_eq (St5 a0 a1) _ _ (fun q1 a=>by
  have hc:=congrFun (congrFun (rfl:(step5 N a0 a1)=(step5 N a0 a1)) (fun a=>q1 (St5 a0 a1 a))) a
  obtain ⟨u0,u1,u2,u3,u4,u5,u6,u7⟩:=a
  exact (body5_0 N (orc T (G N) live [] N 2) (orc T (G N) live [] N 1) q1 a0 a1 u0 u1 u2 u3 u4 u5 u6 u7).trans hc) N a)
theorem G_ok (N:Nat):GamOK Try.prog (G N):=gam_ok (⟨spec_l10Has.snd N,spec_l10Members.snd N,spec_l10Most.snd N,spec_l10Lead.snd N,trivial⟩)
theorem snd (N:Nat):Sound Try.prog E 81 (sp N):=
 Mir.sound T_OK (G_ok N) mixed Try.func81 (c:=code) (by kernel_rfl) (by kernel_rfl) (sp N) (Nat.le_of_ble_eq_true (by kernel_rfl)) live [] (by
  rintro ⟨a0,a1,_⟩ r h
  exact ⟨N,2,((run N _ a0 a1).trans (congrArg (m0 N a0 a1) (funext fun a=>lp5_eq N a0 a1 a))).trans h⟩)
end spec_l10Voted
end Mir.Y
