/- The models are what the functions do. -/
import Derived.Test.YtmjmhkpkmejbnaaGreatQSM5
namespace Mir.Y
set_option linter.unusedVariables false
set_option maxRecDepth 10000
open Go Go.Proofs Mir
set_option linter.unusedSectionVars false
variable [UU]
namespace spec_l00Source
noncomputable def code:Code:=Tryz.f20.body.getD .skip
abbrev live:Live:=[]
noncomputable def G (N:Nat):Ctx E:=gam []
theorem run (N:Nat) (o0:Orc E R) (a0:List Int):runF T (G N) live [] Tryz.f20 code (sp N) o0 (a0,())=m N a0:=by kernel_rfl
theorem G_ok (N:Nat):GamOK Tryz.prog (G N):=gam_ok (trivial)
theorem snd (N:Nat):Sound Tryz.prog E 20 (sp N):=
 Mir.sound T_OK (G_ok N) mixed Tryz.func20 (c:=code) (by kernel_rfl) (by kernel_rfl) (sp N) (Nat.le_of_ble_eq_true (by kernel_rfl)) live [] (by
  rintro ⟨a0,_⟩ r h
  exact ⟨N,2,((run N _ a0).trans rfl).trans h⟩)
end spec_l00Source
namespace spec_l00Src_size_
noncomputable def code:Code:=Tryz.f44.body.getD .skip
abbrev live:Live:=[]
noncomputable def G (N:Nat):Ctx E:=gam []
theorem run (N:Nat) (o0:Orc E R) (a0:l00Src) (a1:Int):runF T (G N) live [] Tryz.f44 code (sp N) o0 (a0,a1,())=m N a0 a1:=by kernel_rfl
theorem G_ok (N:Nat):GamOK Tryz.prog (G N):=gam_ok (trivial)
theorem snd (N:Nat):Sound Tryz.prog E 44 (sp N):=
 Mir.sound T_OK (G_ok N) mixed Tryz.func44 (c:=code) (by kernel_rfl) (by kernel_rfl) (sp N) (Nat.le_of_ble_eq_true (by kernel_rfl)) live [] (by
  rintro ⟨a0,a1,_⟩ r h
  exact ⟨N,2,((run N _ a0 a1).trans rfl).trans h⟩)
end spec_l00Src_size_
namespace spec_l00Src_byte_
noncomputable def code:Code:=Tryz.f84.body.getD .skip
abbrev live:Live:=[]
noncomputable def G (N:Nat):Ctx E:=gam []
theorem run (N:Nat) (o0:Orc E R) (a0:l00Src):runF T (G N) live [] Tryz.f84 code (sp N) o0 (a0,())=m N a0:=by kernel_rfl
theorem G_ok (N:Nat):GamOK Tryz.prog (G N):=gam_ok (trivial)
theorem snd (N:Nat):Sound Tryz.prog E 84 (sp N):=
 Mir.sound T_OK (G_ok N) mixed Tryz.func84 (c:=code) (by kernel_rfl) (by kernel_rfl) (sp N) (Nat.le_of_ble_eq_true (by kernel_rfl)) live [] (by
  rintro ⟨a0,_⟩ r h
  exact ⟨N,2,((run N _ a0).trans rfl).trans h⟩)
end spec_l00Src_byte_
namespace spec_l00Src_next_
noncomputable def code:Code:=Tryz.f43.body.getD .skip
abbrev live:Live:=[]
noncomputable def G (N:Nat):Ctx E:=gam [(84,[],spec_l00Src_byte_.sp N)]
theorem run (N:Nat) (o0:Orc E R) (a0:l00Src) (a1:Int):runF T (G N) live [] Tryz.f43 code (sp N) o0 (a0,a1,())=m N a0 a1:=by kernel_rfl
theorem G_ok (N:Nat):GamOK Tryz.prog (G N):=gam_ok (⟨spec_l00Src_byte_.snd N,trivial⟩)
theorem snd (N:Nat):Sound Tryz.prog E 43 (sp N):=
 Mir.sound T_OK (G_ok N) mixed Tryz.func43 (c:=code) (by kernel_rfl) (by kernel_rfl) (sp N) (Nat.le_of_ble_eq_true (by kernel_rfl)) live [] (by
  rintro ⟨a0,a1,_⟩ r h
  exact ⟨N,2,((run N _ a0 a1).trans rfl).trans h⟩)
end spec_l00Src_next_
namespace spec_l00Src_pick_
noncomputable def code:Code:=Tryz.f121.body.getD .skip
abbrev live:Live:=[]
noncomputable def G (N:Nat):Ctx E:=gam [(43,[],spec_l00Src_next_.sp N)]
theorem run (N:Nat) (o0:Orc E R) (a0:l00Src) (a1:List ByteArray):runF T (G N) live [] Tryz.f121 code (sp N) o0 (a0,a1,())=m N a0 a1:=by kernel_rfl
theorem G_ok (N:Nat):GamOK Tryz.prog (G N):=gam_ok (⟨spec_l00Src_next_.snd N,trivial⟩)
theorem snd (N:Nat):Sound Tryz.prog E 121 (sp N):=
 Mir.sound T_OK (G_ok N) mixed Tryz.func121 (c:=code) (by kernel_rfl) (by kernel_rfl) (sp N) (Nat.le_of_ble_eq_true (by kernel_rfl)) live [] (by
  rintro ⟨a0,a1,_⟩ r h
  exact ⟨N,2,((run N _ a0 a1).trans rfl).trans h⟩)
end spec_l00Src_pick_
namespace spec_l00Src_key
noncomputable def code:Code:=Tryz.f81.body.getD .skip
abbrev live:Live:=[]
noncomputable def G (N:Nat):Ctx E:=gam [(121,[],spec_l00Src_pick_.sp N)]
theorem run (N:Nat) (o0:Orc E R) (a0:l00Src):runF T (G N) live [] Tryz.f81 code (sp N) o0 (a0,())=m N a0:=by kernel_rfl
theorem G_ok (N:Nat):GamOK Tryz.prog (G N):=gam_ok (⟨spec_l00Src_pick_.snd N,trivial⟩)
theorem snd (N:Nat):Sound Tryz.prog E 81 (sp N):=
 Mir.sound T_OK (G_ok N) mixed Tryz.func81 (c:=code) (by kernel_rfl) (by kernel_rfl) (sp N) (Nat.le_of_ble_eq_true (by kernel_rfl)) live [] (by
  rintro ⟨a0,_⟩ r h
  exact ⟨N,2,((run N _ a0).trans rfl).trans h⟩)
end spec_l00Src_key
namespace spec_l00Src_datum
noncomputable def code:Code:=Tryz.f82.body.getD .skip
abbrev live:Live:=[]
noncomputable def G (N:Nat):Ctx E:=gam [(121,[],spec_l00Src_pick_.sp N)]
theorem run (N:Nat) (o0:Orc E R) (a0:l00Src):runF T (G N) live [] Tryz.f82 code (sp N) o0 (a0,())=m N a0:=by kernel_rfl
theorem G_ok (N:Nat):GamOK Tryz.prog (G N):=gam_ok (⟨spec_l00Src_pick_.snd N,trivial⟩)
theorem snd (N:Nat):Sound Tryz.prog E 82 (sp N):=
 Mir.sound T_OK (G_ok N) mixed Tryz.func82 (c:=code) (by kernel_rfl) (by kernel_rfl) (sp N) (Nat.le_of_ble_eq_true (by kernel_rfl)) live [] (by
  rintro ⟨a0,_⟩ r h
  exact ⟨N,2,((run N _ a0).trans rfl).trans h⟩)
end spec_l00Src_datum
namespace spec_l00Src_chance
noncomputable def code:Code:=Tryz.f83.body.getD .skip
abbrev live:Live:=[]
noncomputable def G (N:Nat):Ctx E:=gam [(43,[],spec_l00Src_next_.sp N)]
theorem run (N:Nat) (o0:Orc E R) (a0:l00Src) (a1:Int):runF T (G N) live [] Tryz.f83 code (sp N) o0 (a0,a1,())=m N a0 a1:=by kernel_rfl
theorem G_ok (N:Nat):GamOK Tryz.prog (G N):=gam_ok (⟨spec_l00Src_next_.snd N,trivial⟩)
theorem snd (N:Nat):Sound Tryz.prog E 83 (sp N):=
 Mir.sound T_OK (G_ok N) mixed Tryz.func83 (c:=code) (by kernel_rfl) (by kernel_rfl) (sp N) (Nat.le_of_ble_eq_true (by kernel_rfl)) live [] (by
  rintro ⟨a0,a1,_⟩ r h
  exact ⟨N,2,((run N _ a0 a1).trans rfl).trans h⟩)
end spec_l00Src_chance
namespace spec_l00Src_command
noncomputable def code:Code:=Tryz.f42.body.getD .skip
abbrev live:Live:=[]
noncomputable def G (N:Nat):Ctx E:=gam [(43,[],spec_l00Src_next_.sp N),(81,[],spec_l00Src_key.sp N),(82,[],spec_l00Src_datum.sp N),(83,[],spec_l00Src_chance.sp N)]
theorem run (N:Nat) (o0:Orc E R) (a0:l00Src):runF T (G N) live [] Tryz.f42 code (sp N) o0 (a0,())=m N a0:=by kernel_rfl
theorem G_ok (N:Nat):GamOK Tryz.prog (G N):=gam_ok (⟨spec_l00Src_next_.snd N,spec_l00Src_key.snd N,spec_l00Src_datum.snd N,spec_l00Src_chance.snd N,trivial⟩)
theorem snd (N:Nat):Sound Tryz.prog E 42 (sp N):=
 Mir.sound T_OK (G_ok N) mixed Tryz.func42 (c:=code) (by kernel_rfl) (by kernel_rfl) (sp N) (Nat.le_of_ble_eq_true (by kernel_rfl)) live [] (by
  rintro ⟨a0,_⟩ r h
  exact ⟨N,2,((run N _ a0).trans rfl).trans h⟩)
end spec_l00Src_command
namespace spec_l00Src_commands
noncomputable def code:Code:=Tryz.f21.body.getD .skip
abbrev live:Live:=[(3,[0,3,4])]
noncomputable def G (N:Nat):Ctx E:=gam [(44,[],spec_l00Src_size_.sp N),(43,[],spec_l00Src_next_.sp N),(42,[],spec_l00Src_command.sp N)]
noncomputable def loop3:Code:=codeAt code [1,1,0,1,0]
noncomputable def body3:Code:=codeAt loop3 [0]
noncomputable def K3 (N:Nat) (o0:Orc E R):KT E R:=kAt T (G N) live [] o0 code [1,1,0,1,0] (kfin T Tryz.f21 (sp N))
noncomputable def St3 (a0:l00Src):(Int×(List Int)×Int×Int×(List Command))→St E
 | (v0,v1,v2,v3,v4)=>{ ρ:=[(0,.c (.at (.ptr 0 0))),(3,.c (.at (.own 1))),(4,.c (.at (.int .i64 v0)))],H:=[(0,.box 84 [.ro 5 (.int .u8) v1,.int .i64 v2,.int .i64 v3]),(1,.row 31 (.st 31) v4 false)],nx:=2,n:=28,pin:=[0] }
theorem run (N:Nat) (o0:Orc E R) (a0:l00Src):runF T (G N) live [] Tryz.f21 code (sp N) o0 (a0,())=m0 N a0 (fun a=>o0 loop3 (K3 N o0) (St3 a0 a)):=by kernel_rfl
theorem body3_0 (N:Nat) (o0:Orc E R) (o1:Orc E R) (q1:St E→Option R) (a0:l00Src) (v0:Int) (v1:List Int) (v2:Int) (v3:Int) (v4:List Command):runA T (G N) live [] o1 body3 (St3 a0 (v0,v1,v2,v3,v4)) (kloop [0,3,4] q1 (K3 N o0))=step3 N a0 (fun a=>q1 (St3 a0 a)) (v0,v1,v2,v3,v4):=by kernel_rfl
theorem lp3_eq (N:Nat) (a0:l00Src) (a:Int×(List Int)×Int×Int×(List Command)):(orc T (G N) live [] N 2) loop3 (K3 N (orc T (G N) live [] N 2)) (St3 a0 a)=lp3 N a0 a:=
 (orc_loop (b:=body3) (live:=[0,3,4]) (by kernel_rfl)).trans (iter_eq (St3 a0) _ _ (fun q1 a=>by
  have hc:=congrFun (congrFun (rfl:(step3 N a0)=(step3 N a0)) (fun a=>q1 (St3 a0 a))) a
  obtain ⟨u0,u1,u2,u3,u4⟩:=a
  exact (body3_0 N (orc T (G N) live [] N 2) (orc T (G N) live [] N 1) q1 a0 u0 u1 u2 u3 u4).trans hc) N a)
theorem G_ok (N:Nat):GamOK Tryz.prog (G N):=gam_ok (⟨spec_l00Src_size_.snd N,spec_l00Src_next_.snd N,spec_l00Src_command.snd N,trivial⟩)
theorem snd (N:Nat):Sound Tryz.prog E 21 (sp N):=
 Mir.sound T_OK (G_ok N) mixed Tryz.func21 (c:=code) (by kernel_rfl) (by kernel_rfl) (sp N) (Nat.le_of_ble_eq_true (by kernel_rfl)) live [] (by
  rintro ⟨a0,_⟩ r h
  exact ⟨N,2,((run N _ a0).trans (congrArg (m0 N a0) (funext fun a=>lp3_eq N a0 a))).trans h⟩)
end spec_l00Src_commands
namespace spec_CommandsOf
noncomputable def code:Code:=Tryz.f6.body.getD .skip
abbrev live:Live:=[]
noncomputable def G (N:Nat):Ctx E:=gam [(20,[],spec_l00Source.sp N),(21,[],spec_l00Src_commands.sp N)]
theorem run (N:Nat) (o0:Orc E R) (a0:List Int):runF T (G N) live [] Tryz.f6 code (sp N) o0 (a0,())=m N a0:=by kernel_rfl
theorem G_ok (N:Nat):GamOK Tryz.prog (G N):=gam_ok (⟨spec_l00Source.snd N,spec_l00Src_commands.snd N,trivial⟩)
theorem snd (N:Nat):Sound Tryz.prog E 6 (sp N):=
 Mir.sound T_OK (G_ok N) mixed Tryz.func6 (c:=code) (by kernel_rfl) (by kernel_rfl) (sp N) (Nat.le_of_ble_eq_true (by kernel_rfl)) live [] (by
  rintro ⟨a0,_⟩ r h
  exact ⟨N,2,((run N _ a0).trans rfl).trans h⟩)
end spec_CommandsOf
namespace spec_l01In
noncomputable def code:Code:=Tryz.f51.body.getD .skip
abbrev live:Live:=[]
noncomputable def G (N:Nat):Ctx E:=gam []
theorem run (N:Nat) (o0:Orc E R) (a0:Int) (a1:Int) (a2:Int):runF T (G N) live [] Tryz.f51 code (sp N) o0 (a0,a1,a2,())=m N a0 a1 a2:=by kernel_rfl
theorem G_ok (N:Nat):GamOK Tryz.prog (G N):=gam_ok (trivial)
theorem snd (N:Nat):Sound Tryz.prog E 51 (sp N):=
 Mir.sound T_OK (G_ok N) mixed Tryz.func51 (c:=code) (by kernel_rfl) (by kernel_rfl) (sp N) (Nat.le_of_ble_eq_true (by kernel_rfl)) live [] (by
  rintro ⟨a0,a1,a2,_⟩ r h
  exact ⟨N,2,((run N _ a0 a1 a2).trans rfl).trans h⟩)
end spec_l01In
namespace spec_l02Key
noncomputable def code:Code:=Tryz.f52.body.getD .skip
abbrev live:Live:=[]
noncomputable def G (N:Nat):Ctx E:=gam []
theorem run (N:Nat) (o0:Orc E R) (a0:ByteArray):runF T (G N) live [] Tryz.f52 code (sp N) o0 (a0,())=m N a0:=by kernel_rfl
theorem G_ok (N:Nat):GamOK Tryz.prog (G N):=gam_ok (trivial)
theorem snd (N:Nat):Sound Tryz.prog E 52 (sp N):=
 Mir.sound T_OK (G_ok N) mixed Tryz.func52 (c:=code) (by kernel_rfl) (by kernel_rfl) (sp N) (Nat.le_of_ble_eq_true (by kernel_rfl)) live [] (by
  rintro ⟨a0,_⟩ r h
  exact ⟨N,2,((run N _ a0).trans rfl).trans h⟩)
end spec_l02Key
namespace spec_CommandOK
noncomputable def code:Code:=Tryz.f25.body.getD .skip
abbrev live:Live:=[]
noncomputable def G (N:Nat):Ctx E:=gam [(51,[],spec_l01In.sp N),(52,[],spec_l02Key.sp N)]
theorem run (N:Nat) (o0:Orc E R) (a0:Command):runF T (G N) live [] Tryz.f25 code (sp N) o0 (a0,())=m N a0:=by kernel_rfl
theorem G_ok (N:Nat):GamOK Tryz.prog (G N):=gam_ok (⟨spec_l01In.snd N,spec_l02Key.snd N,trivial⟩)
theorem snd (N:Nat):Sound Tryz.prog E 25 (sp N):=
 Mir.sound T_OK (G_ok N) mixed Tryz.func25 (c:=code) (by kernel_rfl) (by kernel_rfl) (sp N) (Nat.le_of_ble_eq_true (by kernel_rfl)) live [] (by
  rintro ⟨a0,_⟩ r h
  exact ⟨N,2,((run N _ a0).trans rfl).trans h⟩)
end spec_CommandOK
namespace spec_l09Session
noncomputable def code:Code:=Tryz.f54.body.getD .skip
abbrev live:Live:=[(2,[0,1,5])]
noncomputable def G (N:Nat):Ctx E:=gam []
noncomputable def loop2:Code:=codeAt code [1,0,1,0]
noncomputable def body2:Code:=codeAt loop2 [0]
noncomputable def K2 (N:Nat) (o0:Orc E R):KT E R:=kAt T (G N) live [] o0 code [1,0,1,0] (kfin T Tryz.f54 (sp N))
noncomputable def St2 (a0:List Session) (a1:Int):Int→St E
 | v2=>{ ρ:=[(0,.c (.at (.ro 72 (.st 72) a0))),(1,.c (.at (.int .i64 a1))),(5,.c (.at (.int .i64 v2)))],H:=[],nx:=0,n:=20,pin:=[] }
theorem run (N:Nat) (o0:Orc E R) (a0:List Session) (a1:Int):runF T (G N) live [] Tryz.f54 code (sp N) o0 (a0,a1,())=m0 N a0 a1 (fun a=>o0 loop2 (K2 N o0) (St2 a0 a1 a)):=by kernel_rfl
theorem body2_0 (N:Nat) (o0:Orc E R) (o1:Orc E R) (q1:St E→Option R) (a0:List Session) (a1:Int) (v2:Int):runA T (G N) live [] o1 body2 (St2 a0 a1 v2) (kloop [0,1,5] q1 (K2 N o0))=step2 N a0 a1 (fun a=>q1 (St2 a0 a1 a)) v2:=by kernel_rfl
theorem lp2_eq (N:Nat) (a0:List Session) (a1:Int) (a:Int):(orc T (G N) live [] N 2) loop2 (K2 N (orc T (G N) live [] N 2)) (St2 a0 a1 a)=lp2 N a0 a1 a:=
 (orc_loop (b:=body2) (live:=[0,1,5]) (by kernel_rfl)).trans (iter_eq (St2 a0 a1) _ _ (fun q1 a=>by
  have hc:=congrFun (congrFun (rfl:(step2 N a0 a1)=(step2 N a0 a1)) (fun a=>q1 (St2 a0 a1 a))) a
  exact (body2_0 N (orc T (G N) live [] N 2) (orc T (G N) live [] N 1) q1 a0 a1 a).trans hc) N a)
theorem G_ok (N:Nat):GamOK Tryz.prog (G N):=gam_ok (trivial)
theorem snd (N:Nat):Sound Tryz.prog E 54 (sp N):=
 Mir.sound T_OK (G_ok N) mixed Tryz.func54 (c:=code) (by kernel_rfl) (by kernel_rfl) (sp N) (Nat.le_of_ble_eq_true (by kernel_rfl)) live [] (by
  rintro ⟨a0,a1,_⟩ r h
  exact ⟨N,2,((run N _ a0 a1).trans (congrArg (m0 N a0 a1) (funext fun a=>lp2_eq N a0 a1 a))).trans h⟩)
end spec_l09Session
namespace spec_l09Open
noncomputable def code:Code:=Tryz.f53.body.getD .skip
abbrev live:Live:=[(13,[2,3,4,5,6,7])]
noncomputable def G (N:Nat):Ctx E:=gam [(54,[],spec_l09Session.sp N)]
noncomputable def loop13:Code:=codeAt code [1,1,1,1,1,1,0,0]
noncomputable def body13:Code:=codeAt loop13 [0]
noncomputable def K13 (N:Nat) (o0:Orc E R):KT E R:=kAt T (G N) live [] o0 code [1,1,1,1,1,1,0,0] (kfin T Tryz.f53 (sp N))
noncomputable def St13 (a0:Ledger) (a1:Command):(Int×ByteArray×ByteArray×Int×Int×Int×ByteArray)→St E
 | (v0,v12,v13,v14,v15,v16,v17)=>{ ρ:=[(2,.c (.at (.ptr 0 0))),(3,.c (.at (.ptr 1 0))),(4,.c (.at (.ptr 2 0))),(5,.c (.at (.ptr 3 0))),(6,.c (.at (.int .i64 v0))),(7,.c (.at (.ptr 4 0)))],H:=[(0,.box 39 [.ro 9 .str a0.Leaves,.str a0.Map.Key,.str a0.Map.Value,.int .i64 a0.Map.At,.ro 36 (.st 36) a0.Map.Kids,.ro 72 (.st 72) a0.Sessions]),(1,.box 31 [.int .i64 a1.Kind,.int .i64 a1.Session,.int .i64 a1.Seq,.str a1.Key,.str a1.Value]),(2,.box 39 [.nils,.str v12,.str v13,.int .i64 v14,.nils,.nils]),(3,.box 27 [.int .i64 v15,.int .i64 v16,.str v17]),(4,.box 39 [.ro 9 .str a0.Leaves,.str a0.Map.Key,.str a0.Map.Value,.int .i64 a0.Map.At,.ro 36 (.st 36) a0.Map.Kids,.ro 72 (.st 72) a0.Sessions])],nx:=5,n:=85,pin:=[] }
theorem run (N:Nat) (o0:Orc E R) (a0:Ledger) (a1:Command):runF T (G N) live [] Tryz.f53 code (sp N) o0 (a0,a1,())=m0 N a0 a1 (fun a=>o0 loop13 (K13 N o0) (St13 a0 a1 a)):=by kernel_rfl
theorem body13_0 (N:Nat) (o0:Orc E R) (o1:Orc E R) (q1:St E→Option R) (a0:Ledger) (a1:Command) (v0:Int) (v12:ByteArray) (v13:ByteArray) (v14:Int) (v15:Int) (v16:Int) (v17:ByteArray):runA T (G N) live [] o1 body13 (St13 a0 a1 (v0,v12,v13,v14,v15,v16,v17)) (kloop [2,3,4,5,6,7] q1 (K13 N o0))=step13 N a0 a1 (fun a=>q1 (St13 a0 a1 a)) (v0,v12,v13,v14,v15,v16,v17):=by kernel_rfl
theorem lp13_eq (N:Nat) (a0:Ledger) (a1:Command) (a:Int×ByteArray×ByteArray×Int×Int×Int×ByteArray):(orc T (G N) live [] N 2) loop13 (K13 N (orc T (G N) live [] N 2)) (St13 a0 a1 a)=lp13 N a0 a1 a:=
 (orc_loop (b:=body13) (live:=[2,3,4,5,6,7]) (by kernel_rfl)).trans (iter_eq (St13 a0 a1) _ _ (fun q1 a=>by
  have hc:=congrFun (congrFun (rfl:(step13 N a0 a1)=(step13 N a0 a1)) (fun a=>q1 (St13 a0 a1 a))) a
  obtain ⟨u0,u1,u2,u3,u4,u5,u6⟩:=a
  exact (body13_0 N (orc T (G N) live [] N 2) (orc T (G N) live [] N 1) q1 a0 a1 u0 u1 u2 u3 u4 u5 u6).trans hc) N a)
theorem G_ok (N:Nat):GamOK Tryz.prog (G N):=gam_ok (⟨spec_l09Session.snd N,trivial⟩)
theorem snd (N:Nat):Sound Tryz.prog E 53 (sp N):=
 Mir.sound T_OK (G_ok N) mixed Tryz.func53 (c:=code) (by kernel_rfl) (by kernel_rfl) (sp N) (Nat.le_of_ble_eq_true (by kernel_rfl)) live [] (by
  rintro ⟨a0,a1,_⟩ r h
  exact ⟨N,2,((run N _ a0 a1).trans (congrArg (m0 N a0 a1) (funext fun a=>lp13_eq N a0 a1 a))).trans h⟩)
end spec_l09Open
namespace spec_l07Empty
noncomputable def code:Code:=Tryz.f117.body.getD .skip
abbrev live:Live:=[]
noncomputable def G (N:Nat):Ctx E:=gam []
theorem run (N:Nat) (o0:Orc E R) (a0:Branch):runF T (G N) live [] Tryz.f117 code (sp N) o0 (a0,())=m N a0:=by kernel_rfl
theorem G_ok (N:Nat):GamOK Tryz.prog (G N):=gam_ok (trivial)
theorem snd (N:Nat):Sound Tryz.prog E 117 (sp N):=
 Mir.sound T_OK (G_ok N) mixed Tryz.func117 (c:=code) (by kernel_rfl) (by kernel_rfl) (sp N) (Nat.le_of_ble_eq_true (by kernel_rfl)) live [] (by
  rintro ⟨a0,_⟩ r h
  exact ⟨N,2,((run N _ a0).trans rfl).trans h⟩)
end spec_l07Empty
namespace spec_l01Consts
noncomputable def code:Code:=Tryz.f151.body.getD .skip
abbrev live:Live:=[]
noncomputable def G (N:Nat):Ctx E:=gam []
theorem run (N:Nat) (o0:Orc E R):runF T (G N) live [] Tryz.f151 code (sp N) o0 ()=m N:=by kernel_rfl
theorem G_ok (N:Nat):GamOK Tryz.prog (G N):=gam_ok (trivial)
theorem snd (N:Nat):Sound Tryz.prog E 151 (sp N):=
 Mir.sound T_OK (G_ok N) mixed Tryz.func151 (c:=code) (by kernel_rfl) (by kernel_rfl) (sp N) (Nat.le_of_ble_eq_true (by kernel_rfl)) live [] (by
  rintro _ r h
  exact ⟨N,2,((run N _).trans rfl).trans h⟩)
end spec_l01Consts
namespace spec_l01Turn
noncomputable def code:Code:=Tryz.f163.body.getD .skip
abbrev live:Live:=[]
noncomputable def G (N:Nat):Ctx E:=gam []
theorem run (N:Nat) (o0:Orc E R) (a0:Int) (a1:Int):runF T (G N) live [] Tryz.f163 code (sp N) o0 (a0,a1,())=m N a0 a1:=by kernel_rfl
theorem G_ok (N:Nat):GamOK Tryz.prog (G N):=gam_ok (trivial)
theorem snd (N:Nat):Sound Tryz.prog E 163 (sp N):=
 Mir.sound T_OK (G_ok N) mixed Tryz.func163 (c:=code) (by kernel_rfl) (by kernel_rfl) (sp N) (Nat.le_of_ble_eq_true (by kernel_rfl)) live [] (by
  rintro ⟨a0,a1,_⟩ r h
  exact ⟨N,2,((run N _ a0 a1).trans rfl).trans h⟩)
end spec_l01Turn
namespace spec_l01Block
noncomputable def code:Code:=Tryz.f152.body.getD .skip
abbrev live:Live:=[(21,[0,11,17]),(13,[0,2,6,11,12]),(6,[0,2,6,8]),(2,[0,1,2,6,7])]
noncomputable def G (N:Nat):Ctx E:=gam [(163,[],spec_l01Turn.sp N)]
noncomputable def loop2:Code:=codeAt code [1,0,1,0]
noncomputable def body2:Code:=codeAt loop2 [0]
noncomputable def loop6:Code:=codeAt code [1,1,0,1,0]
noncomputable def body6:Code:=codeAt loop6 [0]
noncomputable def loop13:Code:=codeAt code [1,1,1,1,0,1,0]
noncomputable def body13:Code:=codeAt loop13 [0]
noncomputable def loop21:Code:=codeAt code [1,1,1,1,1,1,0]
noncomputable def body21:Code:=codeAt loop21 [0]
noncomputable def K2 (N:Nat) (o0:Orc E R):KT E R:=kAt T (G N) live [] o0 code [1,0,1,0] (kfin T Tryz.f152 (sp N))
noncomputable def St2 (a0:List Int) (a1:List Int) (a2:List Int):(Int×(List Int))→St E
 | (v2,v4)=>{ ρ:=[(0,.c (.at (.own 0))),(1,.c (.at (.ro 5 (.int .u8) a1))),(2,.c (.at (.ro 147 (.int .u32) a2))),(6,.c (.at (.own 1))),(7,.c (.at (.int .i64 v2)))],H:=[(0,.row 147 (.int .u32) a0 false),(1,.row 147 (.int .u32) v4 false)],nx:=2,n:=222,pin:=[0] }
noncomputable def K6 (N:Nat) (o0:Orc E R):KT E R:=kAt T (G N) live [] o0 code [1,1,0,1,0] (kfin T Tryz.f152 (sp N))
noncomputable def St6 (a0:List Int) (a1:List Int) (a2:List Int):(Int×(List Int))→St E
 | (v1,v3)=>{ ρ:=[(0,.c (.at (.own 0))),(2,.c (.at (.ro 147 (.int .u32) a2))),(6,.c (.at (.own 1))),(8,.c (.at (.int .i64 v1)))],H:=[(0,.row 147 (.int .u32) a0 false),(1,.row 147 (.int .u32) v3 false)],nx:=2,n:=222,pin:=[0] }
noncomputable def K13 (N:Nat) (o0:Orc E R):KT E R:=kAt T (G N) live [] o0 code [1,1,1,1,0,1,0] (kfin T Tryz.f152 (sp N))
noncomputable def St13 (a0:List Int) (a1:List Int) (a2:List Int):(Int×(List Int)×(List Int))→St E
 | (v1,v3,v4)=>{ ρ:=[(0,.c (.at (.own 0))),(2,.c (.at (.ro 147 (.int .u32) a2))),(6,.c (.at (.own 1))),(11,.c (.at (.own 2))),(12,.c (.at (.int .i64 v1)))],H:=[(0,.row 147 (.int .u32) a0 false),(1,.row 147 (.int .u32) v3 false),(2,.row 147 (.int .u32) v4 false)],nx:=3,n:=222,pin:=[0] }
noncomputable def K21 (N:Nat) (o0:Orc E R):KT E R:=kAt T (G N) live [] o0 code [1,1,1,1,1,1,0] (kfin T Tryz.f152 (sp N))
noncomputable def St21 (a0:List Int) (a1:List Int) (a2:List Int):(Int×(List Int)×(List Int))→St E
 | (v0,v1,v2)=>{ ρ:=[(0,.c (.at (.own 0))),(11,.c (.at (.own 1))),(17,.c (.at (.int .i64 v0)))],H:=[(0,.row 147 (.int .u32) v1 false),(1,.row 147 (.int .u32) v2 false)],nx:=2,n:=222,pin:=[0] }
theorem run (N:Nat) (o0:Orc E R) (a0:List Int) (a1:List Int) (a2:List Int):runF T (G N) live [] Tryz.f152 code (sp N) o0 (a0,a1,a2,())=m0 N a0 a1 a2 (fun a=>o0 loop2 (K2 N o0) (St2 a0 a1 a2 a)):=by kernel_rfl
theorem body2_0 (N:Nat) (o0:Orc E R) (o1:Orc E R) (q1:St E→Option R) (a0:List Int) (a1:List Int) (a2:List Int) (v2:Int) (v4:List Int):runA T (G N) live [] o1 body2 (St2 a0 a1 a2 (v2,v4)) (kloop [0,1,2,6,7] q1 (K2 N o0))=step2 N a0 a1 a2 (fun a=>o0 loop6 (K6 N o0) (St6 a0 a1 a2 a)) (fun a=>q1 (St2 a0 a1 a2 a)) (v2,v4):=by kernel_rfl
theorem body6_0 (N:Nat) (o0:Orc E R) (o1:Orc E R) (q1:St E→Option R) (a0:List Int) (a1:List Int) (a2:List Int) (v1:Int) (v3:List Int):runA T (G N) live [] o1 body6 (St6 a0 a1 a2 (v1,v3)) (kloop [0,2,6,8] q1 (K6 N o0))=step6 N a0 a1 a2 (fun a=>o0 loop13 (K13 N o0) (St13 a0 a1 a2 a)) (fun a=>q1 (St6 a0 a1 a2 a)) (v1,v3):=by kernel_rfl
theorem body13_0 (N:Nat) (o0:Orc E R) (o1:Orc E R) (q1:St E→Option R) (a0:List Int) (a1:List Int) (a2:List Int) (v1:Int) (v3:List Int) (v4:List Int):runA T (G N) live [] o1 body13 (St13 a0 a1 a2 (v1,v3,v4)) (kloop [0,2,6,11,12] q1 (K13 N o0))=step13 N a0 a1 a2 (fun a=>o0 loop21 (K21 N o0) (St21 a0 a1 a2 a)) (fun a=>q1 (St13 a0 a1 a2 a)) (v1,v3,v4):=by kernel_rfl
theorem body21_0 (N:Nat) (o0:Orc E R) (o1:Orc E R) (q1:St E→Option R) (a0:List Int) (a1:List Int) (a2:List Int) (v0:Int) (v1:List Int) (v2:List Int):runA T (G N) live [] o1 body21 (St21 a0 a1 a2 (v0,v1,v2)) (kloop [0,11,17] q1 (K21 N o0))=step21 N a0 a1 a2 (fun a=>q1 (St21 a0 a1 a2 a)) (v0,v1,v2):=by kernel_rfl
theorem lp21_eq (N:Nat) (a0:List Int) (a1:List Int) (a2:List Int) (a:Int×(List Int)×(List Int)):(orc T (G N) live [] N 2) loop21 (K21 N (orc T (G N) live [] N 2)) (St21 a0 a1 a2 a)=lp21 N a0 a1 a2 a:=
 (orc_loop (b:=body21) (live:=[0,11,17]) (by kernel_rfl)).trans (iter_eq (St21 a0 a1 a2) _ _ (fun q1 a=>by
  have hc:=congrFun (congrFun (rfl:(step21 N a0 a1 a2)=(step21 N a0 a1 a2)) (fun a=>q1 (St21 a0 a1 a2 a))) a
  obtain ⟨u0,u1,u2⟩:=a
  exact (body21_0 N (orc T (G N) live [] N 2) (orc T (G N) live [] N 1) q1 a0 a1 a2 u0 u1 u2).trans hc) N a)
theorem lp13_eq (N:Nat) (a0:List Int) (a1:List Int) (a2:List Int) (a:Int×(List Int)×(List Int)):(orc T (G N) live [] N 2) loop13 (K13 N (orc T (G N) live [] N 2)) (St13 a0 a1 a2 a)=lp13 N a0 a1 a2 a:=
 (orc_loop (b:=body13) (live:=[0,2,6,11,12]) (by kernel_rfl)).trans (iter_eq (St13 a0 a1 a2) _ _ (fun q1 a=>by
  have hc:=congrFun (congrFun (congrArg (step13 N a0 a1 a2) (funext fun a=>lp21_eq N a0 a1 a2 a)) (fun a=>q1 (St13 a0 a1 a2 a))) a
  obtain ⟨u0,u1,u2⟩:=a
  exact (body13_0 N (orc T (G N) live [] N 2) (orc T (G N) live [] N 1) q1 a0 a1 a2 u0 u1 u2).trans hc) N a)
theorem lp6_eq (N:Nat) (a0:List Int) (a1:List Int) (a2:List Int) (a:Int×(List Int)):(orc T (G N) live [] N 2) loop6 (K6 N (orc T (G N) live [] N 2)) (St6 a0 a1 a2 a)=lp6 N a0 a1 a2 a:=
 (orc_loop (b:=body6) (live:=[0,2,6,8]) (by kernel_rfl)).trans (iter_eq (St6 a0 a1 a2) _ _ (fun q1 a=>by
  have hc:=congrFun (congrFun (congrArg (step6 N a0 a1 a2) (funext fun a=>lp13_eq N a0 a1 a2 a)) (fun a=>q1 (St6 a0 a1 a2 a))) a
  obtain ⟨u0,u1⟩:=a
  exact (body6_0 N (orc T (G N) live [] N 2) (orc T (G N) live [] N 1) q1 a0 a1 a2 u0 u1).trans hc) N a)
theorem lp2_eq (N:Nat) (a0:List Int) (a1:List Int) (a2:List Int) (a:Int×(List Int)):(orc T (G N) live [] N 2) loop2 (K2 N (orc T (G N) live [] N 2)) (St2 a0 a1 a2 a)=lp2 N a0 a1 a2 a:=
 (orc_loop (b:=body2) (live:=[0,1,2,6,7]) (by kernel_rfl)).trans (iter_eq (St2 a0 a1 a2) _ _ (fun q1 a=>by
  have hc:=congrFun (congrFun (congrArg (step2 N a0 a1 a2) (funext fun a=>lp6_eq N a0 a1 a2 a)) (fun a=>q1 (St2 a0 a1 a2 a))) a
  obtain ⟨u0,u1⟩:=a
  exact (body2_0 N (orc T (G N) live [] N 2) (orc T (G N) live [] N 1) q1 a0 a1 a2 u0 u1).trans hc) N a)
theorem G_ok (N:Nat):GamOK Tryz.prog (G N):=gam_ok (⟨spec_l01Turn.snd N,trivial⟩)
theorem snd (N:Nat):Sound Tryz.prog E 152 (sp N):=
 Mir.sound T_OK (G_ok N) mixed Tryz.func152 (c:=code) (by kernel_rfl) (by kernel_rfl) (sp N) (Nat.le_of_ble_eq_true (by kernel_rfl)) live [] (by
  rintro ⟨a0,a1,a2,_⟩ r h
  exact ⟨N,2,((run N _ a0 a1 a2).trans (congrArg (m0 N a0 a1 a2) (funext fun a=>lp2_eq N a0 a1 a2 a))).trans h⟩)
end spec_l01Block
namespace spec_l01Hash
noncomputable def code:Code:=Tryz.f123.body.getD .skip
abbrev live:Live:=[(16,[3,8,9]),(11,[3,4,6,7]),(6,[0,3,4,5]),(3,[0,3,4])]
noncomputable def G (N:Nat):Ctx E:=gam [(151,[],spec_l01Consts.sp N),(152,[],spec_l01Block.sp N)]
noncomputable def loop3:Code:=codeAt code [1,1,1,0,0]
noncomputable def body3:Code:=codeAt loop3 [0]
noncomputable def loop6:Code:=codeAt code [1,1,1,1,0,1,0]
noncomputable def body6:Code:=codeAt loop6 [0]
noncomputable def loop11:Code:=codeAt code [1,1,1,1,1,1,0,1,0]
noncomputable def body11:Code:=codeAt loop11 [0]
noncomputable def loop16:Code:=codeAt code [1,1,1,1,1,1,1,1,0,1,0]
noncomputable def body16:Code:=codeAt loop16 [0]
noncomputable def K3 (N:Nat) (o0:Orc E R):KT E R:=kAt T (G N) live [] o0 code [1,1,1,0,0] (kfin T Tryz.f123 (sp N))
noncomputable def St3 (a0:List Int):((List Int)×(List Int))→St E
 | (v1,v2)=>{ ρ:=[(0,.c (.at (.ro 5 (.int .u8) a0))),(3,.c (.at (.own 0))),(4,.c (.at (.own 1)))],H:=[(0,.row 147 (.int .u32) v1 false),(1,.row 5 (.int .u8) v2 false)],nx:=2,n:=86,pin:=[] }
noncomputable def K6 (N:Nat) (o0:Orc E R):KT E R:=kAt T (G N) live [] o0 code [1,1,1,1,0,1,0] (kfin T Tryz.f123 (sp N))
noncomputable def St6 (a0:List Int):(Int×(List Int)×(List Int))→St E
 | (v1,v2,v3)=>{ ρ:=[(0,.c (.at (.ro 5 (.int .u8) a0))),(3,.c (.at (.own 0))),(4,.c (.at (.own 1))),(5,.c (.at (.int .i64 v1)))],H:=[(0,.row 147 (.int .u32) v2 false),(1,.row 5 (.int .u8) v3 false)],nx:=2,n:=86,pin:=[] }
noncomputable def K11 (N:Nat) (o0:Orc E R):KT E R:=kAt T (G N) live [] o0 code [1,1,1,1,1,1,0,1,0] (kfin T Tryz.f123 (sp N))
noncomputable def St11 (a0:List Int):(Int×(List Int)×(List Int)×(List Int))→St E
 | (v0,v1,v2,v3)=>{ ρ:=[(3,.c (.at (.own 0))),(4,.c (.at (.own 1))),(6,.c (.at (.own 2))),(7,.c (.at (.int .i64 v0)))],H:=[(0,.row 147 (.int .u32) v1 false),(1,.row 5 (.int .u8) v2 false),(2,.row 147 (.int .u32) v3 false)],nx:=3,n:=86,pin:=[] }
noncomputable def K16 (N:Nat) (o0:Orc E R):KT E R:=kAt T (G N) live [] o0 code [1,1,1,1,1,1,1,1,0,1,0] (kfin T Tryz.f123 (sp N))
noncomputable def St16 (a0:List Int):(Int×(List Int)×(List Int))→St E
 | (v0,v1,v2)=>{ ρ:=[(3,.c (.at (.own 0))),(8,.c (.at (.own 1))),(9,.c (.at (.int .i64 v0)))],H:=[(0,.row 147 (.int .u32) v1 false),(1,.row 5 (.int .u8) v2 false)],nx:=2,n:=86,pin:=[] }
theorem run (N:Nat) (o0:Orc E R) (a0:List Int):runF T (G N) live [] Tryz.f123 code (sp N) o0 (a0,())=m0 N a0 (fun a=>o0 loop3 (K3 N o0) (St3 a0 a)):=by kernel_rfl
theorem body3_0 (N:Nat) (o0:Orc E R) (o1:Orc E R) (q1:St E→Option R) (a0:List Int) (v1:List Int) (v2:List Int):runA T (G N) live [] o1 body3 (St3 a0 (v1,v2)) (kloop [0,3,4] q1 (K3 N o0))=step3 N a0 (fun a=>o0 loop6 (K6 N o0) (St6 a0 a)) (fun a=>q1 (St3 a0 a)) (v1,v2):=by kernel_rfl
theorem body6_0 (N:Nat) (o0:Orc E R) (o1:Orc E R) (q1:St E→Option R) (a0:List Int) (v1:Int) (v2:List Int) (v3:List Int):runA T (G N) live [] o1 body6 (St6 a0 (v1,v2,v3)) (kloop [0,3,4,5] q1 (K6 N o0))=step6 N a0 (fun a=>o0 loop11 (K11 N o0) (St11 a0 a)) (fun a=>q1 (St6 a0 a)) (v1,v2,v3):=by kernel_rfl
theorem body11_0 (N:Nat) (o0:Orc E R) (o1:Orc E R) (q1:St E→Option R) (a0:List Int) (v0:Int) (v1:List Int) (v2:List Int) (v3:List Int):runA T (G N) live [] o1 body11 (St11 a0 (v0,v1,v2,v3)) (kloop [3,4,6,7] q1 (K11 N o0))=step11 N a0 (fun a=>o0 loop16 (K16 N o0) (St16 a0 a)) (fun a=>q1 (St11 a0 a)) (v0,v1,v2,v3):=by kernel_rfl
theorem body16_0 (N:Nat) (o0:Orc E R) (o1:Orc E R) (q1:St E→Option R) (a0:List Int) (v0:Int) (v1:List Int) (v2:List Int):runA T (G N) live [] o1 body16 (St16 a0 (v0,v1,v2)) (kloop [3,8,9] q1 (K16 N o0))=step16 N a0 (fun a=>q1 (St16 a0 a)) (v0,v1,v2):=by kernel_rfl
theorem lp16_eq (N:Nat) (a0:List Int) (a:Int×(List Int)×(List Int)):(orc T (G N) live [] N 2) loop16 (K16 N (orc T (G N) live [] N 2)) (St16 a0 a)=lp16 N a0 a:=
 (orc_loop (b:=body16) (live:=[3,8,9]) (by kernel_rfl)).trans (iter_eq (St16 a0) _ _ (fun q1 a=>by
  have hc:=congrFun (congrFun (rfl:(step16 N a0)=(step16 N a0)) (fun a=>q1 (St16 a0 a))) a
  obtain ⟨u0,u1,u2⟩:=a
  exact (body16_0 N (orc T (G N) live [] N 2) (orc T (G N) live [] N 1) q1 a0 u0 u1 u2).trans hc) N a)
theorem lp11_eq (N:Nat) (a0:List Int) (a:Int×(List Int)×(List Int)×(List Int)):(orc T (G N) live [] N 2) loop11 (K11 N (orc T (G N) live [] N 2)) (St11 a0 a)=lp11 N a0 a:=
 (orc_loop (b:=body11) (live:=[3,4,6,7]) (by kernel_rfl)).trans (iter_eq (St11 a0) _ _ (fun q1 a=>by
  have hc:=congrFun (congrFun (congrArg (step11 N a0) (funext fun a=>lp16_eq N a0 a)) (fun a=>q1 (St11 a0 a))) a
  obtain ⟨u0,u1,u2,u3⟩:=a
  exact (body11_0 N (orc T (G N) live [] N 2) (orc T (G N) live [] N 1) q1 a0 u0 u1 u2 u3).trans hc) N a)
theorem lp6_eq (N:Nat) (a0:List Int) (a:Int×(List Int)×(List Int)):(orc T (G N) live [] N 2) loop6 (K6 N (orc T (G N) live [] N 2)) (St6 a0 a)=lp6 N a0 a:=
 (orc_loop (b:=body6) (live:=[0,3,4,5]) (by kernel_rfl)).trans (iter_eq (St6 a0) _ _ (fun q1 a=>by
  have hc:=congrFun (congrFun (congrArg (step6 N a0) (funext fun a=>lp11_eq N a0 a)) (fun a=>q1 (St6 a0 a))) a
  obtain ⟨u0,u1,u2⟩:=a
  exact (body6_0 N (orc T (G N) live [] N 2) (orc T (G N) live [] N 1) q1 a0 u0 u1 u2).trans hc) N a)
theorem lp3_eq (N:Nat) (a0:List Int) (a:(List Int)×(List Int)):(orc T (G N) live [] N 2) loop3 (K3 N (orc T (G N) live [] N 2)) (St3 a0 a)=lp3 N a0 a:=
 (orc_loop (b:=body3) (live:=[0,3,4]) (by kernel_rfl)).trans (iter_eq (St3 a0) _ _ (fun q1 a=>by
  have hc:=congrFun (congrFun (congrArg (step3 N a0) (funext fun a=>lp6_eq N a0 a)) (fun a=>q1 (St3 a0 a))) a
  obtain ⟨u0,u1⟩:=a
  exact (body3_0 N (orc T (G N) live [] N 2) (orc T (G N) live [] N 1) q1 a0 u0 u1).trans hc) N a)
theorem G_ok (N:Nat):GamOK Tryz.prog (G N):=gam_ok (⟨spec_l01Consts.snd N,spec_l01Block.snd N,trivial⟩)
theorem snd (N:Nat):Sound Tryz.prog E 123 (sp N):=
 Mir.sound T_OK (G_ok N) mixed Tryz.func123 (c:=code) (by kernel_rfl) (by kernel_rfl) (sp N) (Nat.le_of_ble_eq_true (by kernel_rfl)) live [] (by
  rintro ⟨a0,_⟩ r h
  exact ⟨N,2,((run N _ a0).trans (congrArg (m0 N a0) (funext fun a=>lp3_eq N a0 a))).trans h⟩)
end spec_l01Hash
namespace spec_l07Hash
noncomputable def code:Code:=Tryz.f89.body.getD .skip
abbrev live:Live:=[]
noncomputable def G (N:Nat):Ctx E:=gam [(123,[],spec_l01Hash.sp N)]
theorem run (N:Nat) (o0:Orc E R) (a0:ByteArray):runF T (G N) live [] Tryz.f89 code (sp N) o0 (a0,())=m N a0:=by kernel_rfl
theorem G_ok (N:Nat):GamOK Tryz.prog (G N):=gam_ok (⟨spec_l01Hash.snd N,trivial⟩)
theorem snd (N:Nat):Sound Tryz.prog E 89 (sp N):=
 Mir.sound T_OK (G_ok N) mixed Tryz.func89 (c:=code) (by kernel_rfl) (by kernel_rfl) (sp N) (Nat.le_of_ble_eq_true (by kernel_rfl)) live [] (by
  rintro ⟨a0,_⟩ r h
  exact ⟨N,2,((run N _ a0).trans rfl).trans h⟩)
end spec_l07Hash
namespace spec_l07Leaf
noncomputable def code:Code:=Tryz.f119.body.getD .skip
abbrev live:Live:=[]
noncomputable def G (N:Nat):Ctx E:=gam []
theorem run (N:Nat) (o0:Orc E R) (a0:Branch):runF T (G N) live [] Tryz.f119 code (sp N) o0 (a0,())=m N a0:=by kernel_rfl
theorem G_ok (N:Nat):GamOK Tryz.prog (G N):=gam_ok (trivial)
theorem snd (N:Nat):Sound Tryz.prog E 119 (sp N):=
 Mir.sound T_OK (G_ok N) mixed Tryz.func119 (c:=code) (by kernel_rfl) (by kernel_rfl) (sp N) (Nat.le_of_ble_eq_true (by kernel_rfl)) live [] (by
  rintro ⟨a0,_⟩ r h
  exact ⟨N,2,((run N _ a0).trans rfl).trans h⟩)
end spec_l07Leaf
namespace spec_l07Bit
noncomputable def code:Code:=Tryz.f122.body.getD .skip
abbrev live:Live:=[]
noncomputable def G (N:Nat):Ctx E:=gam []
theorem run (N:Nat) (o0:Orc E R) (a0:ByteArray) (a1:Int):runF T (G N) live [] Tryz.f122 code (sp N) o0 (a0,a1,())=m N a0 a1:=by kernel_rfl
theorem G_ok (N:Nat):GamOK Tryz.prog (G N):=gam_ok (trivial)
theorem snd (N:Nat):Sound Tryz.prog E 122 (sp N):=
 Mir.sound T_OK (G_ok N) mixed Tryz.func122 (c:=code) (by kernel_rfl) (by kernel_rfl) (sp N) (Nat.le_of_ble_eq_true (by kernel_rfl)) live [] (by
  rintro ⟨a0,a1,_⟩ r h
  exact ⟨N,2,((run N _ a0 a1).trans rfl).trans h⟩)
end spec_l07Bit
namespace spec_l07Get
noncomputable def code:Code:=Tryz.f86.body.getD .skip
abbrev live:Live:=[(4,[1,2,4,6])]
noncomputable def G (N:Nat):Ctx E:=gam [(117,[],spec_l07Empty.sp N),(89,[],spec_l07Hash.sp N),(119,[],spec_l07Leaf.sp N),(122,[],spec_l07Bit.sp N)]
noncomputable def loop4:Code:=codeAt code [1,1,1,0,0]
noncomputable def body4:Code:=codeAt loop4 [0]
noncomputable def K4 (N:Nat) (o0:Orc E R):KT E R:=kAt T (G N) live [] o0 code [1,1,1,0,0] (kfin T Tryz.f86 (sp N))
noncomputable def St4 (a0:Branch) (a1:ByteArray):(ByteArray×ByteArray×ByteArray×Int×(List Branch)×ByteArray×ByteArray×Int)→St E
 | (v1,v2,v3,v4,v5,v6,v7,v8)=>{ ρ:=[(1,.c (.at (.str a1))),(2,.c (.at (.ptr 0 0))),(4,.c (.at (.ptr 1 0))),(6,.c (.at (.str v1)))],H:=[(0,.box 36 [.str v2,.str v3,.int .i64 v4,.ro 36 (.st 36) v5]),(1,.box 36 [.str v6,.str v7,.int .i64 v8,.nils])],nx:=2,n:=28,pin:=[] }
theorem run (N:Nat) (o0:Orc E R) (a0:Branch) (a1:ByteArray):runF T (G N) live [] Tryz.f86 code (sp N) o0 (a0,a1,())=m0 N a0 a1 (fun a=>o0 loop4 (K4 N o0) (St4 a0 a1 a)):=by kernel_rfl
theorem body4_0 (N:Nat) (o0:Orc E R) (o1:Orc E R) (q1:St E→Option R) (a0:Branch) (a1:ByteArray) (v1:ByteArray) (v2:ByteArray) (v3:ByteArray) (v4:Int) (v5:List Branch) (v6:ByteArray) (v7:ByteArray) (v8:Int):runA T (G N) live [] o1 body4 (St4 a0 a1 (v1,v2,v3,v4,v5,v6,v7,v8)) (kloop [1,2,4,6] q1 (K4 N o0))=step4 N a0 a1 (fun a=>q1 (St4 a0 a1 a)) (v1,v2,v3,v4,v5,v6,v7,v8):=by kernel_rfl
theorem lp4_eq (N:Nat) (a0:Branch) (a1:ByteArray) (a:ByteArray×ByteArray×ByteArray×Int×(List Branch)×ByteArray×ByteArray×Int):(orc T (G N) live [] N 2) loop4 (K4 N (orc T (G N) live [] N 2)) (St4 a0 a1 a)=lp4 N a0 a1 a:=
 (orc_loop (b:=body4) (live:=[1,2,4,6]) (by kernel_rfl)).trans (iter_eq (St4 a0 a1) _ _ (fun q1 a=>by
  have hc:=congrFun (congrFun (rfl:(step4 N a0 a1)=(step4 N a0 a1)) (fun a=>q1 (St4 a0 a1 a))) a
  obtain ⟨u0,u1,u2,u3,u4,u5,u6,u7⟩:=a
  exact (body4_0 N (orc T (G N) live [] N 2) (orc T (G N) live [] N 1) q1 a0 a1 u0 u1 u2 u3 u4 u5 u6 u7).trans hc) N a)
theorem G_ok (N:Nat):GamOK Tryz.prog (G N):=gam_ok (⟨spec_l07Empty.snd N,spec_l07Hash.snd N,spec_l07Leaf.snd N,spec_l07Bit.snd N,trivial⟩)
theorem snd (N:Nat):Sound Tryz.prog E 86 (sp N):=
 Mir.sound T_OK (G_ok N) mixed Tryz.func86 (c:=code) (by kernel_rfl) (by kernel_rfl) (sp N) (Nat.le_of_ble_eq_true (by kernel_rfl)) live [] (by
  rintro ⟨a0,a1,_⟩ r h
  exact ⟨N,2,((run N _ a0 a1).trans (congrArg (m0 N a0 a1) (funext fun a=>lp4_eq N a0 a1 a))).trans h⟩)
end spec_l07Get
namespace spec_l07Size
noncomputable def code:Code:=Tryz.f87.body.getD .skip
abbrev live:Live:=[]
noncomputable def G (N:Nat) (slf:Branch→Option R):Ctx E:=gam [(117,[],spec_l07Empty.sp N),(119,[],spec_l07Leaf.sp N),(87,[],spf slf)]
theorem run (N:Nat) (o0:Orc E R) (slf:Branch→Option R) (a0:Branch):runF T (G N slf) live [] Tryz.f87 code (spf (mb N slf)) o0 (a0,())=mb N slf a0:=by kernel_rfl
theorem G_ok (N:Nat) (slf:Branch→Option R) (hs:Sound Tryz.prog E 87 (spf slf)):GamOK Tryz.prog (G N slf):=gam_ok (⟨spec_l07Empty.snd N,spec_l07Leaf.snd N,hs,trivial⟩)
theorem sndF (N:Nat):∀n,Sound Tryz.prog E 87 (spf (mF N n))
 | 0=>sound_none Tryz.func87 (c:=code) (by kernel_rfl) (by kernel_rfl) (spf (mF N 0)) (fun _=>rfl)
 | n+1=>by
  have hr:=fun (a0:Branch)=>(run N (orc T (G N (mF N n)) live [] N 2) (mF N n) a0).trans rfl
  exact Mir.sound T_OK (G_ok N (mF N n) (sndF N n)) mixed Tryz.func87 (c:=code) (by kernel_rfl) (by kernel_rfl) (spf (mF N (n+1))) (Nat.le_of_ble_eq_true (by kernel_rfl)) live [] (by
   rintro ⟨a0,_⟩ r h
   exact ⟨N,2,(hr a0).trans h⟩)
theorem snd (N:Nat):Sound Tryz.prog E 87 (sp N):=sndF N N
end spec_l07Size
namespace spec_l07Drop
noncomputable def code:Code:=Tryz.f88.body.getD .skip
abbrev live:Live:=[]
noncomputable def G (N:Nat) (slf:Branch→ByteArray→ByteArray→Option R):Ctx E:=gam [(119,[],spec_l07Leaf.sp N),(122,[],spec_l07Bit.sp N),(88,[],spf slf)]
theorem run (N:Nat) (o0:Orc E R) (slf:Branch→ByteArray→ByteArray→Option R) (a0:Branch) (a1:ByteArray) (a2:ByteArray):runF T (G N slf) live [] Tryz.f88 code (spf (mb N slf)) o0 (a0,a1,a2,())=mb N slf a0 a1 a2:=by kernel_rfl
theorem G_ok (N:Nat) (slf:Branch→ByteArray→ByteArray→Option R) (hs:Sound Tryz.prog E 88 (spf slf)):GamOK Tryz.prog (G N slf):=gam_ok (⟨spec_l07Leaf.snd N,spec_l07Bit.snd N,hs,trivial⟩)
theorem sndF (N:Nat):∀n,Sound Tryz.prog E 88 (spf (mF N n))
 | 0=>sound_none Tryz.func88 (c:=code) (by kernel_rfl) (by kernel_rfl) (spf (mF N 0)) (fun _=>rfl)
 | n+1=>by
  have hr:=fun (a0:Branch) (a1:ByteArray) (a2:ByteArray)=>(run N (orc T (G N (mF N n)) live [] N 2) (mF N n) a0 a1 a2).trans rfl
  exact Mir.sound T_OK (G_ok N (mF N n) (sndF N n)) mixed Tryz.func88 (c:=code) (by kernel_rfl) (by kernel_rfl) (spf (mF N (n+1))) (Nat.le_of_ble_eq_true (by kernel_rfl)) live [] (by
   rintro ⟨a0,a1,a2,_⟩ r h
   exact ⟨N,2,(hr a0 a1 a2).trans h⟩)
theorem snd (N:Nat):Sound Tryz.prog E 88 (sp N):=sndF N N
end spec_l07Drop
namespace spec_l02Two
noncomputable def code:Code:=Tryz.f76.body.getD .skip
abbrev live:Live:=[]
noncomputable def G (N:Nat):Ctx E:=gam []
theorem run (N:Nat) (o0:Orc E R) (a0:Int):runF T (G N) live [] Tryz.f76 code (sp N) o0 (a0,())=m N a0:=by kernel_rfl
theorem G_ok (N:Nat):GamOK Tryz.prog (G N):=gam_ok (trivial)
theorem snd (N:Nat):Sound Tryz.prog E 76 (sp N):=
 Mir.sound T_OK (G_ok N) mixed Tryz.func76 (c:=code) (by kernel_rfl) (by kernel_rfl) (sp N) (Nat.le_of_ble_eq_true (by kernel_rfl)) live [] (by
  rintro ⟨a0,_⟩ r h
  exact ⟨N,2,((run N _ a0).trans rfl).trans h⟩)
end spec_l02Two
namespace spec_l02Bytes
noncomputable def code:Code:=Tryz.f92.body.getD .skip
abbrev live:Live:=[]
noncomputable def G (N:Nat):Ctx E:=gam [(76,[],spec_l02Two.sp N)]
theorem run (N:Nat) (o0:Orc E R) (a0:Command):runF T (G N) live [] Tryz.f92 code (sp N) o0 (a0,())=m N a0:=by kernel_rfl
theorem G_ok (N:Nat):GamOK Tryz.prog (G N):=gam_ok (⟨spec_l02Two.snd N,trivial⟩)
theorem snd (N:Nat):Sound Tryz.prog E 92 (sp N):=
 Mir.sound T_OK (G_ok N) mixed Tryz.func92 (c:=code) (by kernel_rfl) (by kernel_rfl) (sp N) (Nat.le_of_ble_eq_true (by kernel_rfl)) live [] (by
  rintro ⟨a0,_⟩ r h
  exact ⟨N,2,((run N _ a0).trans rfl).trans h⟩)
end spec_l02Bytes
namespace spec_l06Leaf
noncomputable def code:Code:=Tryz.f91.body.getD .skip
abbrev live:Live:=[]
noncomputable def G (N:Nat):Ctx E:=gam [(123,[],spec_l01Hash.sp N)]
theorem run (N:Nat) (o0:Orc E R) (a0:ByteArray):runF T (G N) live [] Tryz.f91 code (sp N) o0 (a0,())=m N a0:=by kernel_rfl
theorem G_ok (N:Nat):GamOK Tryz.prog (G N):=gam_ok (⟨spec_l01Hash.snd N,trivial⟩)
theorem snd (N:Nat):Sound Tryz.prog E 91 (sp N):=
 Mir.sound T_OK (G_ok N) mixed Tryz.func91 (c:=code) (by kernel_rfl) (by kernel_rfl) (sp N) (Nat.le_of_ble_eq_true (by kernel_rfl)) live [] (by
  rintro ⟨a0,_⟩ r h
  exact ⟨N,2,((run N _ a0).trans rfl).trans h⟩)
end spec_l06Leaf
namespace spec_l07New
noncomputable def code:Code:=Tryz.f124.body.getD .skip
abbrev live:Live:=[]
noncomputable def G (N:Nat):Ctx E:=gam []
theorem run (N:Nat) (o0:Orc E R) (a0:ByteArray) (a1:ByteArray):runF T (G N) live [] Tryz.f124 code (sp N) o0 (a0,a1,())=m N a0 a1:=by kernel_rfl
theorem G_ok (N:Nat):GamOK Tryz.prog (G N):=gam_ok (trivial)
theorem snd (N:Nat):Sound Tryz.prog E 124 (sp N):=
 Mir.sound T_OK (G_ok N) mixed Tryz.func124 (c:=code) (by kernel_rfl) (by kernel_rfl) (sp N) (Nat.le_of_ble_eq_true (by kernel_rfl)) live [] (by
  rintro ⟨a0,a1,_⟩ r h
  exact ⟨N,2,((run N _ a0 a1).trans rfl).trans h⟩)
end spec_l07New
namespace spec_l07Near
noncomputable def code:Code:=Tryz.f126.body.getD .skip
abbrev live:Live:=[(1,[1,2])]
noncomputable def G (N:Nat):Ctx E:=gam [(119,[],spec_l07Leaf.sp N),(122,[],spec_l07Bit.sp N),(89,[],spec_l07Hash.sp N)]
noncomputable def loop1:Code:=codeAt code [1,0,0]
noncomputable def body1:Code:=codeAt loop1 [0]
noncomputable def K1 (N:Nat) (o0:Orc E R):KT E R:=kAt T (G N) live [] o0 code [1,0,0] (kfin T Tryz.f126 (sp N))
noncomputable def St1 (a0:Branch) (a1:ByteArray):(ByteArray×ByteArray×Int×(List Branch))→St E
 | (v1,v2,v3,v4)=>{ ρ:=[(1,.c (.at (.str a1))),(2,.c (.at (.ptr 0 0)))],H:=[(0,.box 36 [.str v1,.str v2,.int .i64 v3,.ro 36 (.st 36) v4])],nx:=1,n:=19,pin:=[] }
theorem run (N:Nat) (o0:Orc E R) (a0:Branch) (a1:ByteArray):runF T (G N) live [] Tryz.f126 code (sp N) o0 (a0,a1,())=m0 N a0 a1 (fun a=>o0 loop1 (K1 N o0) (St1 a0 a1 a)):=by kernel_rfl
theorem body1_0 (N:Nat) (o0:Orc E R) (o1:Orc E R) (q1:St E→Option R) (a0:Branch) (a1:ByteArray) (v1:ByteArray) (v2:ByteArray) (v3:Int) (v4:List Branch):runA T (G N) live [] o1 body1 (St1 a0 a1 (v1,v2,v3,v4)) (kloop [1,2] q1 (K1 N o0))=step1 N a0 a1 (fun a=>q1 (St1 a0 a1 a)) (v1,v2,v3,v4):=by kernel_rfl
theorem lp1_eq (N:Nat) (a0:Branch) (a1:ByteArray) (a:ByteArray×ByteArray×Int×(List Branch)):(orc T (G N) live [] N 2) loop1 (K1 N (orc T (G N) live [] N 2)) (St1 a0 a1 a)=lp1 N a0 a1 a:=
 (orc_loop (b:=body1) (live:=[1,2]) (by kernel_rfl)).trans (iter_eq (St1 a0 a1) _ _ (fun q1 a=>by
  have hc:=congrFun (congrFun (rfl:(step1 N a0 a1)=(step1 N a0 a1)) (fun a=>q1 (St1 a0 a1 a))) a
  obtain ⟨u0,u1,u2,u3⟩:=a
  exact (body1_0 N (orc T (G N) live [] N 2) (orc T (G N) live [] N 1) q1 a0 a1 u0 u1 u2 u3).trans hc) N a)
theorem G_ok (N:Nat):GamOK Tryz.prog (G N):=gam_ok (⟨spec_l07Leaf.snd N,spec_l07Bit.snd N,spec_l07Hash.snd N,trivial⟩)
theorem snd (N:Nat):Sound Tryz.prog E 126 (sp N):=
 Mir.sound T_OK (G_ok N) mixed Tryz.func126 (c:=code) (by kernel_rfl) (by kernel_rfl) (sp N) (Nat.le_of_ble_eq_true (by kernel_rfl)) live [] (by
  rintro ⟨a0,a1,_⟩ r h
  exact ⟨N,2,((run N _ a0 a1).trans (congrArg (m0 N a0 a1) (funext fun a=>lp1_eq N a0 a1 a))).trans h⟩)
end spec_l07Near
namespace spec_l07Differ
noncomputable def code:Code:=Tryz.f125.body.getD .skip
abbrev live:Live:=[(2,[0,1,5])]
noncomputable def G (N:Nat):Ctx E:=gam [(122,[],spec_l07Bit.sp N)]
noncomputable def loop2:Code:=codeAt code [1,0,1,0]
noncomputable def body2:Code:=codeAt loop2 [0]
noncomputable def K2 (N:Nat) (o0:Orc E R):KT E R:=kAt T (G N) live [] o0 code [1,0,1,0] (kfin T Tryz.f125 (sp N))
noncomputable def St2 (a0:ByteArray) (a1:ByteArray):Int→St E
 | v2=>{ ρ:=[(0,.c (.at (.str a0))),(1,.c (.at (.str a1))),(5,.c (.at (.int .i64 v2)))],H:=[],nx:=0,n:=18,pin:=[] }
theorem run (N:Nat) (o0:Orc E R) (a0:ByteArray) (a1:ByteArray):runF T (G N) live [] Tryz.f125 code (sp N) o0 (a0,a1,())=m0 N a0 a1 (fun a=>o0 loop2 (K2 N o0) (St2 a0 a1 a)):=by kernel_rfl
theorem body2_0 (N:Nat) (o0:Orc E R) (o1:Orc E R) (q1:St E→Option R) (a0:ByteArray) (a1:ByteArray) (v2:Int):runA T (G N) live [] o1 body2 (St2 a0 a1 v2) (kloop [0,1,5] q1 (K2 N o0))=step2 N a0 a1 (fun a=>q1 (St2 a0 a1 a)) v2:=by kernel_rfl
theorem lp2_eq (N:Nat) (a0:ByteArray) (a1:ByteArray) (a:Int):(orc T (G N) live [] N 2) loop2 (K2 N (orc T (G N) live [] N 2)) (St2 a0 a1 a)=lp2 N a0 a1 a:=
 (orc_loop (b:=body2) (live:=[0,1,5]) (by kernel_rfl)).trans (iter_eq (St2 a0 a1) _ _ (fun q1 a=>by
  have hc:=congrFun (congrFun (rfl:(step2 N a0 a1)=(step2 N a0 a1)) (fun a=>q1 (St2 a0 a1 a))) a
  exact (body2_0 N (orc T (G N) live [] N 2) (orc T (G N) live [] N 1) q1 a0 a1 a).trans hc) N a)
theorem G_ok (N:Nat):GamOK Tryz.prog (G N):=gam_ok (⟨spec_l07Bit.snd N,trivial⟩)
theorem snd (N:Nat):Sound Tryz.prog E 125 (sp N):=
 Mir.sound T_OK (G_ok N) mixed Tryz.func125 (c:=code) (by kernel_rfl) (by kernel_rfl) (sp N) (Nat.le_of_ble_eq_true (by kernel_rfl)) live [] (by
  rintro ⟨a0,a1,_⟩ r h
  exact ⟨N,2,((run N _ a0 a1).trans (congrArg (m0 N a0 a1) (funext fun a=>lp2_eq N a0 a1 a))).trans h⟩)
end spec_l07Differ
namespace spec_l07Insert
noncomputable def code:Code:=Tryz.f127.body.getD .skip
abbrev live:Live:=[]
noncomputable def G (N:Nat) (slf:Branch→ByteArray→Int→Branch→Option R):Ctx E:=gam [(119,[],spec_l07Leaf.sp N),(122,[],spec_l07Bit.sp N),(127,[],spf slf)]
theorem run (N:Nat) (o0:Orc E R) (slf:Branch→ByteArray→Int→Branch→Option R) (a0:Branch) (a1:ByteArray) (a2:Int) (a3:Branch):runF T (G N slf) live [] Tryz.f127 code (spf (mb N slf)) o0 (a0,a1,a2,a3,())=mb N slf a0 a1 a2 a3:=by kernel_rfl
theorem G_ok (N:Nat) (slf:Branch→ByteArray→Int→Branch→Option R) (hs:Sound Tryz.prog E 127 (spf slf)):GamOK Tryz.prog (G N slf):=gam_ok (⟨spec_l07Leaf.snd N,spec_l07Bit.snd N,hs,trivial⟩)
theorem sndF (N:Nat):∀n,Sound Tryz.prog E 127 (spf (mF N n))
 | 0=>sound_none Tryz.func127 (c:=code) (by kernel_rfl) (by kernel_rfl) (spf (mF N 0)) (fun _=>rfl)
 | n+1=>by
  have hr:=fun (a0:Branch) (a1:ByteArray) (a2:Int) (a3:Branch)=>(run N (orc T (G N (mF N n)) live [] N 2) (mF N n) a0 a1 a2 a3).trans rfl
  exact Mir.sound T_OK (G_ok N (mF N n) (sndF N n)) mixed Tryz.func127 (c:=code) (by kernel_rfl) (by kernel_rfl) (spf (mF N (n+1))) (Nat.le_of_ble_eq_true (by kernel_rfl)) live [] (by
   rintro ⟨a0,a1,a2,a3,_⟩ r h
   exact ⟨N,2,(hr a0 a1 a2 a3).trans h⟩)
theorem snd (N:Nat):Sound Tryz.prog E 127 (sp N):=sndF N N
end spec_l07Insert
namespace spec_l07Put
noncomputable def code:Code:=Tryz.f90.body.getD .skip
abbrev live:Live:=[]
noncomputable def G (N:Nat):Ctx E:=gam [(117,[],spec_l07Empty.sp N),(124,[],spec_l07New.sp N),(89,[],spec_l07Hash.sp N),(126,[],spec_l07Near.sp N),(125,[],spec_l07Differ.sp N),(127,[],spec_l07Insert.sp N)]
theorem run (N:Nat) (o0:Orc E R) (a0:Branch) (a1:ByteArray) (a2:ByteArray):runF T (G N) live [] Tryz.f90 code (sp N) o0 (a0,a1,a2,())=m N a0 a1 a2:=by kernel_rfl
theorem G_ok (N:Nat):GamOK Tryz.prog (G N):=gam_ok (⟨spec_l07Empty.snd N,spec_l07New.snd N,spec_l07Hash.snd N,spec_l07Near.snd N,spec_l07Differ.snd N,spec_l07Insert.snd N,trivial⟩)
theorem snd (N:Nat):Sound Tryz.prog E 90 (sp N):=
 Mir.sound T_OK (G_ok N) mixed Tryz.func90 (c:=code) (by kernel_rfl) (by kernel_rfl) (sp N) (Nat.le_of_ble_eq_true (by kernel_rfl)) live [] (by
  rintro ⟨a0,a1,a2,_⟩ r h
  exact ⟨N,2,((run N _ a0 a1 a2).trans rfl).trans h⟩)
end spec_l07Put
namespace spec_l09Change
noncomputable def code:Code:=Tryz.f55.body.getD .skip
abbrev live:Live:=[]
noncomputable def G (N:Nat):Ctx E:=gam [(86,[],spec_l07Get.sp N),(87,[],spec_l07Size.sp N),(89,[],spec_l07Hash.sp N),(88,[],spec_l07Drop.sp N),(92,[],spec_l02Bytes.sp N),(91,[],spec_l06Leaf.sp N),(90,[],spec_l07Put.sp N)]
theorem run (N:Nat) (o0:Orc E R) (a0:Ledger) (a1:Command):runF T (G N) live [] Tryz.f55 code (sp N) o0 (a0,a1,())=m N a0 a1:=by kernel_rfl
theorem G_ok (N:Nat):GamOK Tryz.prog (G N):=gam_ok (⟨spec_l07Get.snd N,spec_l07Size.snd N,spec_l07Hash.snd N,spec_l07Drop.snd N,spec_l02Bytes.snd N,spec_l06Leaf.snd N,spec_l07Put.snd N,trivial⟩)
theorem snd (N:Nat):Sound Tryz.prog E 55 (sp N):=
 Mir.sound T_OK (G_ok N) mixed Tryz.func55 (c:=code) (by kernel_rfl) (by kernel_rfl) (sp N) (Nat.le_of_ble_eq_true (by kernel_rfl)) live [] (by
  rintro ⟨a0,a1,_⟩ r h
  exact ⟨N,2,((run N _ a0 a1).trans rfl).trans h⟩)
end spec_l09Change
namespace spec_l09Apply
noncomputable def code:Code:=Tryz.f28.body.getD .skip
abbrev live:Live:=[]
noncomputable def G (N:Nat):Ctx E:=gam [(53,[],spec_l09Open.sp N),(54,[],spec_l09Session.sp N),(55,[],spec_l09Change.sp N)]
theorem run (N:Nat) (o0:Orc E R) (a0:Ledger) (a1:Command):runF T (G N) live [] Tryz.f28 code (sp N) o0 (a0,a1,())=m N a0 a1:=by kernel_rfl
theorem G_ok (N:Nat):GamOK Tryz.prog (G N):=gam_ok (⟨spec_l09Open.snd N,spec_l09Session.snd N,spec_l09Change.snd N,trivial⟩)
theorem snd (N:Nat):Sound Tryz.prog E 28 (sp N):=
 Mir.sound T_OK (G_ok N) mixed Tryz.func28 (c:=code) (by kernel_rfl) (by kernel_rfl) (sp N) (Nat.le_of_ble_eq_true (by kernel_rfl)) live [] (by
  rintro ⟨a0,a1,_⟩ r h
  exact ⟨N,2,((run N _ a0 a1).trans rfl).trans h⟩)
end spec_l09Apply
namespace spec_l07Own
noncomputable def code:Code:=Tryz.f56.body.getD .skip
abbrev live:Live:=[(3,[1,2,3,4])]
noncomputable def G (N:Nat) (slf:Branch→Option R):Ctx E:=gam [(56,[],spf slf)]
noncomputable def loop3:Code:=codeAt code [1,1,0,1,0]
noncomputable def body3:Code:=codeAt loop3 [0]
noncomputable def K3 (N:Nat) (slf:Branch→Option R) (o0:Orc E R):KT E R:=kAt T (G N slf) live [] o0 code [1,1,0,1,0] (kfin T Tryz.f56 (spf (mb N slf)))
noncomputable def St3 (slf:Branch→Option R) (a0:Branch):A3→St E
 | .s0 v0 v5 v6 v7=>{ ρ:=[(1,.c (.at (.ptr 0 0))),(2,.c (.at (.ptr 1 0))),(3,.c (.at (.ptr 2 0))),(4,.c (.at (.int .i64 v0)))],H:=[(0,.box 36 [.str a0.Key,.str a0.Value,.int .i64 a0.At,.ro 36 (.st 36) a0.Kids]),(1,.box 36 [.str v5,.str v6,.int .i64 v7,.nils]),(2,.box 36 [.str a0.Key,.str a0.Value,.int .i64 a0.At,.nils])],nx:=3,n:=31,pin:=[] }
 | .s1 v0 v5 v6 v7 v11=>{ ρ:=[(1,.c (.at (.ptr 0 0))),(2,.c (.at (.ptr 1 0))),(3,.c (.at (.ptr 2 0))),(4,.c (.at (.int .i64 v0)))],H:=[(0,.box 36 [.str a0.Key,.str a0.Value,.int .i64 a0.At,.ro 36 (.st 36) a0.Kids]),(1,.box 36 [.str v5,.str v6,.int .i64 v7,.nils]),(2,.box 36 [.str a0.Key,.str a0.Value,.int .i64 a0.At,.own 3]),(3,.row 36 (.st 36) v11 false)],nx:=4,n:=31,pin:=[] }
theorem run (N:Nat) (o0:Orc E R) (slf:Branch→Option R) (a0:Branch):runF T (G N slf) live [] Tryz.f56 code (spf (mb N slf)) o0 (a0,())=m0 N slf a0 (fun a=>o0 loop3 (K3 N slf o0) (St3 slf a0 a)):=by kernel_rfl
theorem body3_0 (N:Nat) (o0:Orc E R) (o1:Orc E R) (q1:St E→Option R) (slf:Branch→Option R) (a0:Branch) (v0:Int) (v5:ByteArray) (v6:ByteArray) (v7:Int):runA T (G N slf) live [] o1 body3 (St3 slf a0 (.s0 v0 v5 v6 v7)) (kloop [1,2,3,4] q1 (K3 N slf o0))=step3 N slf a0 (fun a=>q1 (St3 slf a0 a)) (.s0 v0 v5 v6 v7):=by kernel_rfl
theorem body3_1 (N:Nat) (o0:Orc E R) (o1:Orc E R) (q1:St E→Option R) (slf:Branch→Option R) (a0:Branch) (v0:Int) (v5:ByteArray) (v6:ByteArray) (v7:Int) (v11:List Branch):runA T (G N slf) live [] o1 body3 (St3 slf a0 (.s1 v0 v5 v6 v7 v11)) (kloop [1,2,3,4] q1 (K3 N slf o0))=step3 N slf a0 (fun a=>q1 (St3 slf a0 a)) (.s1 v0 v5 v6 v7 v11):=by kernel_rfl
theorem lp3_eq (N:Nat) (slf:Branch→Option R) (a0:Branch) (a:A3):(orc T (G N slf) live [] N 2) loop3 (K3 N slf (orc T (G N slf) live [] N 2)) (St3 slf a0 a)=lp3 N slf a0 a:=
 (orc_loop (b:=body3) (live:=[1,2,3,4]) (by kernel_rfl)).trans (iter_eq (St3 slf a0) _ _ (fun q1 a=>by
  have hc:=congrFun (congrFun (rfl:(step3 N slf a0)=(step3 N slf a0)) (fun a=>q1 (St3 slf a0 a))) a
  cases a with
  | s0 u0 u1 u2 u3=>exact (body3_0 N (orc T (G N slf) live [] N 2) (orc T (G N slf) live [] N 1) q1 slf a0 u0 u1 u2 u3).trans hc
  | s1 u0 u1 u2 u3 u4=>exact (body3_1 N (orc T (G N slf) live [] N 2) (orc T (G N slf) live [] N 1) q1 slf a0 u0 u1 u2 u3 u4).trans hc) N a)
theorem G_ok (N:Nat) (slf:Branch→Option R) (hs:Sound Tryz.prog E 56 (spf slf)):GamOK Tryz.prog (G N slf):=gam_ok (⟨hs,trivial⟩)
theorem sndF (N:Nat):∀n,Sound Tryz.prog E 56 (spf (mF N n))
 | 0=>sound_none Tryz.func56 (c:=code) (by kernel_rfl) (by kernel_rfl) (spf (mF N 0)) (fun _=>rfl)
 | n+1=>by
  have hr:=fun (a0:Branch)=>(run N (orc T (G N (mF N n)) live [] N 2) (mF N n) a0).trans (congrArg (m0 N (mF N n) a0) (funext fun a=>lp3_eq N (mF N n) a0 a))
  exact Mir.sound T_OK (G_ok N (mF N n) (sndF N n)) mixed Tryz.func56 (c:=code) (by kernel_rfl) (by kernel_rfl) (spf (mF N (n+1))) (Nat.le_of_ble_eq_true (by kernel_rfl)) live [] (by
   rintro ⟨a0,_⟩ r h
   exact ⟨N,2,(hr a0).trans h⟩)
theorem snd (N:Nat):Sound Tryz.prog E 56 (sp N):=sndF N N
end spec_l07Own
namespace spec_l09Own
noncomputable def code:Code:=Tryz.f29.body.getD .skip
abbrev live:Live:=[]
noncomputable def G (N:Nat):Ctx E:=gam [(56,[],spec_l07Own.sp N)]
theorem run (N:Nat) (o0:Orc E R) (a0:Ledger):runF T (G N) live [] Tryz.f29 code (sp N) o0 (a0,())=m N a0:=by kernel_rfl
theorem G_ok (N:Nat):GamOK Tryz.prog (G N):=gam_ok (⟨spec_l07Own.snd N,trivial⟩)
theorem snd (N:Nat):Sound Tryz.prog E 29 (sp N):=
 Mir.sound T_OK (G_ok N) mixed Tryz.func29 (c:=code) (by kernel_rfl) (by kernel_rfl) (sp N) (Nat.le_of_ble_eq_true (by kernel_rfl)) live [] (by
  rintro ⟨a0,_⟩ r h
  exact ⟨N,2,((run N _ a0).trans rfl).trans h⟩)
end spec_l09Own
namespace spec_ApplyAll
noncomputable def code:Code:=Tryz.f11.body.getD .skip
abbrev live:Live:=[(8,[0,2,5,6,7])]
noncomputable def G (N:Nat):Ctx E:=gam [(25,[],spec_CommandOK.sp N),(28,[],spec_l09Apply.sp N),(29,[],spec_l09Own.sp N)]
noncomputable def loop8:Code:=codeAt code [1,1,1,1,1,0,1,0]
noncomputable def body8:Code:=codeAt loop8 [0]
noncomputable def K8 (N:Nat) (o0:Orc E R):KT E R:=kAt T (G N) live [] o0 code [1,1,1,1,1,0,1,0] (kfin T Tryz.f11 (sp N))
noncomputable def St8 (a0:List Command):A8→St E
 | .s0 v1 v2 v3 v4 v5 v6 v7 v8=>{ ρ:=[(0,.c (.at (.ro 31 (.st 31) a0))),(2,.c (.at (.ptr 0 0))),(5,.c (.at (.ptr 1 0))),(6,.c (.at (.own 2))),(7,.c (.at (.int .i64 v1)))],H:=[(0,.box 39 [.nils,.str v2,.str v3,.int .i64 v4,.nils,.nils]),(1,.box 39 [.nils,.str v5,.str v6,.int .i64 v7,.nils,.nils]),(2,.row 27 (.st 27) v8 false)],nx:=3,n:=53,pin:=[] }
 | .s1 v1 v2 v3 v4 v5 v6 v7 v8 v9 v10 v11=>{ ρ:=[(0,.c (.at (.ro 31 (.st 31) a0))),(2,.c (.at (.ptr 0 0))),(5,.c (.at (.ptr 1 0))),(6,.c (.at (.own 2))),(7,.c (.at (.int .i64 v1)))],H:=[(0,.box 39 [.nils,.str v2,.str v3,.int .i64 v4,.nils,.nils]),(1,.box 39 [.ro 9 .str v5,.str v6,.str v7,.int .i64 v8,.ro 36 (.st 36) v9,.ro 72 (.st 72) v10]),(2,.row 27 (.st 27) v11 false)],nx:=3,n:=53,pin:=[] }
theorem run (N:Nat) (o0:Orc E R) (a0:List Command):runF T (G N) live [] Tryz.f11 code (sp N) o0 (a0,())=m0 N a0 (fun a=>o0 loop8 (K8 N o0) (St8 a0 a)):=by kernel_rfl
theorem body8_0 (N:Nat) (o0:Orc E R) (o1:Orc E R) (q1:St E→Option R) (a0:List Command) (v1:Int) (v2:ByteArray) (v3:ByteArray) (v4:Int) (v5:ByteArray) (v6:ByteArray) (v7:Int) (v8:List Reply):runA T (G N) live [] o1 body8 (St8 a0 (.s0 v1 v2 v3 v4 v5 v6 v7 v8)) (kloop [0,2,5,6,7] q1 (K8 N o0))=step8 N a0 (fun a=>q1 (St8 a0 a)) (.s0 v1 v2 v3 v4 v5 v6 v7 v8):=by kernel_rfl
theorem body8_1 (N:Nat) (o0:Orc E R) (o1:Orc E R) (q1:St E→Option R) (a0:List Command) (v1:Int) (v2:ByteArray) (v3:ByteArray) (v4:Int) (v5:List ByteArray) (v6:ByteArray) (v7:ByteArray) (v8:Int) (v9:List Branch) (v10:List Session) (v11:List Reply):runA T (G N) live [] o1 body8 (St8 a0 (.s1 v1 v2 v3 v4 v5 v6 v7 v8 v9 v10 v11)) (kloop [0,2,5,6,7] q1 (K8 N o0))=step8 N a0 (fun a=>q1 (St8 a0 a)) (.s1 v1 v2 v3 v4 v5 v6 v7 v8 v9 v10 v11):=by kernel_rfl
theorem lp8_eq (N:Nat) (a0:List Command) (a:A8):(orc T (G N) live [] N 2) loop8 (K8 N (orc T (G N) live [] N 2)) (St8 a0 a)=lp8 N a0 a:=
 (orc_loop (b:=body8) (live:=[0,2,5,6,7]) (by kernel_rfl)).trans (iter_eq (St8 a0) _ _ (fun q1 a=>by
  have hc:=congrFun (congrFun (rfl:(step8 N a0)=(step8 N a0)) (fun a=>q1 (St8 a0 a))) a
  cases a with
  | s0 u0 u1 u2 u3 u4 u5 u6 u7=>exact (body8_0 N (orc T (G N) live [] N 2) (orc T (G N) live [] N 1) q1 a0 u0 u1 u2 u3 u4 u5 u6 u7).trans hc
  | s1 u0 u1 u2 u3 u4 u5 u6 u7 u8 u9 u10=>exact (body8_1 N (orc T (G N) live [] N 2) (orc T (G N) live [] N 1) q1 a0 u0 u1 u2 u3 u4 u5 u6 u7 u8 u9 u10).trans hc) N a)
theorem G_ok (N:Nat):GamOK Tryz.prog (G N):=gam_ok (⟨spec_CommandOK.snd N,spec_l09Apply.snd N,spec_l09Own.snd N,trivial⟩)
theorem snd (N:Nat):Sound Tryz.prog E 11 (sp N):=
 Mir.sound T_OK (G_ok N) mixed Tryz.func11 (c:=code) (by kernel_rfl) (by kernel_rfl) (sp N) (Nat.le_of_ble_eq_true (by kernel_rfl)) live [] (by
  rintro ⟨a0,_⟩ r h
  exact ⟨N,2,((run N _ a0).trans (congrArg (m0 N a0) (funext fun a=>lp8_eq N a0 a))).trans h⟩)
end spec_ApplyAll
end Mir.Y
