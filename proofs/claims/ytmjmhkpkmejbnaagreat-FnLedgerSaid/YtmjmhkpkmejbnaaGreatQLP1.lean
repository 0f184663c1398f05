/- The models are what the functions do. -/
import Derived.Test.YtmjmhkpkmejbnaaGreatQLM5
import Derived.Test.YtmjmhkpkmejbnaaGreatQLCmpLays
import Derived.Test.YtmjmhkpkmejbnaaGreatQLDel102
import Derived.Test.YtmjmhkpkmejbnaaGreatQLDel97
import Derived.Test.YtmjmhkpkmejbnaaGreatQLIns141
import Derived.Test.YtmjmhkpkmejbnaaGreatQLIns96
import Derived.Test.YtmjmhkpkmejbnaaGreatQLLays
namespace Mir.Y
set_option linter.unusedVariables false
set_option maxRecDepth 10000
open Go Go.Proofs Mir
set_option linter.unusedSectionVars false
variable [UU]
namespace spec_l00Source
noncomputable def code:Code:=Tryz.f20.body.getD .skip
abbrev live:Live:=[]
noncomputable def G (N:Nat):Ctx E:=gam []
theorem run (N:Nat) (o0:Orc E R) (a0:List Int):runF T (G N) live [] Tryz.f20 code (sp N) o0 (a0,())=m N a0:=by kernel_rfl
theorem G_ok (N:Nat):GamOK Tryz.prog (G N):=gam_ok (trivial)
theorem snd (N:Nat):Sound Tryz.prog E 20 (sp N):=
  Mir.sound T_OK (G_ok N) mixed Tryz.func20 (c:=code) (by kernel_rfl) (by kernel_rfl) (sp N) (Nat.le_of_ble_eq_true (by kernel_rfl)) live [] (by
    rintro ⟨a0,_⟩ r h
    exact ⟨N,2,((run N _ a0).trans rfl).trans h⟩)
end spec_l00Source
namespace spec_l00Src_size_
noncomputable def code:Code:=Tryz.f44.body.getD .skip
abbrev live:Live:=[]
noncomputable def G (N:Nat):Ctx E:=gam []
theorem run (N:Nat) (o0:Orc E R) (a0:l00Src) (a1:Int):runF T (G N) live [] Tryz.f44 code (sp N) o0 (a0,a1,())=m N a0 a1:=by kernel_rfl
theorem G_ok (N:Nat):GamOK Tryz.prog (G N):=gam_ok (trivial)
theorem snd (N:Nat):Sound Tryz.prog E 44 (sp N):=
  Mir.sound T_OK (G_ok N) mixed Tryz.func44 (c:=code) (by kernel_rfl) (by kernel_rfl) (sp N) (Nat.le_of_ble_eq_true (by kernel_rfl)) live [] (by
    rintro ⟨a0,a1,_⟩ r h
    exact ⟨N,2,((run N _ a0 a1).trans rfl).trans h⟩)
end spec_l00Src_size_
namespace spec_l00Src_byte_
noncomputable def code:Code:=Tryz.f84.body.getD .skip
abbrev live:Live:=[]
noncomputable def G (N:Nat):Ctx E:=gam []
theorem run (N:Nat) (o0:Orc E R) (a0:l00Src):runF T (G N) live [] Tryz.f84 code (sp N) o0 (a0,())=m N a0:=by kernel_rfl
theorem G_ok (N:Nat):GamOK Tryz.prog (G N):=gam_ok (trivial)
theorem snd (N:Nat):Sound Tryz.prog E 84 (sp N):=
  Mir.sound T_OK (G_ok N) mixed Tryz.func84 (c:=code) (by kernel_rfl) (by kernel_rfl) (sp N) (Nat.le_of_ble_eq_true (by kernel_rfl)) live [] (by
    rintro ⟨a0,_⟩ r h
    exact ⟨N,2,((run N _ a0).trans rfl).trans h⟩)
end spec_l00Src_byte_
namespace spec_l00Src_next_
noncomputable def code:Code:=Tryz.f43.body.getD .skip
abbrev live:Live:=[]
noncomputable def G (N:Nat):Ctx E:=gam [(84,[],spec_l00Src_byte_.sp N)]
theorem run (N:Nat) (o0:Orc E R) (a0:l00Src) (a1:Int):runF T (G N) live [] Tryz.f43 code (sp N) o0 (a0,a1,())=m N a0 a1:=by kernel_rfl
theorem G_ok (N:Nat):GamOK Tryz.prog (G N):=gam_ok (⟨spec_l00Src_byte_.snd N,trivial⟩)
theorem snd (N:Nat):Sound Tryz.prog E 43 (sp N):=
  Mir.sound T_OK (G_ok N) mixed Tryz.func43 (c:=code) (by kernel_rfl) (by kernel_rfl) (sp N) (Nat.le_of_ble_eq_true (by kernel_rfl)) live [] (by
    rintro ⟨a0,a1,_⟩ r h
    exact ⟨N,2,((run N _ a0 a1).trans rfl).trans h⟩)
end spec_l00Src_next_
namespace spec_l00Src_pick_
noncomputable def code:Code:=Tryz.f121.body.getD .skip
abbrev live:Live:=[]
noncomputable def G (N:Nat):Ctx E:=gam [(43,[],spec_l00Src_next_.sp N)]
theorem run (N:Nat) (o0:Orc E R) (a0:l00Src) (a1:List ByteArray):runF T (G N) live [] Tryz.f121 code (sp N) o0 (a0,a1,())=m N a0 a1:=by kernel_rfl
theorem G_ok (N:Nat):GamOK Tryz.prog (G N):=gam_ok (⟨spec_l00Src_next_.snd N,trivial⟩)
theorem snd (N:Nat):Sound Tryz.prog E 121 (sp N):=
  Mir.sound T_OK (G_ok N) mixed Tryz.func121 (c:=code) (by kernel_rfl) (by kernel_rfl) (sp N) (Nat.le_of_ble_eq_true (by kernel_rfl)) live [] (by
    rintro ⟨a0,a1,_⟩ r h
    exact ⟨N,2,((run N _ a0 a1).trans rfl).trans h⟩)
end spec_l00Src_pick_
namespace spec_l00Src_key
noncomputable def code:Code:=Tryz.f81.body.getD .skip
abbrev live:Live:=[]
noncomputable def G (N:Nat):Ctx E:=gam [(121,[],spec_l00Src_pick_.sp N)]
theorem run (N:Nat) (o0:Orc E R) (a0:l00Src):runF T (G N) live [] Tryz.f81 code (sp N) o0 (a0,())=m N a0:=by kernel_rfl
theorem G_ok (N:Nat):GamOK Tryz.prog (G N):=gam_ok (⟨spec_l00Src_pick_.snd N,trivial⟩)
theorem snd (N:Nat):Sound Tryz.prog E 81 (sp N):=
  Mir.sound T_OK (G_ok N) mixed Tryz.func81 (c:=code) (by kernel_rfl) (by kernel_rfl) (sp N) (Nat.le_of_ble_eq_true (by kernel_rfl)) live [] (by
    rintro ⟨a0,_⟩ r h
    exact ⟨N,2,((run N _ a0).trans rfl).trans h⟩)
end spec_l00Src_key
namespace spec_l00Src_datum
noncomputable def code:Code:=Tryz.f82.body.getD .skip
abbrev live:Live:=[]
noncomputable def G (N:Nat):Ctx E:=gam [(121,[],spec_l00Src_pick_.sp N)]
theorem run (N:Nat) (o0:Orc E R) (a0:l00Src):runF T (G N) live [] Tryz.f82 code (sp N) o0 (a0,())=m N a0:=by kernel_rfl
theorem G_ok (N:Nat):GamOK Tryz.prog (G N):=gam_ok (⟨spec_l00Src_pick_.snd N,trivial⟩)
theorem snd (N:Nat):Sound Tryz.prog E 82 (sp N):=
  Mir.sound T_OK (G_ok N) mixed Tryz.func82 (c:=code) (by kernel_rfl) (by kernel_rfl) (sp N) (Nat.le_of_ble_eq_true (by kernel_rfl)) live [] (by
    rintro ⟨a0,_⟩ r h
    exact ⟨N,2,((run N _ a0).trans rfl).trans h⟩)
end spec_l00Src_datum
namespace spec_l00Src_chance
noncomputable def code:Code:=Tryz.f83.body.getD .skip
abbrev live:Live:=[]
noncomputable def G (N:Nat):Ctx E:=gam [(43,[],spec_l00Src_next_.sp N)]
theorem run (N:Nat) (o0:Orc E R) (a0:l00Src) (a1:Int):runF T (G N) live [] Tryz.f83 code (sp N) o0 (a0,a1,())=m N a0 a1:=by kernel_rfl
theorem G_ok (N:Nat):GamOK Tryz.prog (G N):=gam_ok (⟨spec_l00Src_next_.snd N,trivial⟩)
theorem snd (N:Nat):Sound Tryz.prog E 83 (sp N):=
  Mir.sound T_OK (G_ok N) mixed Tryz.func83 (c:=code) (by kernel_rfl) (by kernel_rfl) (sp N) (Nat.le_of_ble_eq_true (by kernel_rfl)) live [] (by
    rintro ⟨a0,a1,_⟩ r h
    exact ⟨N,2,((run N _ a0 a1).trans rfl).trans h⟩)
end spec_l00Src_chance
namespace spec_l00Src_command
noncomputable def code:Code:=Tryz.f42.body.getD .skip
abbrev live:Live:=[]
noncomputable def G (N:Nat):Ctx E:=gam [(43,[],spec_l00Src_next_.sp N),(81,[],spec_l00Src_key.sp N),(82,[],spec_l00Src_datum.sp N),(83,[],spec_l00Src_chance.sp N)]
theorem run (N:Nat) (o0:Orc E R) (a0:l00Src):runF T (G N) live [] Tryz.f42 code (sp N) o0 (a0,())=m N a0:=by kernel_rfl
theorem G_ok (N:Nat):GamOK Tryz.prog (G N):=gam_ok (⟨spec_l00Src_next_.snd N,spec_l00Src_key.snd N,spec_l00Src_datum.snd N,spec_l00Src_chance.snd N,trivial⟩)
theorem snd (N:Nat):Sound Tryz.prog E 42 (sp N):=
  Mir.sound T_OK (G_ok N) mixed Tryz.func42 (c:=code) (by kernel_rfl) (by kernel_rfl) (sp N) (Nat.le_of_ble_eq_true (by kernel_rfl)) live [] (by
    rintro ⟨a0,_⟩ r h
    exact ⟨N,2,((run N _ a0).trans rfl).trans h⟩)
end spec_l00Src_command
namespace spec_l00Src_commands
noncomputable def code:Code:=Tryz.f21.body.getD .skip
abbrev live:Live:=[(3,[0,3,4])]
noncomputable def G (N:Nat):Ctx E:=gam [(44,[],spec_l00Src_size_.sp N),(43,[],spec_l00Src_next_.sp N),(42,[],spec_l00Src_command.sp N)]
noncomputable def loop3:Code:=codeAt code [1,1,0,1,0]
noncomputable def body3:Code:=codeAt loop3 [0]
noncomputable def K3 (N:Nat) (o0:Orc E R):KT E R:=kAt T (G N) live [] o0 code [1,1,0,1,0] (kfin T Tryz.f21 (sp N))
noncomputable def St3 (a0:l00Src):(Int×(List Int)×Int×Int×(List Command))→St E
  | (v0,v1,v2,v3,v4)=>{ ρ:=[(0,.c (.at (.ptr 0 0))),(3,.c (.at (.own 1))),(4,.c (.at (.int .i64 v0)))],H:=[(0,.box 84 [.ro 5 (.int .u8) v1,.int .i64 v2,.int .i64 v3]),(1,.row 31 (.st 31) v4 false)],nx:=2,n:=28,pin:=[0] }
theorem run (N:Nat) (o0:Orc E R) (a0:l00Src):runF T (G N) live [] Tryz.f21 code (sp N) o0 (a0,())=m0 N a0 (fun a=>o0 loop3 (K3 N o0) (St3 a0 a)):=by kernel_rfl
theorem body3_0 (N:Nat) (o0:Orc E R) (o1:Orc E R) (q1:St E→Option R) (a0:l00Src) (v0:Int) (v1:List Int) (v2:Int) (v3:Int) (v4:List Command):runA T (G N) live [] o1 body3 (St3 a0 (v0,v1,v2,v3,v4)) (kloop [0,3,4] q1 (K3 N o0))=step3 N a0 (fun a=>q1 (St3 a0 a)) (v0,v1,v2,v3,v4):=by kernel_rfl
theorem lp3_eq (N:Nat) (a0:l00Src) (a:Int×(List Int)×Int×Int×(List Command)):(orc T (G N) live [] N 2) loop3 (K3 N (orc T (G N) live [] N 2)) (St3 a0 a)=lp3 N a0 a:=
  (orc_loop (b:=body3) (live:=[0,3,4]) (by kernel_rfl)).trans (iter_eq (St3 a0) _ _ (fun q1 a=>by
    have hc:=congrFun (congrFun (rfl:(step3 N a0)=(step3 N a0)) (fun a=>q1 (St3 a0 a))) a
    obtain ⟨u0,u1,u2,u3,u4⟩:=a
    exact (body3_0 N (orc T (G N) live [] N 2) (orc T (G N) live [] N 1) q1 a0 u0 u1 u2 u3 u4).trans hc) N a)
theorem G_ok (N:Nat):GamOK Tryz.prog (G N):=gam_ok (⟨spec_l00Src_size_.snd N,spec_l00Src_next_.snd N,spec_l00Src_command.snd N,trivial⟩)
theorem snd (N:Nat):Sound Tryz.prog E 21 (sp N):=
  Mir.sound T_OK (G_ok N) mixed Tryz.func21 (c:=code) (by kernel_rfl) (by kernel_rfl) (sp N) (Nat.le_of_ble_eq_true (by kernel_rfl)) live [] (by
    rintro ⟨a0,_⟩ r h
    exact ⟨N,2,((run N _ a0).trans (congrArg (m0 N a0) (funext fun a=>lp3_eq N a0 a))).trans h⟩)
end spec_l00Src_commands
namespace spec_CommandsOf
noncomputable def code:Code:=Tryz.f6.body.getD .skip
abbrev live:Live:=[]
noncomputable def G (N:Nat):Ctx E:=gam [(20,[],spec_l00Source.sp N),(21,[],spec_l00Src_commands.sp N)]
theorem run (N:Nat) (o0:Orc E R) (a0:List Int):runF T (G N) live [] Tryz.f6 code (sp N) o0 (a0,())=m N a0:=by kernel_rfl
theorem G_ok (N:Nat):GamOK Tryz.prog (G N):=gam_ok (⟨spec_l00Source.snd N,spec_l00Src_commands.snd N,trivial⟩)
theorem snd (N:Nat):Sound Tryz.prog E 6 (sp N):=
  Mir.sound T_OK (G_ok N) mixed Tryz.func6 (c:=code) (by kernel_rfl) (by kernel_rfl) (sp N) (Nat.le_of_ble_eq_true (by kernel_rfl)) live [] (by
    rintro ⟨a0,_⟩ r h
    exact ⟨N,2,((run N _ a0).trans rfl).trans h⟩)
end spec_CommandsOf
namespace impl_isList_impl_Command
noncomputable def code:Code:=Tryz.f45.body.getD .skip
abbrev live:Live:=[]
noncomputable def G (N:Nat):Ctx E:=gam []
theorem run (N:Nat) (o0:Orc E R) (a0:List Command):runF T (G N) live [] Tryz.f45 code (sp N) o0 (a0,())=m N a0:=by kernel_rfl
theorem G_ok (N:Nat):GamOK Tryz.prog (G N):=gam_ok (trivial)
theorem snd (N:Nat):Sound Tryz.prog E 45 (sp N):=
  Mir.sound T_OK (G_ok N) mixed Tryz.func45 (c:=code) (by kernel_rfl) (by kernel_rfl) (sp N) (Nat.le_of_ble_eq_true (by kernel_rfl)) live [] (by
    rintro ⟨a0,_⟩ r h
    exact ⟨N,2,((run N _ a0).trans rfl).trans h⟩)
end impl_isList_impl_Command
namespace impl_within
noncomputable def code:Code:=Tryz.f62.body.getD .skip
abbrev live:Live:=[]
noncomputable def G (N:Nat):Ctx E:=gam []
theorem run (N:Nat) (o0:Orc E R) (a0:Int) (a1:Int) (a2:Int):runF T (G N) live [] Tryz.f62 code (sp N) o0 (a0,a1,a2,())=m N a0 a1 a2:=by kernel_rfl
theorem G_ok (N:Nat):GamOK Tryz.prog (G N):=gam_ok (trivial)
theorem snd (N:Nat):Sound Tryz.prog E 62 (sp N):=
  Mir.sound T_OK (G_ok N) mixed Tryz.func62 (c:=code) (by kernel_rfl) (by kernel_rfl) (sp N) (Nat.le_of_ble_eq_true (by kernel_rfl)) live [] (by
    rintro ⟨a0,a1,a2,_⟩ r h
    exact ⟨N,2,((run N _ a0 a1 a2).trans rfl).trans h⟩)
end impl_within
namespace impl_isShort
noncomputable def code:Code:=Tryz.f33.body.getD .skip
abbrev live:Live:=[]
noncomputable def G (N:Nat):Ctx E:=gam [(62,[],impl_within.sp N)]
theorem run (N:Nat) (o0:Orc E R) (a0:Int):runF T (G N) live [] Tryz.f33 code (sp N) o0 (a0,())=m N a0:=by kernel_rfl
theorem G_ok (N:Nat):GamOK Tryz.prog (G N):=gam_ok (⟨impl_within.snd N,trivial⟩)
theorem snd (N:Nat):Sound Tryz.prog E 33 (sp N):=
  Mir.sound T_OK (G_ok N) mixed Tryz.func33 (c:=code) (by kernel_rfl) (by kernel_rfl) (sp N) (Nat.le_of_ble_eq_true (by kernel_rfl)) live [] (by
    rintro ⟨a0,_⟩ r h
    exact ⟨N,2,((run N _ a0).trans rfl).trans h⟩)
end impl_isShort
namespace impl_isValue
noncomputable def code:Code:=Tryz.f48.body.getD .skip
abbrev live:Live:=[]
noncomputable def G (N:Nat):Ctx E:=gam []
theorem run (N:Nat) (o0:Orc E R) (a0:ByteArray):runF T (G N) live [] Tryz.f48 code (sp N) o0 (a0,())=m N a0:=by kernel_rfl
theorem G_ok (N:Nat):GamOK Tryz.prog (G N):=gam_ok (trivial)
theorem snd (N:Nat):Sound Tryz.prog E 48 (sp N):=
  Mir.sound T_OK (G_ok N) mixed Tryz.func48 (c:=code) (by kernel_rfl) (by kernel_rfl) (sp N) (Nat.le_of_ble_eq_true (by kernel_rfl)) live [] (by
    rintro ⟨a0,_⟩ r h
    exact ⟨N,2,((run N _ a0).trans rfl).trans h⟩)
end impl_isValue
namespace impl_isKey
noncomputable def code:Code:=Tryz.f49.body.getD .skip
abbrev live:Live:=[]
noncomputable def G (N:Nat):Ctx E:=gam [(62,[],impl_within.sp N)]
theorem run (N:Nat) (o0:Orc E R) (a0:ByteArray):runF T (G N) live [] Tryz.f49 code (sp N) o0 (a0,())=m N a0:=by kernel_rfl
theorem G_ok (N:Nat):GamOK Tryz.prog (G N):=gam_ok (⟨impl_within.snd N,trivial⟩)
theorem snd (N:Nat):Sound Tryz.prog E 49 (sp N):=
  Mir.sound T_OK (G_ok N) mixed Tryz.func49 (c:=code) (by kernel_rfl) (by kernel_rfl) (sp N) (Nat.le_of_ble_eq_true (by kernel_rfl)) live [] (by
    rintro ⟨a0,_⟩ r h
    exact ⟨N,2,((run N _ a0).trans rfl).trans h⟩)
end impl_isKey
namespace impl_CommandOK
noncomputable def code:Code:=Tryz.f23.body.getD .skip
abbrev live:Live:=[]
noncomputable def G (N:Nat):Ctx E:=gam [(33,[],impl_isShort.sp N),(48,[],impl_isValue.sp N),(49,[],impl_isKey.sp N)]
theorem run (N:Nat) (o0:Orc E R) (a0:Command):runF T (G N) live [] Tryz.f23 code (sp N) o0 (a0,())=m N a0:=by kernel_rfl
theorem G_ok (N:Nat):GamOK Tryz.prog (G N):=gam_ok (⟨impl_isShort.snd N,impl_isValue.snd N,impl_isKey.snd N,trivial⟩)
theorem snd (N:Nat):Sound Tryz.prog E 23 (sp N):=
  Mir.sound T_OK (G_ok N) mixed Tryz.func23 (c:=code) (by kernel_rfl) (by kernel_rfl) (sp N) (Nat.le_of_ble_eq_true (by kernel_rfl)) live [] (by
    rintro ⟨a0,_⟩ r h
    exact ⟨N,2,((run N _ a0).trans rfl).trans h⟩)
end impl_CommandOK
namespace impl_commandsCode_1
noncomputable def code:Code:=Tryz.f47.body.getD .skip
abbrev live:Live:=[]
noncomputable def G (N:Nat):Ctx E:=gam [(23,[],impl_CommandOK.sp N)]
theorem run (N:Nat) (o0:Orc E R) (a0:Command):runF T (G N) live [] Tryz.f47 code (sp N) o0 (a0,())=m N a0:=by kernel_rfl
theorem G_ok (N:Nat):GamOK Tryz.prog (G N):=gam_ok (⟨impl_CommandOK.snd N,trivial⟩)
theorem snd (N:Nat):Sound Tryz.prog E 47 (sp N):=
  Mir.sound T_OK (G_ok N) mixed Tryz.func47 (c:=code) (by kernel_rfl) (by kernel_rfl) (sp N) (Nat.le_of_ble_eq_true (by kernel_rfl)) live [] (by
    rintro ⟨a0,_⟩ r h
    exact ⟨N,2,((run N _ a0).trans rfl).trans h⟩)
end impl_commandsCode_1
namespace slices_IndexFunc_impl_Command_impl_Command__impl_commandsCode_1
noncomputable def code:Code:=Tryz.f85.body.getD .skip
abbrev live:Live:=[(2,[0,1,7,8])]
noncomputable def G (N:Nat):Ctx E:=gam [(47,[],impl_commandsCode_1.sp N)]
noncomputable def loop2:Code:=codeAt code [1,0,1,0]
noncomputable def body2:Code:=codeAt loop2 [0]
noncomputable def K2 (N:Nat) (o0:Orc E R):KT E R:=kAt T (G N) live [] o0 code [1,0,1,0] (kfin T Tryz.f85 (sp N))
noncomputable def St2 (a0:List Command):(Int×Int)→St E
  | (v1,v2)=>{ ρ:=[(0,.c (.at (.ro 31 (.st 31) a0))),(1,.clo 47 []),(7,.c (.at (.int .i64 v1))),(8,.c (.at (.int .i64 v2)))],H:=[],nx:=0,n:=19,pin:=[] }
theorem run (N:Nat) (o0:Orc E R) (a0:List Command):runF T (G N) live [] Tryz.f85 code (sp N) o0 (a0,(),())=m0 N a0 (fun a=>o0 loop2 (K2 N o0) (St2 a0 a)):=by kernel_rfl
theorem body2_0 (N:Nat) (o0:Orc E R) (o1:Orc E R) (q1:St E→Option R) (a0:List Command) (v1:Int) (v2:Int):runA T (G N) live [] o1 body2 (St2 a0 (v1,v2)) (kloop [0,1,7,8] q1 (K2 N o0))=step2 N a0 (fun a=>q1 (St2 a0 a)) (v1,v2):=by kernel_rfl
theorem lp2_eq (N:Nat) (a0:List Command) (a:Int×Int):(orc T (G N) live [] N 2) loop2 (K2 N (orc T (G N) live [] N 2)) (St2 a0 a)=lp2 N a0 a:=
  (orc_loop (b:=body2) (live:=[0,1,7,8]) (by kernel_rfl)).trans (iter_eq (St2 a0) _ _ (fun q1 a=>by
    have hc:=congrFun (congrFun (rfl:(step2 N a0)=(step2 N a0)) (fun a=>q1 (St2 a0 a))) a
    obtain ⟨u0,u1⟩:=a
    exact (body2_0 N (orc T (G N) live [] N 2) (orc T (G N) live [] N 1) q1 a0 u0 u1).trans hc) N a)
theorem G_ok (N:Nat):GamOK Tryz.prog (G N):=gam_ok (⟨impl_commandsCode_1.snd N,trivial⟩)
theorem snd (N:Nat):Sound Tryz.prog E 85 (sp N):=
  Mir.sound T_OK (G_ok N) mixed Tryz.func85 (c:=code) (by kernel_rfl) (by kernel_rfl) (sp N) (Nat.le_of_ble_eq_true (by kernel_rfl)) live [] (by
    rintro ⟨a0,_,_⟩ r h
    exact ⟨N,2,((run N _ a0).trans (congrArg (m0 N a0) (funext fun a=>lp2_eq N a0 a))).trans h⟩)
end slices_IndexFunc_impl_Command_impl_Command__impl_commandsCode_1
namespace slices_ContainsFunc_impl_Command_impl_Command__impl_commandsCode_1
noncomputable def code:Code:=Tryz.f46.body.getD .skip
abbrev live:Live:=[]
noncomputable def G (N:Nat):Ctx E:=gam [(85,[47],slices_IndexFunc_impl_Command_impl_Command__impl_commandsCode_1.sp N)]
theorem run (N:Nat) (o0:Orc E R) (a0:List Command):runF T (G N) live [] Tryz.f46 code (sp N) o0 (a0,(),())=m N a0:=by kernel_rfl
theorem G_ok (N:Nat):GamOK Tryz.prog (G N):=gam_ok (⟨slices_IndexFunc_impl_Command_impl_Command__impl_commandsCode_1.snd N,trivial⟩)
theorem snd (N:Nat):Sound Tryz.prog E 46 (sp N):=
  Mir.sound T_OK (G_ok N) mixed Tryz.func46 (c:=code) (by kernel_rfl) (by kernel_rfl) (sp N) (Nat.le_of_ble_eq_true (by kernel_rfl)) live [] (by
    rintro ⟨a0,_,_⟩ r h
    exact ⟨N,2,((run N _ a0).trans rfl).trans h⟩)
end slices_ContainsFunc_impl_Command_impl_Command__impl_commandsCode_1
namespace impl_commandsCode
noncomputable def code:Code:=Tryz.f22.body.getD .skip
abbrev live:Live:=[]
noncomputable def G (N:Nat):Ctx E:=gam [(45,[],impl_isList_impl_Command.sp N),(46,[47],slices_ContainsFunc_impl_Command_impl_Command__impl_commandsCode_1.sp N)]
theorem run (N:Nat) (o0:Orc E R) (a0:List Command):runF T (G N) live [] Tryz.f22 code (sp N) o0 (a0,())=m N a0:=by kernel_rfl
theorem G_ok (N:Nat):GamOK Tryz.prog (G N):=gam_ok (⟨impl_isList_impl_Command.snd N,slices_ContainsFunc_impl_Command_impl_Command__impl_commandsCode_1.snd N,trivial⟩)
theorem snd (N:Nat):Sound Tryz.prog E 22 (sp N):=
  Mir.sound T_OK (G_ok N) mixed Tryz.func22 (c:=code) (by kernel_rfl) (by kernel_rfl) (sp N) (Nat.le_of_ble_eq_true (by kernel_rfl)) live [] (by
    rintro ⟨a0,_⟩ r h
    exact ⟨N,2,((run N _ a0).trans rfl).trans h⟩)
end impl_commandsCode
namespace cmp_isNaN_int
noncomputable def code:Code:=Tryz.f136.body.getD .skip
abbrev live:Live:=[]
noncomputable def G (N:Nat):Ctx E:=gam []
theorem run (N:Nat) (o0:Orc E R) (a0:Int):runF T (G N) live [] Tryz.f136 code (sp N) o0 (a0,())=m N a0:=by kernel_rfl
theorem G_ok (N:Nat):GamOK Tryz.prog (G N):=gam_ok (trivial)
theorem snd (N:Nat):Sound Tryz.prog E 136 (sp N):=
  Mir.sound T_OK (G_ok N) mixed Tryz.func136 (c:=code) (by kernel_rfl) (by kernel_rfl) (sp N) (Nat.le_of_ble_eq_true (by kernel_rfl)) live [] (by
    rintro ⟨a0,_⟩ r h
    exact ⟨N,2,((run N _ a0).trans rfl).trans h⟩)
end cmp_isNaN_int
namespace cmp_Compare_int
noncomputable def code:Code:=Tryz.f100.body.getD .skip
abbrev live:Live:=[]
noncomputable def G (N:Nat):Ctx E:=gam [(136,[],cmp_isNaN_int.sp N)]
theorem run (N:Nat) (o0:Orc E R) (a0:Int) (a1:Int):runF T (G N) live [] Tryz.f100 code (sp N) o0 (a0,a1,())=m N a0 a1:=by kernel_rfl
theorem G_ok (N:Nat):GamOK Tryz.prog (G N):=gam_ok (⟨cmp_isNaN_int.snd N,trivial⟩)
theorem snd (N:Nat):Sound Tryz.prog E 100 (sp N):=
  Mir.sound T_OK (G_ok N) mixed Tryz.func100 (c:=code) (by kernel_rfl) (by kernel_rfl) (sp N) (Nat.le_of_ble_eq_true (by kernel_rfl)) live [] (by
    rintro ⟨a0,a1,_⟩ r h
    exact ⟨N,2,((run N _ a0 a1).trans rfl).trans h⟩)
end cmp_Compare_int
namespace impl_books_sessionAt_1
noncomputable def code:Code:=Tryz.f99.body.getD .skip
abbrev live:Live:=[]
noncomputable def G (N:Nat):Ctx E:=gam [(100,[],cmp_Compare_int.sp N)]
theorem run (N:Nat) (o0:Orc E R) (a0:Session) (a1:Int):runF T (G N) live [] Tryz.f99 code (sp N) o0 (a0,a1,())=m N a0 a1:=by kernel_rfl
theorem G_ok (N:Nat):GamOK Tryz.prog (G N):=gam_ok (⟨cmp_Compare_int.snd N,trivial⟩)
theorem snd (N:Nat):Sound Tryz.prog E 99 (sp N):=
  Mir.sound T_OK (G_ok N) mixed Tryz.func99 (c:=code) (by kernel_rfl) (by kernel_rfl) (sp N) (Nat.le_of_ble_eq_true (by kernel_rfl)) live [] (by
    rintro ⟨a0,a1,_⟩ r h
    exact ⟨N,2,((run N _ a0 a1).trans rfl).trans h⟩)
end impl_books_sessionAt_1
namespace slices_BinarySearchFunc_impl_Session_impl_Session_int__impl_books_sessionAt_1
noncomputable def code:Code:=Tryz.f98.body.getD .skip
abbrev live:Live:=[(3,[0,1,2,8,9,10])]
noncomputable def G (N:Nat):Ctx E:=gam [(99,[],impl_books_sessionAt_1.sp N)]
noncomputable def loop3:Code:=codeAt code [1,1,1,0,0]
noncomputable def body3:Code:=codeAt loop3 [0]
noncomputable def K3 (N:Nat) (o0:Orc E R):KT E R:=kAt T (G N) live [] o0 code [1,1,1,0,0] (kfin T Tryz.f98 (sp N))
noncomputable def St3 (a0:List Session) (a1:Int):(Int×Int×Int)→St E
  | (v2,v3,v4)=>{ ρ:=[(0,.c (.at (.ro 72 (.st 72) a0))),(1,.c (.at (.int .i64 a1))),(2,.clo 99 []),(8,.c (.at (.int .i64 v2))),(9,.c (.at (.int .i64 v3))),(10,.c (.at (.int .i64 v4)))],H:=[],nx:=0,n:=49,pin:=[] }
theorem run (N:Nat) (o0:Orc E R) (a0:List Session) (a1:Int):runF T (G N) live [] Tryz.f98 code (sp N) o0 (a0,a1,(),())=m0 N a0 a1 (fun a=>o0 loop3 (K3 N o0) (St3 a0 a1 a)):=by kernel_rfl
theorem body3_0 (N:Nat) (o0:Orc E R) (o1:Orc E R) (q1:St E→Option R) (a0:List Session) (a1:Int) (v2:Int) (v3:Int) (v4:Int):runA T (G N) live [] o1 body3 (St3 a0 a1 (v2,v3,v4)) (kloop [0,1,2,8,9,10] q1 (K3 N o0))=step3 N a0 a1 (fun a=>q1 (St3 a0 a1 a)) (v2,v3,v4):=by kernel_rfl
theorem lp3_eq (N:Nat) (a0:List Session) (a1:Int) (a:Int×Int×Int):(orc T (G N) live [] N 2) loop3 (K3 N (orc T (G N) live [] N 2)) (St3 a0 a1 a)=lp3 N a0 a1 a:=
  (orc_loop (b:=body3) (live:=[0,1,2,8,9,10]) (by kernel_rfl)).trans (iter_eq (St3 a0 a1) _ _ (fun q1 a=>by
    have hc:=congrFun (congrFun (rfl:(step3 N a0 a1)=(step3 N a0 a1)) (fun a=>q1 (St3 a0 a1 a))) a
    obtain ⟨u0,u1,u2⟩:=a
    exact (body3_0 N (orc T (G N) live [] N 2) (orc T (G N) live [] N 1) q1 a0 a1 u0 u1 u2).trans hc) N a)
theorem G_ok (N:Nat):GamOK Tryz.prog (G N):=gam_ok (⟨impl_books_sessionAt_1.snd N,trivial⟩)
theorem snd (N:Nat):Sound Tryz.prog E 98 (sp N):=
  Mir.sound T_OK (G_ok N) mixed Tryz.func98 (c:=code) (by kernel_rfl) (by kernel_rfl) (sp N) (Nat.le_of_ble_eq_true (by kernel_rfl)) live [] (by
    rintro ⟨a0,a1,_,_⟩ r h
    exact ⟨N,2,((run N _ a0 a1).trans (congrArg (m0 N a0 a1) (funext fun a=>lp3_eq N a0 a1 a))).trans h⟩)
end slices_BinarySearchFunc_impl_Session_impl_Session_int__impl_books_sessionAt_1
namespace impl_books_sessionAt_
noncomputable def code:Code:=Tryz.f67.body.getD .skip
abbrev live:Live:=[]
noncomputable def G (N:Nat):Ctx E:=gam [(98,[99],slices_BinarySearchFunc_impl_Session_impl_Session_int__impl_books_sessionAt_1.sp N)]
theorem run (N:Nat) (o0:Orc E R) (a0:books) (a1:Int):runF T (G N) live [] Tryz.f67 code (sp N) o0 (a0,a1,())=m N a0 a1:=by kernel_rfl
theorem G_ok (N:Nat):GamOK Tryz.prog (G N):=gam_ok (⟨slices_BinarySearchFunc_impl_Session_impl_Session_int__impl_books_sessionAt_1.snd N,trivial⟩)
theorem snd (N:Nat):Sound Tryz.prog E 67 (sp N):=
  Mir.sound T_OK (G_ok N) mixed Tryz.func67 (c:=code) (by kernel_rfl) (by kernel_rfl) (sp N) (Nat.le_of_ble_eq_true (by kernel_rfl)) live [] (by
    rintro ⟨a0,a1,_⟩ r h
    exact ⟨N,2,((run N _ a0 a1).trans rfl).trans h⟩)
end impl_books_sessionAt_
namespace slices_Insert_impl_Session
theorem snd (N:Nat):Sound Tryz.prog E 96 (sp N):=
  insert_sound (E:=E) (ty:=(.st 72)) rfl (fun args W=>run_callFunc_go Tryz.func96 (c:=Tryz.f96.body.getD .skip) (by kernel_rfl) (by kernel_rfl) args W) Tryz.underlying37 (i:=Tryz.t72) (by kernel_rfl) (z:=Tryz.t72.zero.getD undef) (by kernel_rfl) (by kernel_rfl) (by kernel_rfl) (Nat.le_of_ble_eq_true (by kernel_rfl)) Go.Proofs.InsW96.ov Go.Proofs.InsW96.at_end Go.Proofs.InsW96.grow (by kernel_rfl) Go.Proofs.InsW96.shift
end slices_Insert_impl_Session
namespace impl_books_open
noncomputable def code:Code:=Tryz.f65.body.getD .skip
abbrev live:Live:=[]
noncomputable def G (N:Nat):Ctx E:=gam [(67,[],impl_books_sessionAt_.sp N),(96,[],slices_Insert_impl_Session.sp N)]
theorem run (N:Nat) (o0:Orc E R) (a0:books) (a1:Int):runF T (G N) live [] Tryz.f65 code (sp N) o0 (a0,a1,())=m N a0 a1:=by kernel_rfl
theorem G_ok (N:Nat):GamOK Tryz.prog (G N):=gam_ok (⟨impl_books_sessionAt_.snd N,slices_Insert_impl_Session.snd N,trivial⟩)
theorem snd (N:Nat):Sound Tryz.prog E 65 (sp N):=
  Mir.sound T_OK (G_ok N) mixed Tryz.func65 (c:=code) (by kernel_rfl) (by kernel_rfl) (sp N) (Nat.le_of_ble_eq_true (by kernel_rfl)) live [] (by
    rintro ⟨a0,a1,_⟩ r h
    exact ⟨N,2,((run N _ a0 a1).trans rfl).trans h⟩)
end impl_books_open
namespace slices_Delete_impl_Session
theorem snd (N:Nat):Sound Tryz.prog E 97 (sp N):=
  delete_sound (E:=E) (ty:=(.st 72)) (fun args W=>run_callFunc_go Tryz.func97 (c:=Tryz.f97.body.getD .skip) (by kernel_rfl) (by kernel_rfl) args W) Tryz.underlying37 (i:=Tryz.t72) (by kernel_rfl) (z:=Tryz.t72.zero.getD undef) (by kernel_rfl) (by kernel_rfl) (by kernel_rfl) (fun v hv=>List.all_eq_true.1 (show (Tryz.t72.zero.getD undef).cells.toList.all Value.oneCell'=true by kernel_rfl) v hv) Go.Proofs.DelW97.del
end slices_Delete_impl_Session
namespace impl_books_shut
noncomputable def code:Code:=Tryz.f66.body.getD .skip
abbrev live:Live:=[]
noncomputable def G (N:Nat):Ctx E:=gam [(67,[],impl_books_sessionAt_.sp N),(97,[],slices_Delete_impl_Session.sp N)]
theorem run (N:Nat) (o0:Orc E R) (a0:books) (a1:Int):runF T (G N) live [] Tryz.f66 code (sp N) o0 (a0,a1,())=m N a0 a1:=by kernel_rfl
theorem G_ok (N:Nat):GamOK Tryz.prog (G N):=gam_ok (⟨impl_books_sessionAt_.snd N,slices_Delete_impl_Session.snd N,trivial⟩)
theorem snd (N:Nat):Sound Tryz.prog E 66 (sp N):=
  Mir.sound T_OK (G_ok N) mixed Tryz.func66 (c:=code) (by kernel_rfl) (by kernel_rfl) (sp N) (Nat.le_of_ble_eq_true (by kernel_rfl)) live [] (by
    rintro ⟨a0,a1,_⟩ r h
    exact ⟨N,2,((run N _ a0 a1).trans rfl).trans h⟩)
end impl_books_shut
namespace strings_Repeat
theorem repeatL_eq (l:List UInt8):∀n,Go.Lib.repeatL l n=(List.replicate n l).flatten
  | 0=>rfl
  | n+1=>by rw [List.replicate_succ,List.flatten_cons,← repeatL_eq l n];rfl
theorem str_of {W:World} {F:Nat→Prop} {s:ByteArray} {v:Value} (h:RoV E W F .str s v):v = .string s:=by
  obtain ⟨d,h⟩:=h;cases d<;>exact h
theorem int_of {W:World} {F:Nat→Prop} {k:IntKind} {n:Int} {v:Value} (h:RoV E W F (.int k) n v):v = .int k n:=by
  obtain ⟨d,h⟩:=h;cases d<;>exact h
theorem snd (N:Nat):Sound Tryz.prog E 109 (sp N):=by
  refine ⟨fun args W=>run_callFunc_go Tryz.func109 (c:=Tryz.f109.body.getD .skip) (by kernel_rfl) (by kernel_rfl) args W,?_⟩
  rintro W F ⟨a0,a1,_⟩ r args fp hfn ⟨v,vs,f1,f2,rfl,rfl,⟨h0,rfl⟩,⟨w,ws,g1,g2,rfl,rfl,⟨h1,rfl⟩,⟨rfl,rfl⟩⟩⟩ _ _ hF
  obtain rfl:=str_of h0
  obtain rfl:=int_of h1
  have hfn:(bif decide (0≤a1)&&decide (a1≤9223372036854775807)&&decide (a0.size * a1.toNat≤140737488355328) then some (rep a0 a1.toNat) else none)=some r:=hfn
  cases hc:decide (0≤a1)&&decide (a1≤9223372036854775807)&&decide (a0.size * a1.toNat≤140737488355328) with
  | false=>rw [hc] at hfn;cases hfn
  | true=>
    rw [hc,cond_true] at hfn
    cases hfn
    simp only [Bool.and_eq_true,decide_eq_true_eq] at hc
    obtain ⟨⟨c1,c2⟩,c3⟩:=hc
    obtain ⟨n,rfl⟩:=Int.eq_ofNat_of_zero_le c1
    have c2:(n:Int)≤9223372036854775807:=c2
    have c3:a0.size * n≤140737488355328:=c3
    have hcall:=Go.Proofs.Any.strings_Repeat Tryz.repLays Tryz.repExtra a0 n W (by omega) c3
    refine (show Calls Tryz.prog 109 #[.string a0,.int .i64 n] W _ from hcall).mono ?_
    rintro e W' ⟨rfl,hb⟩
    refine ⟨_,rfl,⟨F,[.string (rep a0 n)],[],[],?_,fun b h=>h,fun b h=>⟨.inl h,Nat.lt_of_lt_of_le (hF b h) hb.size⟩,⟨_,[],[],[],rfl,rfl,⟨rfl,rfl⟩,⟨rfl,rfl⟩⟩,⟨_,_,[],[],rfl,rfl,rfl,⟨_,_,[],[],rfl,rfl,rfl,⟨rfl,rfl⟩⟩⟩,List.nodup_nil,fun b h=>by cases h⟩,hb.os,hb.tape,hb.output,hb.size,fun b h _=>hb.block b h⟩
    rw [repeatL_eq];rfl
end strings_Repeat
namespace impl_number
noncomputable def code:Code:=Tryz.f57.body.getD .skip
abbrev live:Live:=[(3,[0,5,6])]
noncomputable def G (N:Nat):Ctx E:=gam []
noncomputable def loop3:Code:=codeAt code [1,1,0,1,0]
noncomputable def body3:Code:=codeAt loop3 [0]
noncomputable def K3 (N:Nat) (o0:Orc E R):KT E R:=kAt T (G N) live [] o0 code [1,1,0,1,0] (kfin T Tryz.f57 (sp N))
noncomputable def St3 (a0:Int) (a1:Int):(Int×Int×(List Int))→St E
  | (v0,v1,v2)=>{ ρ:=[(0,.c (.at (.int .i64 v0))),(5,.c (.at (.own 0))),(6,.c (.at (.int .i64 v1)))],H:=[(0,.row 5 (.int .u8) v2 false)],nx:=1,n:=24,pin:=[] }
theorem run (N:Nat) (o0:Orc E R) (a0:Int) (a1:Int):runF T (G N) live [] Tryz.f57 code (sp N) o0 (a0,a1,())=m0 N a0 a1 (fun a=>o0 loop3 (K3 N o0) (St3 a0 a1 a)):=by kernel_rfl
theorem body3_0 (N:Nat) (o0:Orc E R) (o1:Orc E R) (q1:St E→Option R) (a0:Int) (a1:Int) (v0:Int) (v1:Int) (v2:List Int):runA T (G N) live [] o1 body3 (St3 a0 a1 (v0,v1,v2)) (kloop [0,5,6] q1 (K3 N o0))=step3 N a0 a1 (fun a=>q1 (St3 a0 a1 a)) (v0,v1,v2):=by kernel_rfl
theorem lp3_eq (N:Nat) (a0:Int) (a1:Int) (a:Int×Int×(List Int)):(orc T (G N) live [] N 2) loop3 (K3 N (orc T (G N) live [] N 2)) (St3 a0 a1 a)=lp3 N a0 a1 a:=
  (orc_loop (b:=body3) (live:=[0,5,6]) (by kernel_rfl)).trans (iter_eq (St3 a0 a1) _ _ (fun q1 a=>by
    have hc:=congrFun (congrFun (rfl:(step3 N a0 a1)=(step3 N a0 a1)) (fun a=>q1 (St3 a0 a1 a))) a
    obtain ⟨u0,u1,u2⟩:=a
    exact (body3_0 N (orc T (G N) live [] N 2) (orc T (G N) live [] N 1) q1 a0 a1 u0 u1 u2).trans hc) N a)
theorem G_ok (N:Nat):GamOK Tryz.prog (G N):=gam_ok (trivial)
theorem snd (N:Nat):Sound Tryz.prog E 57 (sp N):=
  Mir.sound T_OK (G_ok N) mixed Tryz.func57 (c:=code) (by kernel_rfl) (by kernel_rfl) (sp N) (Nat.le_of_ble_eq_true (by kernel_rfl)) live [] (by
    rintro ⟨a0,a1,_⟩ r h
    exact ⟨N,2,((run N _ a0 a1).trans (congrArg (m0 N a0 a1) (funext fun a=>lp3_eq N a0 a1 a))).trans h⟩)
end impl_number
namespace impl_hashWords
noncomputable def code:Code:=Tryz.f110.body.getD .skip
abbrev live:Live:=[]
noncomputable def G (N:Nat):Ctx E:=gam []
theorem run (N:Nat) (o0:Orc E R):runF T (G N) live [] Tryz.f110 code (sp N) o0 ()=m N:=by kernel_rfl
theorem G_ok (N:Nat):GamOK Tryz.prog (G N):=gam_ok (trivial)
theorem snd (N:Nat):Sound Tryz.prog E 110 (sp N):=
  Mir.sound T_OK (G_ok N) mixed Tryz.func110 (c:=code) (by kernel_rfl) (by kernel_rfl) (sp N) (Nat.le_of_ble_eq_true (by kernel_rfl)) live [] (by
    rintro _ r h
    exact ⟨N,2,((run N _).trans rfl).trans h⟩)
end impl_hashWords
namespace impl_roundWords
noncomputable def code:Code:=Tryz.f111.body.getD .skip
abbrev live:Live:=[]
noncomputable def G (N:Nat):Ctx E:=gam []
theorem run (N:Nat) (o0:Orc E R):runF T (G N) live [] Tryz.f111 code (sp N) o0 ()=m N:=by kernel_rfl
theorem G_ok (N:Nat):GamOK Tryz.prog (G N):=gam_ok (trivial)
theorem snd (N:Nat):Sound Tryz.prog E 111 (sp N):=
  Mir.sound T_OK (G_ok N) mixed Tryz.func111 (c:=code) (by kernel_rfl) (by kernel_rfl) (sp N) (Nat.le_of_ble_eq_true (by kernel_rfl)) live [] (by
    rintro _ r h
    exact ⟨N,2,((run N _).trans rfl).trans h⟩)
end impl_roundWords
namespace math_bits_RotateLeft32
noncomputable def code:Code:=Tryz.f162.body.getD .skip
abbrev live:Live:=[]
noncomputable def G (N:Nat):Ctx E:=gam []
theorem run (N:Nat) (o0:Orc E R) (a0:Int) (a1:Int):runF T (G N) live [] Tryz.f162 code (sp N) o0 (a0,a1,())=m N a0 a1:=by kernel_rfl
theorem G_ok (N:Nat):GamOK Tryz.prog (G N):=gam_ok (trivial)
theorem snd (N:Nat):Sound Tryz.prog E 162 (sp N):=
  Mir.sound T_OK (G_ok N) mixed Tryz.func162 (c:=code) (by kernel_rfl) (by kernel_rfl) (sp N) (Nat.le_of_ble_eq_true (by kernel_rfl)) live [] (by
    rintro ⟨a0,a1,_⟩ r h
    exact ⟨N,2,((run N _ a0 a1).trans rfl).trans h⟩)
end math_bits_RotateLeft32
namespace impl_turned
noncomputable def code:Code:=Tryz.f149.body.getD .skip
abbrev live:Live:=[]
noncomputable def G (N:Nat):Ctx E:=gam [(162,[],math_bits_RotateLeft32.sp N)]
theorem run (N:Nat) (o0:Orc E R) (a0:Int) (a1:Int):runF T (G N) live [] Tryz.f149 code (sp N) o0 (a0,a1,())=m N a0 a1:=by kernel_rfl
theorem G_ok (N:Nat):GamOK Tryz.prog (G N):=gam_ok (⟨math_bits_RotateLeft32.snd N,trivial⟩)
theorem snd (N:Nat):Sound Tryz.prog E 149 (sp N):=
  Mir.sound T_OK (G_ok N) mixed Tryz.func149 (c:=code) (by kernel_rfl) (by kernel_rfl) (sp N) (Nat.le_of_ble_eq_true (by kernel_rfl)) live [] (by
    rintro ⟨a0,a1,_⟩ r h
    exact ⟨N,2,((run N _ a0 a1).trans rfl).trans h⟩)
end impl_turned
namespace impl_wordsOf
noncomputable def code:Code:=Tryz.f148.body.getD .skip
abbrev live:Live:=[(3,[0,2,3,10])]
noncomputable def G (N:Nat):Ctx E:=gam [(149,[],impl_turned.sp N)]
noncomputable def loop3:Code:=codeAt code [1,1,0,1,0]
noncomputable def body3:Code:=codeAt loop3 [0]
noncomputable def K3 (N:Nat) (o0:Orc E R):KT E R:=kAt T (G N) live [] o0 code [1,1,0,1,0] (kfin T Tryz.f148 (sp N))
noncomputable def St3 (a0:ByteArray):(Int×(List Int)×(List Int))→St E
  | (v1,v2,v3)=>{ ρ:=[(0,.c (.at (.str a0))),(2,.c (.at (.ptr 0 0))),(3,.c (.at (.ptr 1 0))),(10,.c (.at (.int .i64 v1)))],H:=[(0,.arr 150 .u32 64 v2),(1,.arr 150 .u32 64 v3)],nx:=2,n:=87,pin:=[] }
theorem run (N:Nat) (o0:Orc E R) (a0:ByteArray):runF T (G N) live [] Tryz.f148 code (sp N) o0 (a0,())=m0 N a0 (fun a=>o0 loop3 (K3 N o0) (St3 a0 a)):=by kernel_rfl
theorem body3_0 (N:Nat) (o0:Orc E R) (o1:Orc E R) (q1:St E→Option R) (a0:ByteArray) (v1:Int) (v2:List Int) (v3:List Int):runA T (G N) live [] o1 body3 (St3 a0 (v1,v2,v3)) (kloop [0,2,3,10] q1 (K3 N o0))=step3 N a0 (fun a=>q1 (St3 a0 a)) (v1,v2,v3):=by kernel_rfl
theorem lp3_eq (N:Nat) (a0:ByteArray) (a:Int×(List Int)×(List Int)):(orc T (G N) live [] N 2) loop3 (K3 N (orc T (G N) live [] N 2)) (St3 a0 a)=lp3 N a0 a:=
  (orc_loop (b:=body3) (live:=[0,2,3,10]) (by kernel_rfl)).trans (iter_eq (St3 a0) _ _ (fun q1 a=>by
    have hc:=congrFun (congrFun (rfl:(step3 N a0)=(step3 N a0)) (fun a=>q1 (St3 a0 a))) a
    obtain ⟨u0,u1,u2⟩:=a
    exact (body3_0 N (orc T (G N) live [] N 2) (orc T (G N) live [] N 1) q1 a0 u0 u1 u2).trans hc) N a)
theorem G_ok (N:Nat):GamOK Tryz.prog (G N):=gam_ok (⟨impl_turned.snd N,trivial⟩)
theorem snd (N:Nat):Sound Tryz.prog E 148 (sp N):=
  Mir.sound T_OK (G_ok N) mixed Tryz.func148 (c:=code) (by kernel_rfl) (by kernel_rfl) (sp N) (Nat.le_of_ble_eq_true (by kernel_rfl)) live [] (by
    rintro ⟨a0,_⟩ r h
    exact ⟨N,2,((run N _ a0).trans (congrArg (m0 N a0) (funext fun a=>lp3_eq N a0 a))).trans h⟩)
end impl_wordsOf
namespace impl_blockHash
noncomputable def code:Code:=Tryz.f112.body.getD .skip
abbrev live:Live:=[(11,[3,6,7,100]),(3,[3,4,6,7,8,22])]
noncomputable def G (N:Nat):Ctx E:=gam [(148,[],impl_wordsOf.sp N),(149,[],impl_turned.sp N)]
noncomputable def loop3:Code:=codeAt code [1,1,0,1,0]
noncomputable def body3:Code:=codeAt loop3 [0]
noncomputable def loop11:Code:=codeAt code [1,1,1,0,1,0]
noncomputable def body11:Code:=codeAt loop11 [0]
noncomputable def K3 (N:Nat) (o0:Orc E R):KT E R:=kAt T (G N) live [] o0 code [1,1,0,1,0] (kfin T Tryz.f112 (sp N))
noncomputable def St3 (a0:List Int) (a1:List Int) (a2:ByteArray):(Int×(List Int)×(List Int)×(List Int))→St E
  | (v0,v3,v4,v5)=>{ ρ:=[(3,.c (.at (.ptr 0 0))),(4,.c (.at (.ptr 1 0))),(6,.c (.at (.ptr 2 0))),(7,.c (.at (.ptr 3 0))),(8,.c (.at (.ptr 4 0))),(22,.c (.at (.int .i64 v0)))],H:=[(0,.arr 148 .u32 8 a0),(1,.arr 150 .u32 64 a1),(2,.arr 148 .u32 8 v3),(3,.arr 148 .u32 8 v4),(4,.arr 150 .u32 64 v5)],nx:=5,n:=113,pin:=[] }
noncomputable def K11 (N:Nat) (o0:Orc E R):KT E R:=kAt T (G N) live [] o0 code [1,1,1,0,1,0] (kfin T Tryz.f112 (sp N))
noncomputable def St11 (a0:List Int) (a1:List Int) (a2:ByteArray):(Int×(List Int)×(List Int))→St E
  | (v0,v2,v3)=>{ ρ:=[(3,.c (.at (.ptr 0 0))),(6,.c (.at (.ptr 1 0))),(7,.c (.at (.ptr 2 0))),(100,.c (.at (.int .i64 v0)))],H:=[(0,.arr 148 .u32 8 a0),(1,.arr 148 .u32 8 v2),(2,.arr 148 .u32 8 v3)],nx:=3,n:=113,pin:=[] }
theorem run (N:Nat) (o0:Orc E R) (a0:List Int) (a1:List Int) (a2:ByteArray):runF T (G N) live [] Tryz.f112 code (sp N) o0 (a0,a1,a2,())=m0 N a0 a1 a2 (fun a=>o0 loop3 (K3 N o0) (St3 a0 a1 a2 a)):=by kernel_rfl
theorem body3_0 (N:Nat) (o0:Orc E R) (o1:Orc E R) (q1:St E→Option R) (a0:List Int) (a1:List Int) (a2:ByteArray) (v0:Int) (v3:List Int) (v4:List Int) (v5:List Int):runA T (G N) live [] o1 body3 (St3 a0 a1 a2 (v0,v3,v4,v5)) (kloop [3,4,6,7,8,22] q1 (K3 N o0))=step3 N a0 a1 a2 (fun a=>o0 loop11 (K11 N o0) (St11 a0 a1 a2 a)) (fun a=>q1 (St3 a0 a1 a2 a)) (v0,v3,v4,v5):=by kernel_rfl
theorem body11_0 (N:Nat) (o0:Orc E R) (o1:Orc E R) (q1:St E→Option R) (a0:List Int) (a1:List Int) (a2:ByteArray) (v0:Int) (v2:List Int) (v3:List Int):runA T (G N) live [] o1 body11 (St11 a0 a1 a2 (v0,v2,v3)) (kloop [3,6,7,100] q1 (K11 N o0))=step11 N a0 a1 a2 (fun a=>q1 (St11 a0 a1 a2 a)) (v0,v2,v3):=by kernel_rfl
theorem lp11_eq (N:Nat) (a0:List Int) (a1:List Int) (a2:ByteArray) (a:Int×(List Int)×(List Int)):(orc T (G N) live [] N 2) loop11 (K11 N (orc T (G N) live [] N 2)) (St11 a0 a1 a2 a)=lp11 N a0 a1 a2 a:=
  (orc_loop (b:=body11) (live:=[3,6,7,100]) (by kernel_rfl)).trans (iter_eq (St11 a0 a1 a2) _ _ (fun q1 a=>by
    have hc:=congrFun (congrFun (rfl:(step11 N a0 a1 a2)=(step11 N a0 a1 a2)) (fun a=>q1 (St11 a0 a1 a2 a))) a
    obtain ⟨u0,u1,u2⟩:=a
    exact (body11_0 N (orc T (G N) live [] N 2) (orc T (G N) live [] N 1) q1 a0 a1 a2 u0 u1 u2).trans hc) N a)
theorem lp3_eq (N:Nat) (a0:List Int) (a1:List Int) (a2:ByteArray) (a:Int×(List Int)×(List Int)×(List Int)):(orc T (G N) live [] N 2) loop3 (K3 N (orc T (G N) live [] N 2)) (St3 a0 a1 a2 a)=lp3 N a0 a1 a2 a:=
  (orc_loop (b:=body3) (live:=[3,4,6,7,8,22]) (by kernel_rfl)).trans (iter_eq (St3 a0 a1 a2) _ _ (fun q1 a=>by
    have hc:=congrFun (congrFun (congrArg (step3 N a0 a1 a2) (funext fun a=>lp11_eq N a0 a1 a2 a)) (fun a=>q1 (St3 a0 a1 a2 a))) a
    obtain ⟨u0,u1,u2,u3⟩:=a
    exact (body3_0 N (orc T (G N) live [] N 2) (orc T (G N) live [] N 1) q1 a0 a1 a2 u0 u1 u2 u3).trans hc) N a)
theorem G_ok (N:Nat):GamOK Tryz.prog (G N):=gam_ok (⟨impl_wordsOf.snd N,impl_turned.snd N,trivial⟩)
theorem snd (N:Nat):Sound Tryz.prog E 112 (sp N):=
  Mir.sound T_OK (G_ok N) mixed Tryz.func112 (c:=code) (by kernel_rfl) (by kernel_rfl) (sp N) (Nat.le_of_ble_eq_true (by kernel_rfl)) live [] (by
    rintro ⟨a0,a1,a2,_⟩ r h
    exact ⟨N,2,((run N _ a0 a1 a2).trans (congrArg (m0 N a0 a1 a2) (funext fun a=>lp3_eq N a0 a1 a2 a))).trans h⟩)
end impl_blockHash
namespace impl_hash
noncomputable def code:Code:=Tryz.f70.body.getD .skip
abbrev live:Live:=[(9,[7,40,41]),(4,[3,4,5,6])]
noncomputable def G (N:Nat):Ctx E:=gam [(109,[],strings_Repeat.sp N),(57,[],impl_number.sp N),(110,[],impl_hashWords.sp N),(111,[],impl_roundWords.sp N),(112,[],impl_blockHash.sp N)]
noncomputable def loop4:Code:=codeAt code [1,1,1,0,1,0]
noncomputable def body4:Code:=codeAt loop4 [0]
noncomputable def loop9:Code:=codeAt code [1,1,1,1,1,0,1,0]
noncomputable def body9:Code:=codeAt loop9 [0]
noncomputable def K4 (N:Nat) (o0:Orc E R):KT E R:=kAt T (G N) live [] o0 code [1,1,1,0,1,0] (kfin T Tryz.f70 (sp N))
noncomputable def St4 (a0:ByteArray):(ByteArray×Int×(List Int)×(List Int))→St E
  | (v0,v1,v2,v3)=>{ ρ:=[(3,.c (.at (.str v0))),(4,.c (.at (.ptr 0 0))),(5,.c (.at (.ptr 1 0))),(6,.c (.at (.int .i64 v1)))],H:=[(0,.arr 148 .u32 8 v2),(1,.arr 150 .u32 64 v3)],nx:=2,n:=51,pin:=[] }
noncomputable def K9 (N:Nat) (o0:Orc E R):KT E R:=kAt T (G N) live [] o0 code [1,1,1,1,1,0,1,0] (kfin T Tryz.f70 (sp N))
noncomputable def St9 (a0:ByteArray):(ByteArray×(List Int)×Int)→St E
  | (v0,v1,v2)=>{ ρ:=[(7,.c (.at (.str v0))),(40,.c (.arr .u32 8 v1)),(41,.c (.at (.int .i64 v2)))],H:=[],nx:=0,n:=51,pin:=[] }
theorem run (N:Nat) (o0:Orc E R) (a0:ByteArray):runF T (G N) live [] Tryz.f70 code (sp N) o0 (a0,())=m0 N a0 (fun a=>o0 loop4 (K4 N o0) (St4 a0 a)):=by kernel_rfl
theorem body4_0 (N:Nat) (o0:Orc E R) (o1:Orc E R) (q1:St E→Option R) (a0:ByteArray) (v0:ByteArray) (v1:Int) (v2:List Int) (v3:List Int):runA T (G N) live [] o1 body4 (St4 a0 (v0,v1,v2,v3)) (kloop [3,4,5,6] q1 (K4 N o0))=step4 N a0 (fun a=>o0 loop9 (K9 N o0) (St9 a0 a)) (fun a=>q1 (St4 a0 a)) (v0,v1,v2,v3):=by kernel_rfl
theorem body9_0 (N:Nat) (o0:Orc E R) (o1:Orc E R) (q1:St E→Option R) (a0:ByteArray) (v0:ByteArray) (v1:List Int) (v2:Int):runA T (G N) live [] o1 body9 (St9 a0 (v0,v1,v2)) (kloop [7,40,41] q1 (K9 N o0))=step9 N a0 (fun a=>q1 (St9 a0 a)) (v0,v1,v2):=by kernel_rfl
theorem lp9_eq (N:Nat) (a0:ByteArray) (a:ByteArray×(List Int)×Int):(orc T (G N) live [] N 2) loop9 (K9 N (orc T (G N) live [] N 2)) (St9 a0 a)=lp9 N a0 a:=
  (orc_loop (b:=body9) (live:=[7,40,41]) (by kernel_rfl)).trans (iter_eq (St9 a0) _ _ (fun q1 a=>by
    have hc:=congrFun (congrFun (rfl:(step9 N a0)=(step9 N a0)) (fun a=>q1 (St9 a0 a))) a
    obtain ⟨u0,u1,u2⟩:=a
    exact (body9_0 N (orc T (G N) live [] N 2) (orc T (G N) live [] N 1) q1 a0 u0 u1 u2).trans hc) N a)
theorem lp4_eq (N:Nat) (a0:ByteArray) (a:ByteArray×Int×(List Int)×(List Int)):(orc T (G N) live [] N 2) loop4 (K4 N (orc T (G N) live [] N 2)) (St4 a0 a)=lp4 N a0 a:=
  (orc_loop (b:=body4) (live:=[3,4,5,6]) (by kernel_rfl)).trans (iter_eq (St4 a0) _ _ (fun q1 a=>by
    have hc:=congrFun (congrFun (congrArg (step4 N a0) (funext fun a=>lp9_eq N a0 a)) (fun a=>q1 (St4 a0 a))) a
    obtain ⟨u0,u1,u2,u3⟩:=a
    exact (body4_0 N (orc T (G N) live [] N 2) (orc T (G N) live [] N 1) q1 a0 u0 u1 u2 u3).trans hc) N a)
theorem G_ok (N:Nat):GamOK Tryz.prog (G N):=gam_ok (⟨strings_Repeat.snd N,impl_number.snd N,impl_hashWords.snd N,impl_roundWords.snd N,impl_blockHash.snd N,trivial⟩)
theorem snd (N:Nat):Sound Tryz.prog E 70 (sp N):=
  Mir.sound T_OK (G_ok N) mixed Tryz.func70 (c:=code) (by kernel_rfl) (by kernel_rfl) (sp N) (Nat.le_of_ble_eq_true (by kernel_rfl)) live [] (by
    rintro ⟨a0,_⟩ r h
    exact ⟨N,2,((run N _ a0).trans (congrArg (m0 N a0) (funext fun a=>lp4_eq N a0 a))).trans h⟩)
end impl_hash
namespace strings_Compare
theorem str_of {W:World} {F:Nat→Prop} {s:ByteArray} {v:Value} (h:RoV E W F .str s v):v = .string s:=by
  obtain ⟨d,h⟩:=h;cases d<;>exact h
theorem snd (N:Nat):Sound Tryz.prog E 139 (sp N):=by
  refine ⟨fun args W=>run_callFunc_go Tryz.func139 (c:=Tryz.f139.body.getD .skip) (by kernel_rfl) (by kernel_rfl) args W,?_⟩
  rintro W F ⟨a0,a1,_⟩ r args fp hfn ⟨v,vs,f1,f2,rfl,rfl,⟨h0,rfl⟩,⟨w,ws,g1,g2,rfl,rfl,⟨h1,rfl⟩,⟨rfl,rfl⟩⟩⟩ _ _ hF
  obtain rfl:=str_of h0
  obtain rfl:=str_of h1
  cases hfn
  have hcall:=Go.Proofs.Any.strings_Compare Tryz.cmpLays a0 a1 W
  refine (show Calls Tryz.prog 139 #[.string a0,.string a1] W _ from hcall).mono ?_
  rintro e W' ⟨rfl,rfl⟩
  exact ⟨_,rfl,⟨F,[.int .i64 (Go.Lib.compareBytes a0.data.toList a1.data.toList)],[],[],rfl,fun b h=>h,fun b h=>⟨.inl h,hF b h⟩,⟨_,[],[],[],rfl,rfl,⟨rfl,rfl⟩,⟨rfl,rfl⟩⟩,⟨_,_,[],[],rfl,rfl,rfl,⟨_,_,[],[],rfl,rfl,rfl,⟨rfl,rfl⟩⟩⟩,List.nodup_nil,fun b h=>by cases h⟩,rfl,rfl,rfl,Nat.le_refl _,fun b h _=>rfl⟩
end strings_Compare
namespace impl_pairAt_1
noncomputable def code:Code:=Tryz.f138.body.getD .skip
abbrev live:Live:=[]
noncomputable def G (N:Nat):Ctx E:=gam [(139,[],strings_Compare.sp N)]
theorem run (N:Nat) (o0:Orc E R) (a0:pairOf) (a1:ByteArray):runF T (G N) live [] Tryz.f138 code (sp N) o0 (a0,a1,())=m N a0 a1:=by kernel_rfl
theorem G_ok (N:Nat):GamOK Tryz.prog (G N):=gam_ok (⟨strings_Compare.snd N,trivial⟩)
theorem snd (N:Nat):Sound Tryz.prog E 138 (sp N):=
  Mir.sound T_OK (G_ok N) mixed Tryz.func138 (c:=code) (by kernel_rfl) (by kernel_rfl) (sp N) (Nat.le_of_ble_eq_true (by kernel_rfl)) live [] (by
    rintro ⟨a0,a1,_⟩ r h
    exact ⟨N,2,((run N _ a0 a1).trans rfl).trans h⟩)
end impl_pairAt_1
namespace slices_BinarySearchFunc_impl_pairOf_impl_pairOf_string__impl_pairAt_1
noncomputable def code:Code:=Tryz.f137.body.getD .skip
abbrev live:Live:=[(3,[0,1,2,8,9,10])]
noncomputable def G (N:Nat):Ctx E:=gam [(138,[],impl_pairAt_1.sp N)]
noncomputable def loop3:Code:=codeAt code [1,1,1,0,0]
noncomputable def body3:Code:=codeAt loop3 [0]
noncomputable def K3 (N:Nat) (o0:Orc E R):KT E R:=kAt T (G N) live [] o0 code [1,1,1,0,0] (kfin T Tryz.f137 (sp N))
noncomputable def St3 (a0:List pairOf) (a1:ByteArray):(Int×Int×Int)→St E
  | (v2,v3,v4)=>{ ρ:=[(0,.c (.at (.ro 98 (.st 98) a0))),(1,.c (.at (.str a1))),(2,.clo 138 []),(8,.c (.at (.int .i64 v2))),(9,.c (.at (.int .i64 v3))),(10,.c (.at (.int .i64 v4)))],H:=[],nx:=0,n:=49,pin:=[] }
theorem run (N:Nat) (o0:Orc E R) (a0:List pairOf) (a1:ByteArray):runF T (G N) live [] Tryz.f137 code (sp N) o0 (a0,a1,(),())=m0 N a0 a1 (fun a=>o0 loop3 (K3 N o0) (St3 a0 a1 a)):=by kernel_rfl
theorem body3_0 (N:Nat) (o0:Orc E R) (o1:Orc E R) (q1:St E→Option R) (a0:List pairOf) (a1:ByteArray) (v2:Int) (v3:Int) (v4:Int):runA T (G N) live [] o1 body3 (St3 a0 a1 (v2,v3,v4)) (kloop [0,1,2,8,9,10] q1 (K3 N o0))=step3 N a0 a1 (fun a=>q1 (St3 a0 a1 a)) (v2,v3,v4):=by kernel_rfl
theorem lp3_eq (N:Nat) (a0:List pairOf) (a1:ByteArray) (a:Int×Int×Int):(orc T (G N) live [] N 2) loop3 (K3 N (orc T (G N) live [] N 2)) (St3 a0 a1 a)=lp3 N a0 a1 a:=
  (orc_loop (b:=body3) (live:=[0,1,2,8,9,10]) (by kernel_rfl)).trans (iter_eq (St3 a0 a1) _ _ (fun q1 a=>by
    have hc:=congrFun (congrFun (rfl:(step3 N a0 a1)=(step3 N a0 a1)) (fun a=>q1 (St3 a0 a1 a))) a
    obtain ⟨u0,u1,u2⟩:=a
    exact (body3_0 N (orc T (G N) live [] N 2) (orc T (G N) live [] N 1) q1 a0 a1 u0 u1 u2).trans hc) N a)
theorem G_ok (N:Nat):GamOK Tryz.prog (G N):=gam_ok (⟨impl_pairAt_1.snd N,trivial⟩)
theorem snd (N:Nat):Sound Tryz.prog E 137 (sp N):=
  Mir.sound T_OK (G_ok N) mixed Tryz.func137 (c:=code) (by kernel_rfl) (by kernel_rfl) (sp N) (Nat.le_of_ble_eq_true (by kernel_rfl)) live [] (by
    rintro ⟨a0,a1,_,_⟩ r h
    exact ⟨N,2,((run N _ a0 a1).trans (congrArg (m0 N a0 a1) (funext fun a=>lp3_eq N a0 a1 a))).trans h⟩)
end slices_BinarySearchFunc_impl_pairOf_impl_pairOf_string__impl_pairAt_1
namespace impl_pairAt
noncomputable def code:Code:=Tryz.f101.body.getD .skip
abbrev live:Live:=[]
noncomputable def G (N:Nat):Ctx E:=gam [(70,[],impl_hash.sp N),(137,[138],slices_BinarySearchFunc_impl_pairOf_impl_pairOf_string__impl_pairAt_1.sp N)]
theorem run (N:Nat) (o0:Orc E R) (a0:List pairOf) (a1:ByteArray):runF T (G N) live [] Tryz.f101 code (sp N) o0 (a0,a1,())=m N a0 a1:=by kernel_rfl
theorem G_ok (N:Nat):GamOK Tryz.prog (G N):=gam_ok (⟨impl_hash.snd N,slices_BinarySearchFunc_impl_pairOf_impl_pairOf_string__impl_pairAt_1.snd N,trivial⟩)
theorem snd (N:Nat):Sound Tryz.prog E 101 (sp N):=
  Mir.sound T_OK (G_ok N) mixed Tryz.func101 (c:=code) (by kernel_rfl) (by kernel_rfl) (sp N) (Nat.le_of_ble_eq_true (by kernel_rfl)) live [] (by
    rintro ⟨a0,a1,_⟩ r h
    exact ⟨N,2,((run N _ a0 a1).trans rfl).trans h⟩)
end impl_pairAt
namespace slices_Delete_impl_pairOf
theorem snd (N:Nat):Sound Tryz.prog E 102 (sp N):=
  delete_sound (E:=E) (ty:=(.st 98)) (fun args W=>run_callFunc_go Tryz.func102 (c:=Tryz.f102.body.getD .skip) (by kernel_rfl) (by kernel_rfl) args W) Tryz.underlying91 (i:=Tryz.t98) (by kernel_rfl) (z:=Tryz.t98.zero.getD undef) (by kernel_rfl) (by kernel_rfl) (by kernel_rfl) (fun v hv=>List.all_eq_true.1 (show (Tryz.t98.zero.getD undef).cells.toList.all Value.oneCell'=true by kernel_rfl) v hv) Go.Proofs.DelW102.del
end slices_Delete_impl_pairOf
namespace impl_counted
noncomputable def code:Code:=Tryz.f58.body.getD .skip
abbrev live:Live:=[]
noncomputable def G (N:Nat):Ctx E:=gam [(57,[],impl_number.sp N)]
theorem run (N:Nat) (o0:Orc E R) (a0:ByteArray):runF T (G N) live [] Tryz.f58 code (sp N) o0 (a0,())=m N a0:=by kernel_rfl
theorem G_ok (N:Nat):GamOK Tryz.prog (G N):=gam_ok (⟨impl_number.snd N,trivial⟩)
theorem snd (N:Nat):Sound Tryz.prog E 58 (sp N):=
  Mir.sound T_OK (G_ok N) mixed Tryz.func58 (c:=code) (by kernel_rfl) (by kernel_rfl) (sp N) (Nat.le_of_ble_eq_true (by kernel_rfl)) live [] (by
    rintro ⟨a0,_⟩ r h
    exact ⟨N,2,((run N _ a0).trans rfl).trans h⟩)
end impl_counted
namespace impl_Command_bytes
noncomputable def code:Code:=Tryz.f105.body.getD .skip
abbrev live:Live:=[]
noncomputable def G (N:Nat):Ctx E:=gam [(57,[],impl_number.sp N),(58,[],impl_counted.sp N)]
theorem run (N:Nat) (o0:Orc E R) (a0:Command):runF T (G N) live [] Tryz.f105 code (sp N) o0 (a0,())=m N a0:=by kernel_rfl
theorem G_ok (N:Nat):GamOK Tryz.prog (G N):=gam_ok (⟨impl_number.snd N,impl_counted.snd N,trivial⟩)
theorem snd (N:Nat):Sound Tryz.prog E 105 (sp N):=
  Mir.sound T_OK (G_ok N) mixed Tryz.func105 (c:=code) (by kernel_rfl) (by kernel_rfl) (sp N) (Nat.le_of_ble_eq_true (by kernel_rfl)) live [] (by
    rintro ⟨a0,_⟩ r h
    exact ⟨N,2,((run N _ a0).trans rfl).trans h⟩)
end impl_Command_bytes
namespace impl_leafHash
noncomputable def code:Code:=Tryz.f104.body.getD .skip
abbrev live:Live:=[]
noncomputable def G (N:Nat):Ctx E:=gam [(70,[],impl_hash.sp N)]
theorem run (N:Nat) (o0:Orc E R) (a0:ByteArray):runF T (G N) live [] Tryz.f104 code (sp N) o0 (a0,())=m N a0:=by kernel_rfl
theorem G_ok (N:Nat):GamOK Tryz.prog (G N):=gam_ok (⟨impl_hash.snd N,trivial⟩)
theorem snd (N:Nat):Sound Tryz.prog E 104 (sp N):=
  Mir.sound T_OK (G_ok N) mixed Tryz.func104 (c:=code) (by kernel_rfl) (by kernel_rfl) (sp N) (Nat.le_of_ble_eq_true (by kernel_rfl)) live [] (by
    rintro ⟨a0,_⟩ r h
    exact ⟨N,2,((run N _ a0).trans rfl).trans h⟩)
end impl_leafHash
namespace slices_Clone_impl_pairOf_impl_pairOf
noncomputable def code:Code:=Tryz.f140.body.getD .skip
abbrev live:Live:=[]
noncomputable def G (N:Nat):Ctx E:=gam []
theorem run (N:Nat) (o0:Orc E R) (a0:List pairOf):runF T (G N) live [] Tryz.f140 code (sp N) o0 (a0,())=m N a0:=by kernel_rfl
theorem G_ok (N:Nat):GamOK Tryz.prog (G N):=gam_ok (trivial)
theorem snd (N:Nat):Sound Tryz.prog E 140 (sp N):=
  Mir.sound T_OK (G_ok N) mixed Tryz.func140 (c:=code) (by kernel_rfl) (by kernel_rfl) (sp N) (Nat.le_of_ble_eq_true (by kernel_rfl)) live [] (by
    rintro ⟨a0,_⟩ r h
    exact ⟨N,2,((run N _ a0).trans rfl).trans h⟩)
end slices_Clone_impl_pairOf_impl_pairOf
namespace slices_Insert_impl_pairOf
theorem snd (N:Nat):Sound Tryz.prog E 141 (sp N):=
  insert_sound (E:=E) (ty:=(.st 98)) rfl (fun args W=>run_callFunc_go Tryz.func141 (c:=Tryz.f141.body.getD .skip) (by kernel_rfl) (by kernel_rfl) args W) Tryz.underlying91 (i:=Tryz.t98) (by kernel_rfl) (z:=Tryz.t98.zero.getD undef) (by kernel_rfl) (by kernel_rfl) (by kernel_rfl) (Nat.le_of_ble_eq_true (by kernel_rfl)) Go.Proofs.InsW141.ov Go.Proofs.InsW141.at_end Go.Proofs.InsW141.grow (by kernel_rfl) Go.Proofs.InsW141.shift
end slices_Insert_impl_pairOf
namespace impl_mapPut
noncomputable def code:Code:=Tryz.f103.body.getD .skip
abbrev live:Live:=[]
noncomputable def G (N:Nat):Ctx E:=gam [(140,[],slices_Clone_impl_pairOf_impl_pairOf.sp N),(70,[],impl_hash.sp N),(101,[],impl_pairAt.sp N),(141,[],slices_Insert_impl_pairOf.sp N)]
theorem run (N:Nat) (o0:Orc E R) (a0:List pairOf) (a1:ByteArray) (a2:ByteArray):runF T (G N) live [] Tryz.f103 code (sp N) o0 (a0,a1,a2,())=m N a0 a1 a2:=by kernel_rfl
theorem G_ok (N:Nat):GamOK Tryz.prog (G N):=gam_ok (⟨slices_Clone_impl_pairOf_impl_pairOf.snd N,impl_hash.snd N,impl_pairAt.snd N,slices_Insert_impl_pairOf.snd N,trivial⟩)
theorem snd (N:Nat):Sound Tryz.prog E 103 (sp N):=
  Mir.sound T_OK (G_ok N) mixed Tryz.func103 (c:=code) (by kernel_rfl) (by kernel_rfl) (sp N) (Nat.le_of_ble_eq_true (by kernel_rfl)) live [] (by
    rintro ⟨a0,a1,a2,_⟩ r h
    exact ⟨N,2,((run N _ a0 a1 a2).trans rfl).trans h⟩)
end impl_mapPut
namespace impl_books_write
noncomputable def code:Code:=Tryz.f68.body.getD .skip
abbrev live:Live:=[]
noncomputable def G (N:Nat):Ctx E:=gam [(101,[],impl_pairAt.sp N),(48,[],impl_isValue.sp N),(102,[],slices_Delete_impl_pairOf.sp N),(105,[],impl_Command_bytes.sp N),(104,[],impl_leafHash.sp N),(103,[],impl_mapPut.sp N)]
theorem run (N:Nat) (o0:Orc E R) (a0:books) (a1:Command):runF T (G N) live [] Tryz.f68 code (sp N) o0 (a0,a1,())=m N a0 a1:=by kernel_rfl
theorem G_ok (N:Nat):GamOK Tryz.prog (G N):=gam_ok (⟨impl_pairAt.snd N,impl_isValue.snd N,slices_Delete_impl_pairOf.snd N,impl_Command_bytes.snd N,impl_leafHash.snd N,impl_mapPut.snd N,trivial⟩)
theorem snd (N:Nat):Sound Tryz.prog E 68 (sp N):=
  Mir.sound T_OK (G_ok N) mixed Tryz.func68 (c:=code) (by kernel_rfl) (by kernel_rfl) (sp N) (Nat.le_of_ble_eq_true (by kernel_rfl)) live [] (by
    rintro ⟨a0,a1,_⟩ r h
    exact ⟨N,2,((run N _ a0 a1).trans rfl).trans h⟩)
end impl_books_write
end Mir.Y
