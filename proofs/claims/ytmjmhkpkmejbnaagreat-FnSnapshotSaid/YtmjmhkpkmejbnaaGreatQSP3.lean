/- The models are what the functions do. -/
import Derived.Test.YtmjmhkpkmejbnaaGreatQSP2
namespace Mir.Y
set_option linter.unusedVariables false
set_option maxRecDepth 10000
open Go Go.Proofs Mir
set_option linter.unusedSectionVars false
variable [UU]
namespace spec_l01Bits
noncomputable def code:Code:=Tryz.f150.body.getD .skip
abbrev live:Live:=[(6,[0,3,4,5]),(3,[0,3,4])]
noncomputable def G (N:Nat):Ctx E:=gam []
noncomputable def loop3:Code:=codeAt code [1,1,0,1,0]
noncomputable def body3:Code:=codeAt loop3 [0]
noncomputable def loop6:Code:=codeAt body3 [1,0,0,1,0]
noncomputable def body6:Code:=codeAt loop6 [0]
noncomputable def K3 (N:Nat) (o0:Orc E R):KT E R:=kAt T (G N) live [] o0 code [1,1,0,1,0] (kfin T Tryz.f150 (sp N))
noncomputable def St3 (a0:ByteArray):(Int×(List Int))→St E
 | (v1,v2)=>{ ρ:=[(0,.c (.at (.str a0))),(3,.c (.at (.own 0))),(4,.c (.at (.int .i64 v1)))],H:=[(0,.row 5 (.int .u8) v2 false)],nx:=1,n:=30,pin:=[] }
noncomputable def K6 (N:Nat) (o0:Orc E R) (o1:Orc E R) (q1:St E→Option R):KT E R:=kAt T (G N) live [] o1 body3 [1,0,0,1,0] (kloop [0,3,4] q1 (K3 N o0))
noncomputable def St6 (a0:ByteArray):(Int×Int×(List Int))→St E
 | (v1,v2,v3)=>{ ρ:=[(0,.c (.at (.str a0))),(3,.c (.at (.own 0))),(4,.c (.at (.int .i64 v1))),(5,.c (.at (.int .i64 v2)))],H:=[(0,.row 5 (.int .u8) v3 false)],nx:=1,n:=30,pin:=[] }
theorem run (N:Nat) (o0:Orc E R) (a0:ByteArray):runF T (G N) live [] Tryz.f150 code (sp N) o0 (a0,())=m0 N a0 (fun a=>o0 loop3 (K3 N o0) (St3 a0 a)):=by kernel_rfl
theorem body3_0 (N:Nat) (o0:Orc E R) (o1:Orc E R) (q1:St E→Option R) (a0:ByteArray) (v1:Int) (v2:List Int):runA T (G N) live [] o1 body3 (St3 a0 (v1,v2)) (kloop [0,3,4] q1 (K3 N o0))=step3 N a0 (fun a=>o1 loop6 (K6 N o0 o1 q1) (St6 a0 a)) (fun a=>q1 (St3 a0 a)) (v1,v2):=by kernel_rfl
theorem body6_0 (N:Nat) (o0:Orc E R) (o1:Orc E R) (o2:Orc E R) (q1:St E→Option R) (q2:St E→Option R) (a0:ByteArray) (v1:Int) (v2:Int) (v3:List Int):runA T (G N) live [] o2 body6 (St6 a0 (v1,v2,v3)) (kloop [0,3,4,5] q2 (K6 N o0 o1 q1))=step6 N a0 (fun a=>q1 (St3 a0 a)) (fun a=>q2 (St6 a0 a)) (v1,v2,v3):=by kernel_rfl
theorem lp6_eq (N:Nat) (a0:ByteArray) (q1:St E→Option R) (a:Int×Int×(List Int)):(orc T (G N) live [] N 2) loop6 (K6 N (orc T (G N) live [] N 3) (orc T (G N) live [] N 2) q1) (St6 a0 a)=lp6 N a0 (fun a=>q1 (St3 a0 a)) a:=
 (orc_loop (b:=body6) (live:=[0,3,4,5]) (by kernel_rfl)).trans (iter_eq (St6 a0) _ _ (fun q2 a=>by
  have hc:=congrFun (congrFun (congrArg (step6 N a0) (Eq.refl (fun a=>q1 (St3 a0 a)))) (fun a=>q2 (St6 a0 a))) a
  obtain ⟨u0,u1,u2⟩:=a
  exact (body6_0 N (orc T (G N) live [] N 3) (orc T (G N) live [] N 2) (orc T (G N) live [] N 1) q1 q2 a0 u0 u1 u2).trans hc) N a)
theorem lp3_eq (N:Nat) (a0:ByteArray) (a:Int×(List Int)):(orc T (G N) live [] N 3) loop3 (K3 N (orc T (G N) live [] N 3)) (St3 a0 a)=lp3 N a0 a:=
 (orc_loop (b:=body3) (live:=[0,3,4]) (by kernel_rfl)).trans (iter_eq (St3 a0) _ _ (fun q1 a=>by
  have hc:=congrFun (congrFun (congrArg (step3 N a0) (funext fun a=>lp6_eq N a0 q1 a)) (fun a=>q1 (St3 a0 a))) a
  obtain ⟨u0,u1⟩:=a
  exact (body3_0 N (orc T (G N) live [] N 3) (orc T (G N) live [] N 2) q1 a0 u0 u1).trans hc) N a)
theorem G_ok (N:Nat):GamOK Tryz.prog (G N):=gam_ok (trivial)
theorem snd (N:Nat):Sound Tryz.prog E 150 (sp N):=
 Mir.sound T_OK (G_ok N) mixed Tryz.func150 (c:=code) (by kernel_rfl) (by kernel_rfl) (sp N) (Nat.le_of_ble_eq_true (by kernel_rfl)) live [] (by
  rintro ⟨a0,_⟩ r h
  exact ⟨N,3,((run N _ a0).trans (congrArg (m0 N a0) (funext fun a=>lp3_eq N a0 a))).trans h⟩)
end spec_l01Bits
namespace spec_l07Count
noncomputable def code:Code:=Tryz.f118.body.getD .skip
abbrev live:Live:=[(21,[3,4,11,12,13]),(11,[2,3,4,9,10])]
noncomputable def G (N:Nat) (slf:Branch→Int→ByteArray→Int→Option R):Ctx E:=gam [(119,[],spec_l07Leaf.sp N),(52,[],spec_l02Key.sp N),(89,[],spec_l07Hash.sp N),(150,[],spec_l01Bits.sp N),(51,[],spec_l01In.sp N),(118,[],spf slf)]
noncomputable def loop11:Code:=codeAt code [1,1,1,1,1,0,1,0]
noncomputable def body11:Code:=codeAt loop11 [0]
noncomputable def loop21:Code:=codeAt code [1,1,1,1,1,1,1,1,1,1,0,1,0]
noncomputable def body21:Code:=codeAt loop21 [0]
noncomputable def K11 (N:Nat) (slf:Branch→Int→ByteArray→Int→Option R) (o0:Orc E R):KT E R:=kAt T (G N slf) live [] o0 code [1,1,1,1,1,0,1,0] (kfin T Tryz.f118 (spf (mb N slf)))
noncomputable def St11 (slf:Branch→Int→ByteArray→Int→Option R) (a0:Branch) (a1:Int) (a2:ByteArray) (a3:Int):(Int×ByteArray×ByteArray×Int×(List Branch))→St E
 | (v2,v7,v8,v9,v10)=>{ ρ:=[(2,.c (.at (.str a2))),(3,.c (.at (.int .i64 a3))),(4,.c (.at (.ptr 0 0))),(9,.c (.at (.ptr 1 0))),(10,.c (.at (.int .i64 v2)))],H:=[(0,.box 36 [.str a0.Key,.str a0.Value,.int .i64 a0.At,.ro 36 (.st 36) a0.Kids]),(1,.box 36 [.str v7,.str v8,.int .i64 v9,.ro 36 (.st 36) v10])],nx:=2,n:=141,pin:=[] }
noncomputable def K21 (N:Nat) (slf:Branch→Int→ByteArray→Int→Option R) (o0:Orc E R):KT E R:=kAt T (G N slf) live [] o0 code [1,1,1,1,1,1,1,1,1,1,0,1,0] (kfin T Tryz.f118 (spf (mb N slf)))
noncomputable def St21 (slf:Branch→Int→ByteArray→Int→Option R) (a0:Branch) (a1:Int) (a2:ByteArray) (a3:Int):(ByteArray×Int×Int)→St E
 | (v1,v2,v3)=>{ ρ:=[(3,.c (.at (.int .i64 a3))),(4,.c (.at (.ptr 0 0))),(11,.c (.at (.str v1))),(12,.c (.at (.int .i64 v2))),(13,.c (.at (.int .i64 v3)))],H:=[(0,.box 36 [.str a0.Key,.str a0.Value,.int .i64 a0.At,.ro 36 (.st 36) a0.Kids])],nx:=1,n:=141,pin:=[] }
theorem run (N:Nat) (o0:Orc E R) (slf:Branch→Int→ByteArray→Int→Option R) (a0:Branch) (a1:Int) (a2:ByteArray) (a3:Int):runF T (G N slf) live [] Tryz.f118 code (spf (mb N slf)) o0 (a0,a1,a2,a3,())=m0 N slf a0 a1 a2 a3 (fun a=>o0 loop11 (K11 N slf o0) (St11 slf a0 a1 a2 a3 a)):=by kernel_rfl
theorem body11_0 (N:Nat) (o0:Orc E R) (o1:Orc E R) (q1:St E→Option R) (slf:Branch→Int→ByteArray→Int→Option R) (a0:Branch) (a1:Int) (a2:ByteArray) (a3:Int) (v2:Int) (v7:ByteArray) (v8:ByteArray) (v9:Int) (v10:List Branch):runA T (G N slf) live [] o1 body11 (St11 slf a0 a1 a2 a3 (v2,v7,v8,v9,v10)) (kloop [2,3,4,9,10] q1 (K11 N slf o0))=step11 N slf a0 a1 a2 a3 (fun a=>o0 loop21 (K21 N slf o0) (St21 slf a0 a1 a2 a3 a)) (fun a=>q1 (St11 slf a0 a1 a2 a3 a)) (v2,v7,v8,v9,v10):=by kernel_rfl
theorem body21_0 (N:Nat) (o0:Orc E R) (o1:Orc E R) (q1:St E→Option R) (slf:Branch→Int→ByteArray→Int→Option R) (a0:Branch) (a1:Int) (a2:ByteArray) (a3:Int) (v1:ByteArray) (v2:Int) (v3:Int):runA T (G N slf) live [] o1 body21 (St21 slf a0 a1 a2 a3 (v1,v2,v3)) (kloop [3,4,11,12,13] q1 (K21 N slf o0))=step21 N slf a0 a1 a2 a3 (fun a=>q1 (St21 slf a0 a1 a2 a3 a)) (v1,v2,v3):=by kernel_rfl
theorem lp21_eq (N:Nat) (slf:Branch→Int→ByteArray→Int→Option R) (a0:Branch) (a1:Int) (a2:ByteArray) (a3:Int) (a:ByteArray×Int×Int):(orc T (G N slf) live [] N 2) loop21 (K21 N slf (orc T (G N slf) live [] N 2)) (St21 slf a0 a1 a2 a3 a)=lp21 N slf a0 a1 a2 a3 a:=
 (orc_loop (b:=body21) (live:=[3,4,11,12,13]) (by kernel_rfl)).trans (iter_eq (St21 slf a0 a1 a2 a3) _ _ (fun q1 a=>by
  have hc:=congrFun (congrFun (rfl:(step21 N slf a0 a1 a2 a3)=(step21 N slf a0 a1 a2 a3)) (fun a=>q1 (St21 slf a0 a1 a2 a3 a))) a
  obtain ⟨u0,u1,u2⟩:=a
  exact (body21_0 N (orc T (G N slf) live [] N 2) (orc T (G N slf) live [] N 1) q1 slf a0 a1 a2 a3 u0 u1 u2).trans hc) N a)
theorem lp11_eq (N:Nat) (slf:Branch→Int→ByteArray→Int→Option R) (a0:Branch) (a1:Int) (a2:ByteArray) (a3:Int) (a:Int×ByteArray×ByteArray×Int×(List Branch)):(orc T (G N slf) live [] N 2) loop11 (K11 N slf (orc T (G N slf) live [] N 2)) (St11 slf a0 a1 a2 a3 a)=lp11 N slf a0 a1 a2 a3 a:=
 (orc_loop (b:=body11) (live:=[2,3,4,9,10]) (by kernel_rfl)).trans (iter_eq (St11 slf a0 a1 a2 a3) _ _ (fun q1 a=>by
  have hc:=congrFun (congrFun (congrArg (step11 N slf a0 a1 a2 a3) (funext fun a=>lp21_eq N slf a0 a1 a2 a3 a)) (fun a=>q1 (St11 slf a0 a1 a2 a3 a))) a
  obtain ⟨u0,u1,u2,u3,u4⟩:=a
  exact (body11_0 N (orc T (G N slf) live [] N 2) (orc T (G N slf) live [] N 1) q1 slf a0 a1 a2 a3 u0 u1 u2 u3 u4).trans hc) N a)
theorem G_ok (N:Nat) (slf:Branch→Int→ByteArray→Int→Option R) (hs:Sound Tryz.prog E 118 (spf slf)):GamOK Tryz.prog (G N slf):=gam_ok (⟨spec_l07Leaf.snd N,spec_l02Key.snd N,spec_l07Hash.snd N,spec_l01Bits.snd N,spec_l01In.snd N,hs,trivial⟩)
theorem sndF (N:Nat):∀n,Sound Tryz.prog E 118 (spf (mF N n))
 | 0=>sound_none Tryz.func118 (c:=code) (by kernel_rfl) (by kernel_rfl) (spf (mF N 0)) (fun _=>rfl)
 | n+1=>by
  have hr:=fun (a0:Branch) (a1:Int) (a2:ByteArray) (a3:Int)=>(run N (orc T (G N (mF N n)) live [] N 2) (mF N n) a0 a1 a2 a3).trans (congrArg (m0 N (mF N n) a0 a1 a2 a3) (funext fun a=>lp11_eq N (mF N n) a0 a1 a2 a3 a))
  exact Mir.sound T_OK (G_ok N (mF N n) (sndF N n)) mixed Tryz.func118 (c:=code) (by kernel_rfl) (by kernel_rfl) (spf (mF N (n+1))) (Nat.le_of_ble_eq_true (by kernel_rfl)) live [] (by
   rintro ⟨a0,a1,a2,a3,_⟩ r h
   exact ⟨N,2,(hr a0 a1 a2 a3).trans h⟩)
theorem snd (N:Nat):Sound Tryz.prog E 118 (sp N):=sndF N N
end spec_l07Count
namespace spec_MapOK
noncomputable def code:Code:=Tryz.f74.body.getD .skip
abbrev live:Live:=[]
noncomputable def G (N:Nat):Ctx E:=gam [(117,[],spec_l07Empty.sp N),(118,[],spec_l07Count.sp N)]
theorem run (N:Nat) (o0:Orc E R) (a0:Branch):runF T (G N) live [] Tryz.f74 code (sp N) o0 (a0,())=m N a0:=by kernel_rfl
theorem G_ok (N:Nat):GamOK Tryz.prog (G N):=gam_ok (⟨spec_l07Empty.snd N,spec_l07Count.snd N,trivial⟩)
theorem snd (N:Nat):Sound Tryz.prog E 74 (sp N):=
 Mir.sound T_OK (G_ok N) mixed Tryz.func74 (c:=code) (by kernel_rfl) (by kernel_rfl) (sp N) (Nat.le_of_ble_eq_true (by kernel_rfl)) live [] (by
  rintro ⟨a0,_⟩ r h
  exact ⟨N,2,((run N _ a0).trans rfl).trans h⟩)
end spec_MapOK
namespace spec_LedgerOK
noncomputable def code:Code:=Tryz.f39.body.getD .skip
abbrev live:Live:=[(4,[1,3])]
noncomputable def G (N:Nat):Ctx E:=gam [(73,[],spec_l06Hashes.sp N),(74,[],spec_MapOK.sp N),(51,[],spec_l01In.sp N)]
noncomputable def loop4:Code:=codeAt code [1,1,0,1,0]
noncomputable def body4:Code:=codeAt loop4 [0]
noncomputable def K4 (N:Nat) (o0:Orc E R):KT E R:=kAt T (G N) live [] o0 code [1,1,0,1,0] (kfin T Tryz.f39 (sp N))
noncomputable def St4 (a0:Ledger):Int→St E
 | v0=>{ ρ:=[(1,.c (.at (.ptr 0 0))),(3,.c (.at (.int .i64 v0)))],H:=[(0,.box 39 [.ro 9 .str a0.Leaves,.str a0.Map.Key,.str a0.Map.Value,.int .i64 a0.Map.At,.ro 36 (.st 36) a0.Map.Kids,.ro 72 (.st 72) a0.Sessions])],nx:=1,n:=86,pin:=[] }
theorem run (N:Nat) (o0:Orc E R) (a0:Ledger):runF T (G N) live [] Tryz.f39 code (sp N) o0 (a0,())=m0 N a0 (fun a=>o0 loop4 (K4 N o0) (St4 a0 a)):=by kernel_rfl
theorem body4_0 (N:Nat) (o0:Orc E R) (o1:Orc E R) (q1:St E→Option R) (a0:Ledger) (v0:Int):runA T (G N) live [] o1 body4 (St4 a0 v0) (kloop [1,3] q1 (K4 N o0))=step4 N a0 (fun a=>q1 (St4 a0 a)) v0:=by kernel_rfl
theorem lp4_eq (N:Nat) (a0:Ledger) (a:Int):(orc T (G N) live [] N 2) loop4 (K4 N (orc T (G N) live [] N 2)) (St4 a0 a)=lp4 N a0 a:=
 (orc_loop (b:=body4) (live:=[1,3]) (by kernel_rfl)).trans (iter_eq (St4 a0) _ _ (fun q1 a=>by
  have hc:=congrFun (congrFun (rfl:(step4 N a0)=(step4 N a0)) (fun a=>q1 (St4 a0 a))) a
  exact (body4_0 N (orc T (G N) live [] N 2) (orc T (G N) live [] N 1) q1 a0 a).trans hc) N a)
theorem G_ok (N:Nat):GamOK Tryz.prog (G N):=gam_ok (⟨spec_l06Hashes.snd N,spec_MapOK.snd N,spec_l01In.snd N,trivial⟩)
theorem snd (N:Nat):Sound Tryz.prog E 39 (sp N):=
 Mir.sound T_OK (G_ok N) mixed Tryz.func39 (c:=code) (by kernel_rfl) (by kernel_rfl) (sp N) (Nat.le_of_ble_eq_true (by kernel_rfl)) live [] (by
  rintro ⟨a0,_⟩ r h
  exact ⟨N,2,((run N _ a0).trans (congrArg (m0 N a0) (funext fun a=>lp4_eq N a0 a))).trans h⟩)
end spec_LedgerOK
namespace spec_l07List
noncomputable def code:Code:=Tryz.f75.body.getD .skip
abbrev live:Live:=[]
noncomputable def G (N:Nat) (slf:Branch→(List Command)→Option R):Ctx E:=gam [(117,[],spec_l07Empty.sp N),(119,[],spec_l07Leaf.sp N),(75,[],spf slf)]
theorem run (N:Nat) (o0:Orc E R) (slf:Branch→(List Command)→Option R) (a0:Branch) (a1:List Command):runF T (G N slf) live [] Tryz.f75 code (spf (mb N slf)) o0 (a0,a1,())=mb N slf a0 a1:=by kernel_rfl
theorem G_ok (N:Nat) (slf:Branch→(List Command)→Option R) (hs:Sound Tryz.prog E 75 (spf slf)):GamOK Tryz.prog (G N slf):=gam_ok (⟨spec_l07Empty.snd N,spec_l07Leaf.snd N,hs,trivial⟩)
theorem sndF (N:Nat):∀n,Sound Tryz.prog E 75 (spf (mF N n))
 | 0=>sound_none Tryz.func75 (c:=code) (by kernel_rfl) (by kernel_rfl) (spf (mF N 0)) (fun _=>rfl)
 | n+1=>by
  have hr:=fun (a0:Branch) (a1:List Command)=>(run N (orc T (G N (mF N n)) live [] N 2) (mF N n) a0 a1).trans rfl
  exact Mir.sound T_OK (G_ok N (mF N n) (sndF N n)) mixed Tryz.func75 (c:=code) (by kernel_rfl) (by kernel_rfl) (spf (mF N (n+1))) (Nat.le_of_ble_eq_true (by kernel_rfl)) live [] (by
   rintro ⟨a0,a1,_⟩ r h
   exact ⟨N,2,(hr a0 a1).trans h⟩)
theorem snd (N:Nat):Sound Tryz.prog E 75 (sp N):=sndF N N
end spec_l07List
namespace spec_l09Snapshot
noncomputable def code:Code:=Tryz.f40.body.getD .skip
abbrev live:Live:=[(15,[1,3,7]),(9,[1,3,5,6]),(3,[1,3,4])]
noncomputable def G (N:Nat):Ctx E:=gam [(75,[],spec_l07List.sp N),(76,[],spec_l02Two.sp N)]
noncomputable def loop3:Code:=codeAt code [1,1,0,1,0]
noncomputable def body3:Code:=codeAt loop3 [0]
noncomputable def loop9:Code:=codeAt code [1,1,1,1,1,0,1,0]
noncomputable def body9:Code:=codeAt loop9 [0]
noncomputable def loop15:Code:=codeAt code [1,1,1,1,1,1,1,0,1,0]
noncomputable def body15:Code:=codeAt loop15 [0]
noncomputable def K3 (N:Nat) (o0:Orc E R):KT E R:=kAt T (G N) live [] o0 code [1,1,0,1,0] (kfin T Tryz.f40 (sp N))
noncomputable def St3 (a0:Ledger):(Int×(List Int))→St E
 | (v0,v7)=>{ ρ:=[(1,.c (.at (.ptr 0 0))),(3,.c (.at (.own 1))),(4,.c (.at (.int .i64 v0)))],H:=[(0,.box 39 [.ro 9 .str a0.Leaves,.str a0.Map.Key,.str a0.Map.Value,.int .i64 a0.Map.At,.ro 36 (.st 36) a0.Map.Kids,.ro 72 (.st 72) a0.Sessions]),(1,.row 5 (.int .u8) v7 false)],nx:=2,n:=126,pin:=[] }
noncomputable def K9 (N:Nat) (o0:Orc E R):KT E R:=kAt T (G N) live [] o0 code [1,1,1,1,1,0,1,0] (kfin T Tryz.f40 (sp N))
noncomputable def St9 (a0:Ledger):(Int×(List Int)×(List Command))→St E
 | (v0,v7,v8)=>{ ρ:=[(1,.c (.at (.ptr 0 0))),(3,.c (.at (.own 1))),(5,.c (.at (.own 2))),(6,.c (.at (.int .i64 v0)))],H:=[(0,.box 39 [.ro 9 .str a0.Leaves,.str a0.Map.Key,.str a0.Map.Value,.int .i64 a0.Map.At,.ro 36 (.st 36) a0.Map.Kids,.ro 72 (.st 72) a0.Sessions]),(1,.row 5 (.int .u8) v7 false),(2,.row 31 (.st 31) v8 false)],nx:=3,n:=126,pin:=[] }
noncomputable def K15 (N:Nat) (o0:Orc E R):KT E R:=kAt T (G N) live [] o0 code [1,1,1,1,1,1,1,0,1,0] (kfin T Tryz.f40 (sp N))
noncomputable def St15 (a0:Ledger):(Int×(List Int))→St E
 | (v0,v7)=>{ ρ:=[(1,.c (.at (.ptr 0 0))),(3,.c (.at (.own 1))),(7,.c (.at (.int .i64 v0)))],H:=[(0,.box 39 [.ro 9 .str a0.Leaves,.str a0.Map.Key,.str a0.Map.Value,.int .i64 a0.Map.At,.ro 36 (.st 36) a0.Map.Kids,.ro 72 (.st 72) a0.Sessions]),(1,.row 5 (.int .u8) v7 false)],nx:=2,n:=126,pin:=[] }
theorem run (N:Nat) (o0:Orc E R) (a0:Ledger):runF T (G N) live [] Tryz.f40 code (sp N) o0 (a0,())=m0 N a0 (fun a=>o0 loop3 (K3 N o0) (St3 a0 a)):=by kernel_rfl
theorem body3_0 (N:Nat) (o0:Orc E R) (o1:Orc E R) (q1:St E→Option R) (a0:Ledger) (v0:Int) (v7:List Int):runA T (G N) live [] o1 body3 (St3 a0 (v0,v7)) (kloop [1,3,4] q1 (K3 N o0))=step3 N a0 (fun a=>o0 loop9 (K9 N o0) (St9 a0 a)) (fun a=>q1 (St3 a0 a)) (v0,v7):=by kernel_rfl
theorem body9_0 (N:Nat) (o0:Orc E R) (o1:Orc E R) (q1:St E→Option R) (a0:Ledger) (v0:Int) (v7:List Int) (v8:List Command):runA T (G N) live [] o1 body9 (St9 a0 (v0,v7,v8)) (kloop [1,3,5,6] q1 (K9 N o0))=step9 N a0 (fun a=>o0 loop15 (K15 N o0) (St15 a0 a)) (fun a=>q1 (St9 a0 a)) (v0,v7,v8):=by kernel_rfl
theorem body15_0 (N:Nat) (o0:Orc E R) (o1:Orc E R) (q1:St E→Option R) (a0:Ledger) (v0:Int) (v7:List Int):runA T (G N) live [] o1 body15 (St15 a0 (v0,v7)) (kloop [1,3,7] q1 (K15 N o0))=step15 N a0 (fun a=>q1 (St15 a0 a)) (v0,v7):=by kernel_rfl
theorem lp15_eq (N:Nat) (a0:Ledger) (a:Int×(List Int)):(orc T (G N) live [] N 2) loop15 (K15 N (orc T (G N) live [] N 2)) (St15 a0 a)=lp15 N a0 a:=
 (orc_loop (b:=body15) (live:=[1,3,7]) (by kernel_rfl)).trans (iter_eq (St15 a0) _ _ (fun q1 a=>by
  have hc:=congrFun (congrFun (rfl:(step15 N a0)=(step15 N a0)) (fun a=>q1 (St15 a0 a))) a
  obtain ⟨u0,u1⟩:=a
  exact (body15_0 N (orc T (G N) live [] N 2) (orc T (G N) live [] N 1) q1 a0 u0 u1).trans hc) N a)
theorem lp9_eq (N:Nat) (a0:Ledger) (a:Int×(List Int)×(List Command)):(orc T (G N) live [] N 2) loop9 (K9 N (orc T (G N) live [] N 2)) (St9 a0 a)=lp9 N a0 a:=
 (orc_loop (b:=body9) (live:=[1,3,5,6]) (by kernel_rfl)).trans (iter_eq (St9 a0) _ _ (fun q1 a=>by
  have hc:=congrFun (congrFun (congrArg (step9 N a0) (funext fun a=>lp15_eq N a0 a)) (fun a=>q1 (St9 a0 a))) a
  obtain ⟨u0,u1,u2⟩:=a
  exact (body9_0 N (orc T (G N) live [] N 2) (orc T (G N) live [] N 1) q1 a0 u0 u1 u2).trans hc) N a)
theorem lp3_eq (N:Nat) (a0:Ledger) (a:Int×(List Int)):(orc T (G N) live [] N 2) loop3 (K3 N (orc T (G N) live [] N 2)) (St3 a0 a)=lp3 N a0 a:=
 (orc_loop (b:=body3) (live:=[1,3,4]) (by kernel_rfl)).trans (iter_eq (St3 a0) _ _ (fun q1 a=>by
  have hc:=congrFun (congrFun (congrArg (step3 N a0) (funext fun a=>lp9_eq N a0 a)) (fun a=>q1 (St3 a0 a))) a
  obtain ⟨u0,u1⟩:=a
  exact (body3_0 N (orc T (G N) live [] N 2) (orc T (G N) live [] N 1) q1 a0 u0 u1).trans hc) N a)
theorem G_ok (N:Nat):GamOK Tryz.prog (G N):=gam_ok (⟨spec_l07List.snd N,spec_l02Two.snd N,trivial⟩)
theorem snd (N:Nat):Sound Tryz.prog E 40 (sp N):=
 Mir.sound T_OK (G_ok N) mixed Tryz.func40 (c:=code) (by kernel_rfl) (by kernel_rfl) (sp N) (Nat.le_of_ble_eq_true (by kernel_rfl)) live [] (by
  rintro ⟨a0,_⟩ r h
  exact ⟨N,2,((run N _ a0).trans (congrArg (m0 N a0) (funext fun a=>lp3_eq N a0 a))).trans h⟩)
end spec_l09Snapshot
namespace spec_SnapshotBytes
noncomputable def code:Code:=Tryz.f17.body.getD .skip
abbrev live:Live:=[]
noncomputable def G (N:Nat):Ctx E:=gam [(39,[],spec_LedgerOK.sp N),(40,[],spec_l09Snapshot.sp N)]
theorem run (N:Nat) (o0:Orc E R) (a0:Ledger):runF T (G N) live [] Tryz.f17 code (sp N) o0 (a0,())=m N a0:=by kernel_rfl
theorem G_ok (N:Nat):GamOK Tryz.prog (G N):=gam_ok (⟨spec_LedgerOK.snd N,spec_l09Snapshot.snd N,trivial⟩)
theorem snd (N:Nat):Sound Tryz.prog E 17 (sp N):=
 Mir.sound T_OK (G_ok N) mixed Tryz.func17 (c:=code) (by kernel_rfl) (by kernel_rfl) (sp N) (Nat.le_of_ble_eq_true (by kernel_rfl)) live [] (by
  rintro ⟨a0,_⟩ r h
  exact ⟨N,2,((run N _ a0).trans rfl).trans h⟩)
end spec_SnapshotBytes
namespace impl_reader_take_
noncomputable def code:Code:=Tryz.f78.body.getD .skip
abbrev live:Live:=[]
noncomputable def G (N:Nat):Ctx E:=gam []
theorem run (N:Nat) (o0:Orc E R) (a0:reader) (a1:Int):runF T (G N) live [] Tryz.f78 code (sp N) o0 (a0,a1,())=m N a0 a1:=by kernel_rfl
theorem G_ok (N:Nat):GamOK Tryz.prog (G N):=gam_ok (trivial)
theorem snd (N:Nat):Sound Tryz.prog E 78 (sp N):=
 Mir.sound T_OK (G_ok N) mixed Tryz.func78 (c:=code) (by kernel_rfl) (by kernel_rfl) (sp N) (Nat.le_of_ble_eq_true (by kernel_rfl)) live [] (by
  rintro ⟨a0,a1,_⟩ r h
  exact ⟨N,2,((run N _ a0 a1).trans rfl).trans h⟩)
end impl_reader_take_
namespace impl_numberOf
noncomputable def code:Code:=Tryz.f120.body.getD .skip
abbrev live:Live:=[(3,[0,3,6,7])]
noncomputable def G (N:Nat):Ctx E:=gam []
noncomputable def loop3:Code:=codeAt code [1,1,0,1,0]
noncomputable def body3:Code:=codeAt loop3 [0]
noncomputable def K3 (N:Nat) (o0:Orc E R):KT E R:=kAt T (G N) live [] o0 code [1,1,0,1,0] (kfin T Tryz.f120 (sp N))
noncomputable def St3 (a0:ByteArray):(Int×Int×Int)→St E
 | (v1,v2,v3)=>{ ρ:=[(0,.c (.at (.str a0))),(3,.c (.at (.int .i64 v1))),(6,.c (.at (.int .i64 v2))),(7,.c (.at (.int .i64 v3)))],H:=[],nx:=0,n:=19,pin:=[] }
theorem run (N:Nat) (o0:Orc E R) (a0:ByteArray):runF T (G N) live [] Tryz.f120 code (sp N) o0 (a0,())=m0 N a0 (fun a=>o0 loop3 (K3 N o0) (St3 a0 a)):=by kernel_rfl
theorem body3_0 (N:Nat) (o0:Orc E R) (o1:Orc E R) (q1:St E→Option R) (a0:ByteArray) (v1:Int) (v2:Int) (v3:Int):runA T (G N) live [] o1 body3 (St3 a0 (v1,v2,v3)) (kloop [0,3,6,7] q1 (K3 N o0))=step3 N a0 (fun a=>q1 (St3 a0 a)) (v1,v2,v3):=by kernel_rfl
theorem lp3_eq (N:Nat) (a0:ByteArray) (a:Int×Int×Int):(orc T (G N) live [] N 2) loop3 (K3 N (orc T (G N) live [] N 2)) (St3 a0 a)=lp3 N a0 a:=
 (orc_loop (b:=body3) (live:=[0,3,6,7]) (by kernel_rfl)).trans (iter_eq (St3 a0) _ _ (fun q1 a=>by
  have hc:=congrFun (congrFun (rfl:(step3 N a0)=(step3 N a0)) (fun a=>q1 (St3 a0 a))) a
  obtain ⟨u0,u1,u2⟩:=a
  exact (body3_0 N (orc T (G N) live [] N 2) (orc T (G N) live [] N 1) q1 a0 u0 u1 u2).trans hc) N a)
theorem G_ok (N:Nat):GamOK Tryz.prog (G N):=gam_ok (trivial)
theorem snd (N:Nat):Sound Tryz.prog E 120 (sp N):=
 Mir.sound T_OK (G_ok N) mixed Tryz.func120 (c:=code) (by kernel_rfl) (by kernel_rfl) (sp N) (Nat.le_of_ble_eq_true (by kernel_rfl)) live [] (by
  rintro ⟨a0,_⟩ r h
  exact ⟨N,2,((run N _ a0).trans (congrArg (m0 N a0) (funext fun a=>lp3_eq N a0 a))).trans h⟩)
end impl_numberOf
namespace impl_reader_number
noncomputable def code:Code:=Tryz.f77.body.getD .skip
abbrev live:Live:=[]
noncomputable def G (N:Nat):Ctx E:=gam [(78,[],impl_reader_take_.sp N),(120,[],impl_numberOf.sp N)]
theorem run (N:Nat) (o0:Orc E R) (a0:reader) (a1:Int):runF T (G N) live [] Tryz.f77 code (sp N) o0 (a0,a1,())=m N a0 a1:=by kernel_rfl
theorem G_ok (N:Nat):GamOK Tryz.prog (G N):=gam_ok (⟨impl_reader_take_.snd N,impl_numberOf.snd N,trivial⟩)
theorem snd (N:Nat):Sound Tryz.prog E 77 (sp N):=
 Mir.sound T_OK (G_ok N) mixed Tryz.func77 (c:=code) (by kernel_rfl) (by kernel_rfl) (sp N) (Nat.le_of_ble_eq_true (by kernel_rfl)) live [] (by
  rintro ⟨a0,a1,_⟩ r h
  exact ⟨N,2,((run N _ a0 a1).trans rfl).trans h⟩)
end impl_reader_number
namespace impl_reader_counted
noncomputable def code:Code:=Tryz.f79.body.getD .skip
abbrev live:Live:=[]
noncomputable def G (N:Nat):Ctx E:=gam [(77,[],impl_reader_number.sp N),(78,[],impl_reader_take_.sp N)]
theorem run (N:Nat) (o0:Orc E R) (a0:reader):runF T (G N) live [] Tryz.f79 code (sp N) o0 (a0,())=m N a0:=by kernel_rfl
theorem G_ok (N:Nat):GamOK Tryz.prog (G N):=gam_ok (⟨impl_reader_number.snd N,impl_reader_take_.snd N,trivial⟩)
theorem snd (N:Nat):Sound Tryz.prog E 79 (sp N):=
 Mir.sound T_OK (G_ok N) mixed Tryz.func79 (c:=code) (by kernel_rfl) (by kernel_rfl) (sp N) (Nat.le_of_ble_eq_true (by kernel_rfl)) live [] (by
  rintro ⟨a0,_⟩ r h
  exact ⟨N,2,((run N _ a0).trans rfl).trans h⟩)
end impl_reader_counted
namespace impl_reader_session
noncomputable def code:Code:=Tryz.f80.body.getD .skip
abbrev live:Live:=[]
noncomputable def G (N:Nat):Ctx E:=gam [(77,[],impl_reader_number.sp N),(79,[],impl_reader_counted.sp N)]
theorem run (N:Nat) (o0:Orc E R) (a0:reader):runF T (G N) live [] Tryz.f80 code (sp N) o0 (a0,())=m N a0:=by kernel_rfl
theorem G_ok (N:Nat):GamOK Tryz.prog (G N):=gam_ok (⟨impl_reader_number.snd N,impl_reader_counted.snd N,trivial⟩)
theorem snd (N:Nat):Sound Tryz.prog E 80 (sp N):=
 Mir.sound T_OK (G_ok N) mixed Tryz.func80 (c:=code) (by kernel_rfl) (by kernel_rfl) (sp N) (Nat.le_of_ble_eq_true (by kernel_rfl)) live [] (by
  rintro ⟨a0,_⟩ r h
  exact ⟨N,2,((run N _ a0).trans rfl).trans h⟩)
end impl_reader_session
namespace impl_mapOf_1
noncomputable def code:Code:=Tryz.f108.body.getD .skip
abbrev live:Live:=[]
noncomputable def G (N:Nat):Ctx E:=gam [(106,[],impl_bit.sp N)]
theorem run (N:Nat) (o0:Orc E R) (a0:pairOf) (a1:Int):runF T (G N) live [] Tryz.f108 code (sp N) o0 (a0,a1,())=m N a0 a1:=by kernel_rfl
theorem G_ok (N:Nat):GamOK Tryz.prog (G N):=gam_ok (⟨impl_bit.snd N,trivial⟩)
theorem snd (N:Nat):Sound Tryz.prog E 108 (sp N):=
 Mir.sound T_OK (G_ok N) mixed Tryz.func108 (c:=code) (by kernel_rfl) (by kernel_rfl) (sp N) (Nat.le_of_ble_eq_true (by kernel_rfl)) live [] (by
  rintro ⟨a0,a1,_⟩ r h
  exact ⟨N,2,((run N _ a0 a1).trans rfl).trans h⟩)
end impl_mapOf_1
namespace slices_IndexFunc_impl_pairOf_impl_pairOf__impl_mapOf_1
noncomputable def code:Code:=Tryz.f107.body.getD .skip
abbrev live:Live:=[(2,[0,1,7,8])]
noncomputable def G (N:Nat):Ctx E:=gam [(108,[],impl_mapOf_1.sp N)]
noncomputable def loop2:Code:=codeAt code [1,0,1,0]
noncomputable def body2:Code:=codeAt loop2 [0]
noncomputable def K2 (N:Nat) (o0:Orc E R):KT E R:=kAt T (G N) live [] o0 code [1,0,1,0] (kfin T Tryz.f107 (sp N))
noncomputable def St2 (a0:List pairOf) (a1_0:Int):(Int×Int)→St E
 | (v1,v2)=>{ ρ:=[(0,.c (.at (.ro 98 (.st 98) a0))),(1,.clo 108 [.at (.ptr 0 0)]),(7,.c (.at (.int .i64 v1))),(8,.c (.at (.int .i64 v2)))],H:=[(0,.rbx [.int .i64 a1_0])],nx:=1,n:=19,pin:=[] }
theorem run (N:Nat) (o0:Orc E R) (a0:List pairOf) (a1_0:Int):runF T (G N) live [] Tryz.f107 code (sp N) o0 (a0,(a1_0,()),())=m0 N a0 a1_0 (fun a=>o0 loop2 (K2 N o0) (St2 a0 a1_0 a)):=by kernel_rfl
theorem body2_0 (N:Nat) (o0:Orc E R) (o1:Orc E R) (q1:St E→Option R) (a0:List pairOf) (a1_0:Int) (v1:Int) (v2:Int):runA T (G N) live [] o1 body2 (St2 a0 a1_0 (v1,v2)) (kloop [0,1,7,8] q1 (K2 N o0))=step2 N a0 a1_0 (fun a=>q1 (St2 a0 a1_0 a)) (v1,v2):=by kernel_rfl
theorem lp2_eq (N:Nat) (a0:List pairOf) (a1_0:Int) (a:Int×Int):(orc T (G N) live [] N 2) loop2 (K2 N (orc T (G N) live [] N 2)) (St2 a0 a1_0 a)=lp2 N a0 a1_0 a:=
 (orc_loop (b:=body2) (live:=[0,1,7,8]) (by kernel_rfl)).trans (iter_eq (St2 a0 a1_0) _ _ (fun q1 a=>by
  have hc:=congrFun (congrFun (rfl:(step2 N a0 a1_0)=(step2 N a0 a1_0)) (fun a=>q1 (St2 a0 a1_0 a))) a
  obtain ⟨u0,u1⟩:=a
  exact (body2_0 N (orc T (G N) live [] N 2) (orc T (G N) live [] N 1) q1 a0 a1_0 u0 u1).trans hc) N a)
theorem G_ok (N:Nat):GamOK Tryz.prog (G N):=gam_ok (⟨impl_mapOf_1.snd N,trivial⟩)
theorem snd (N:Nat):Sound Tryz.prog E 107 (sp N):=
 Mir.sound T_OK (G_ok N) mixed Tryz.func107 (c:=code) (by kernel_rfl) (by kernel_rfl) (sp N) (Nat.le_of_ble_eq_true (by kernel_rfl)) live [] (by
  rintro ⟨a0,⟨a1_0,_⟩,_⟩ r h
  exact ⟨N,2,((run N _ a0 a1_0).trans (congrArg (m0 N a0 a1_0) (funext fun a=>lp2_eq N a0 a1_0 a))).trans h⟩)
end slices_IndexFunc_impl_pairOf_impl_pairOf__impl_mapOf_1
namespace impl_mapOf
noncomputable def code:Code:=Tryz.f69.body.getD .skip
abbrev live:Live:=[(6,[0,3,4])]
noncomputable def G (N:Nat) (slf:(List pairOf)→Int→Option R):Ctx E:=gam [(106,[],impl_bit.sp N),(107,[108],slices_IndexFunc_impl_pairOf_impl_pairOf__impl_mapOf_1.sp N),(69,[],spf slf)]
noncomputable def loop6:Code:=codeAt code [1,1,0,0]
noncomputable def body6:Code:=codeAt loop6 [0]
noncomputable def K6 (N:Nat) (slf:(List pairOf)→Int→Option R) (o0:Orc E R):KT E R:=kAt T (G N slf) live [] o0 code [1,1,0,0] (kfin T Tryz.f69 (spf (mb N slf)))
noncomputable def St6 (slf:(List pairOf)→Int→Option R) (a0:List pairOf) (a1:Int):(Int×ByteArray×ByteArray×Int)→St E
 | (v1,v2,v3,v4)=>{ ρ:=[(0,.c (.at (.ro 98 (.st 98) a0))),(3,.c (.at (.ptr 0 0))),(4,.c (.at (.ptr 1 0)))],H:=[(0,.box 3 [.int .i64 v1]),(1,.box 36 [.str v2,.str v3,.int .i64 v4,.nils])],nx:=2,n:=58,pin:=[] }
theorem run (N:Nat) (o0:Orc E R) (slf:(List pairOf)→Int→Option R) (a0:List pairOf) (a1:Int):runF T (G N slf) live [] Tryz.f69 code (spf (mb N slf)) o0 (a0,a1,())=m0 N slf a0 a1 (fun a=>o0 loop6 (K6 N slf o0) (St6 slf a0 a1 a)):=by kernel_rfl
theorem body6_0 (N:Nat) (o0:Orc E R) (o1:Orc E R) (q1:St E→Option R) (slf:(List pairOf)→Int→Option R) (a0:List pairOf) (a1:Int) (v1:Int) (v2:ByteArray) (v3:ByteArray) (v4:Int):runA T (G N slf) live [] o1 body6 (St6 slf a0 a1 (v1,v2,v3,v4)) (kloop [0,3,4] q1 (K6 N slf o0))=step6 N slf a0 a1 (fun a=>q1 (St6 slf a0 a1 a)) (v1,v2,v3,v4):=by kernel_rfl
theorem lp6_eq (N:Nat) (slf:(List pairOf)→Int→Option R) (a0:List pairOf) (a1:Int) (a:Int×ByteArray×ByteArray×Int):(orc T (G N slf) live [] N 2) loop6 (K6 N slf (orc T (G N slf) live [] N 2)) (St6 slf a0 a1 a)=lp6 N slf a0 a1 a:=
 (orc_loop (b:=body6) (live:=[0,3,4]) (by kernel_rfl)).trans (iter_eq (St6 slf a0 a1) _ _ (fun q1 a=>by
  have hc:=congrFun (congrFun (rfl:(step6 N slf a0 a1)=(step6 N slf a0 a1)) (fun a=>q1 (St6 slf a0 a1 a))) a
  obtain ⟨u0,u1,u2,u3⟩:=a
  exact (body6_0 N (orc T (G N slf) live [] N 2) (orc T (G N slf) live [] N 1) q1 slf a0 a1 u0 u1 u2 u3).trans hc) N a)
theorem G_ok (N:Nat) (slf:(List pairOf)→Int→Option R) (hs:Sound Tryz.prog E 69 (spf slf)):GamOK Tryz.prog (G N slf):=gam_ok (⟨impl_bit.snd N,slices_IndexFunc_impl_pairOf_impl_pairOf__impl_mapOf_1.snd N,hs,trivial⟩)
theorem sndF (N:Nat):∀n,Sound Tryz.prog E 69 (spf (mF N n))
 | 0=>sound_none Tryz.func69 (c:=code) (by kernel_rfl) (by kernel_rfl) (spf (mF N 0)) (fun _=>rfl)
 | n+1=>by
  have hr:=fun (a0:List pairOf) (a1:Int)=>(run N (orc T (G N (mF N n)) live [] N 2) (mF N n) a0 a1).trans (congrArg (m0 N (mF N n) a0 a1) (funext fun a=>lp6_eq N (mF N n) a0 a1 a))
  exact Mir.sound T_OK (G_ok N (mF N n) (sndF N n)) mixed Tryz.func69 (c:=code) (by kernel_rfl) (by kernel_rfl) (spf (mF N (n+1))) (Nat.le_of_ble_eq_true (by kernel_rfl)) live [] (by
   rintro ⟨a0,a1,_⟩ r h
   exact ⟨N,2,(hr a0 a1).trans h⟩)
theorem snd (N:Nat):Sound Tryz.prog E 69 (sp N):=sndF N N
end impl_mapOf
namespace impl_books_ledger
noncomputable def code:Code:=Tryz.f37.body.getD .skip
abbrev live:Live:=[]
noncomputable def G (N:Nat):Ctx E:=gam [(69,[],impl_mapOf.sp N)]
theorem run (N:Nat) (o0:Orc E R) (a0:books):runF T (G N) live [] Tryz.f37 code (sp N) o0 (a0,())=m N a0:=by kernel_rfl
theorem G_ok (N:Nat):GamOK Tryz.prog (G N):=gam_ok (⟨impl_mapOf.snd N,trivial⟩)
theorem snd (N:Nat):Sound Tryz.prog E 37 (sp N):=
 Mir.sound T_OK (G_ok N) mixed Tryz.func37 (c:=code) (by kernel_rfl) (by kernel_rfl) (sp N) (Nat.le_of_ble_eq_true (by kernel_rfl)) live [] (by
  rintro ⟨a0,_⟩ r h
  exact ⟨N,2,((run N _ a0).trans rfl).trans h⟩)
end impl_books_ledger
namespace impl_readSnapshot
noncomputable def code:Code:=Tryz.f41.body.getD .skip
abbrev live:Live:=[(17,[2,4,5,7]),(13,[2,4,5,55,56]),(7,[2,4,5,31,32]),(3,[2,4,5,15,16])]
noncomputable def G (N:Nat):Ctx E:=gam [(77,[],impl_reader_number.sp N),(78,[],impl_reader_take_.sp N),(79,[],impl_reader_counted.sp N),(70,[],impl_hash.sp N),(80,[],impl_reader_session.sp N),(37,[],impl_books_ledger.sp N),(13,[],impl_LedgerOK.sp N)]
noncomputable def loop3:Code:=codeAt code [1,1,0,1,0]
noncomputable def body3:Code:=codeAt loop3 [0]
noncomputable def loop7:Code:=codeAt code [1,1,1,0,1,0]
noncomputable def body7:Code:=codeAt loop7 [0]
noncomputable def loop13:Code:=codeAt code [1,1,1,1,0,1,0]
noncomputable def body13:Code:=codeAt loop13 [0]
noncomputable def loop17:Code:=codeAt code [1,1,1,1,1,0,1,0]
noncomputable def body17:Code:=codeAt loop17 [0]
noncomputable def K3 (N:Nat) (o0:Orc E R):KT E R:=kAt T (G N) live [] o0 code [1,1,0,1,0] (kfin T Tryz.f41 (sp N))
noncomputable def St3 (a0:ByteArray):A3→St E
 | .s0 v0 v1 v2 v3 v4 v5 v6=>{ ρ:=[(2,.c (.at (.ptr 0 0))),(4,.c (.at (.ptr 1 0))),(5,.c (.at (.ptr 2 0))),(15,.c (.at (.int .i64 v0))),(16,.c (.at (.int .i64 v1)))],H:=[(0,.box 39 [.nils,.str v2,.str v3,.int .i64 v4,.nils,.nils]),(1,.box 117 [.str v5,.bool v6]),(2,.box 93 [.nils,.nils,.nils])],nx:=3,n:=115,pin:=[] }
 | .s1 v0 v1 v2 v3 v4 v5 v6 v7=>{ ρ:=[(2,.c (.at (.ptr 0 0))),(4,.c (.at (.ptr 1 0))),(5,.c (.at (.ptr 2 0))),(15,.c (.at (.int .i64 v0))),(16,.c (.at (.int .i64 v1)))],H:=[(0,.box 39 [.nils,.str v2,.str v3,.int .i64 v4,.nils,.nils]),(1,.box 117 [.str v5,.bool v6]),(2,.box 93 [.own 3,.nils,.nils]),(3,.row 9 .str v7 false)],nx:=4,n:=115,pin:=[] }
noncomputable def K7 (N:Nat) (o0:Orc E R):KT E R:=kAt T (G N) live [] o0 code [1,1,1,0,1,0] (kfin T Tryz.f41 (sp N))
noncomputable def St7 (a0:ByteArray):A7→St E
 | .s0 v0 v1 v2 v3 v4 v5 v6=>{ ρ:=[(2,.c (.at (.ptr 0 0))),(4,.c (.at (.ptr 1 0))),(5,.c (.at (.ptr 2 0))),(31,.c (.at (.int .i64 v0))),(32,.c (.at (.int .i64 v1)))],H:=[(0,.box 39 [.nils,.str v2,.str v3,.int .i64 v4,.nils,.nils]),(1,.box 117 [.str v5,.bool v6]),(2,.box 93 [.nils,.nils,.nils])],nx:=3,n:=115,pin:=[] }
 | .s1 v0 v1 v2 v3 v4 v5 v6 v7=>{ ρ:=[(2,.c (.at (.ptr 0 0))),(4,.c (.at (.ptr 1 0))),(5,.c (.at (.ptr 2 0))),(31,.c (.at (.int .i64 v0))),(32,.c (.at (.int .i64 v1)))],H:=[(0,.box 39 [.nils,.str v2,.str v3,.int .i64 v4,.nils,.nils]),(1,.box 117 [.str v5,.bool v6]),(2,.box 93 [.own 3,.nils,.nils]),(3,.row 9 .str v7 false)],nx:=4,n:=115,pin:=[] }
 | .s2 v0 v1 v2 v3 v4 v5 v6 v7=>{ ρ:=[(2,.c (.at (.ptr 0 0))),(4,.c (.at (.ptr 1 0))),(5,.c (.at (.ptr 2 0))),(31,.c (.at (.int .i64 v0))),(32,.c (.at (.int .i64 v1)))],H:=[(0,.box 39 [.nils,.str v2,.str v3,.int .i64 v4,.nils,.nils]),(1,.box 117 [.str v5,.bool v6]),(2,.box 93 [.nils,.own 3,.nils]),(3,.row 98 (.st 98) v7 false)],nx:=4,n:=115,pin:=[] }
 | .s3 v0 v1 v2 v3 v4 v5 v6 v7 v8=>{ ρ:=[(2,.c (.at (.ptr 0 0))),(4,.c (.at (.ptr 1 0))),(5,.c (.at (.ptr 2 0))),(31,.c (.at (.int .i64 v0))),(32,.c (.at (.int .i64 v1)))],H:=[(0,.box 39 [.nils,.str v2,.str v3,.int .i64 v4,.nils,.nils]),(1,.box 117 [.str v5,.bool v6]),(2,.box 93 [.own 3,.own 4,.nils]),(3,.row 9 .str v7 false),(4,.row 98 (.st 98) v8 false)],nx:=5,n:=115,pin:=[] }
noncomputable def K13 (N:Nat) (o0:Orc E R):KT E R:=kAt T (G N) live [] o0 code [1,1,1,1,0,1,0] (kfin T Tryz.f41 (sp N))
noncomputable def St13 (a0:ByteArray):A13→St E
 | .s0 v0 v1 v2 v3 v4 v5 v6=>{ ρ:=[(2,.c (.at (.ptr 0 0))),(4,.c (.at (.ptr 1 0))),(5,.c (.at (.ptr 2 0))),(55,.c (.at (.int .i64 v0))),(56,.c (.at (.int .i64 v1)))],H:=[(0,.box 39 [.nils,.str v2,.str v3,.int .i64 v4,.nils,.nils]),(1,.box 117 [.str v5,.bool v6]),(2,.box 93 [.nils,.nils,.nils])],nx:=3,n:=115,pin:=[] }
 | .s1 v0 v1 v2 v3 v4 v5 v6 v7=>{ ρ:=[(2,.c (.at (.ptr 0 0))),(4,.c (.at (.ptr 1 0))),(5,.c (.at (.ptr 2 0))),(55,.c (.at (.int .i64 v0))),(56,.c (.at (.int .i64 v1)))],H:=[(0,.box 39 [.nils,.str v2,.str v3,.int .i64 v4,.nils,.nils]),(1,.box 117 [.str v5,.bool v6]),(2,.box 93 [.own 3,.nils,.nils]),(3,.row 9 .str v7 false)],nx:=4,n:=115,pin:=[] }
 | .s2 v0 v1 v2 v3 v4 v5 v6 v7=>{ ρ:=[(2,.c (.at (.ptr 0 0))),(4,.c (.at (.ptr 1 0))),(5,.c (.at (.ptr 2 0))),(55,.c (.at (.int .i64 v0))),(56,.c (.at (.int .i64 v1)))],H:=[(0,.box 39 [.nils,.str v2,.str v3,.int .i64 v4,.nils,.nils]),(1,.box 117 [.str v5,.bool v6]),(2,.box 93 [.nils,.own 3,.nils]),(3,.row 98 (.st 98) v7 false)],nx:=4,n:=115,pin:=[] }
 | .s3 v0 v1 v2 v3 v4 v5 v6 v7=>{ ρ:=[(2,.c (.at (.ptr 0 0))),(4,.c (.at (.ptr 1 0))),(5,.c (.at (.ptr 2 0))),(55,.c (.at (.int .i64 v0))),(56,.c (.at (.int .i64 v1)))],H:=[(0,.box 39 [.nils,.str v2,.str v3,.int .i64 v4,.nils,.nils]),(1,.box 117 [.str v5,.bool v6]),(2,.box 93 [.nils,.nils,.own 3]),(3,.row 72 (.st 72) v7 false)],nx:=4,n:=115,pin:=[] }
 | .s4 v0 v1 v2 v3 v4 v5 v6 v7 v8=>{ ρ:=[(2,.c (.at (.ptr 0 0))),(4,.c (.at (.ptr 1 0))),(5,.c (.at (.ptr 2 0))),(55,.c (.at (.int .i64 v0))),(56,.c (.at (.int .i64 v1)))],H:=[(0,.box 39 [.nils,.str v2,.str v3,.int .i64 v4,.nils,.nils]),(1,.box 117 [.str v5,.bool v6]),(2,.box 93 [.own 3,.own 4,.nils]),(3,.row 9 .str v7 false),(4,.row 98 (.st 98) v8 false)],nx:=5,n:=115,pin:=[] }
 | .s5 v0 v1 v2 v3 v4 v5 v6 v7 v8=>{ ρ:=[(2,.c (.at (.ptr 0 0))),(4,.c (.at (.ptr 1 0))),(5,.c (.at (.ptr 2 0))),(55,.c (.at (.int .i64 v0))),(56,.c (.at (.int .i64 v1)))],H:=[(0,.box 39 [.nils,.str v2,.str v3,.int .i64 v4,.nils,.nils]),(1,.box 117 [.str v5,.bool v6]),(2,.box 93 [.own 3,.nils,.own 4]),(3,.row 9 .str v7 false),(4,.row 72 (.st 72) v8 false)],nx:=5,n:=115,pin:=[] }
 | .s6 v0 v1 v2 v3 v4 v5 v6 v7 v8=>{ ρ:=[(2,.c (.at (.ptr 0 0))),(4,.c (.at (.ptr 1 0))),(5,.c (.at (.ptr 2 0))),(55,.c (.at (.int .i64 v0))),(56,.c (.at (.int .i64 v1)))],H:=[(0,.box 39 [.nils,.str v2,.str v3,.int .i64 v4,.nils,.nils]),(1,.box 117 [.str v5,.bool v6]),(2,.box 93 [.nils,.own 3,.own 4]),(3,.row 98 (.st 98) v7 false),(4,.row 72 (.st 72) v8 false)],nx:=5,n:=115,pin:=[] }
 | .s7 v0 v1 v2 v3 v4 v5 v6 v7 v8 v9=>{ ρ:=[(2,.c (.at (.ptr 0 0))),(4,.c (.at (.ptr 1 0))),(5,.c (.at (.ptr 2 0))),(55,.c (.at (.int .i64 v0))),(56,.c (.at (.int .i64 v1)))],H:=[(0,.box 39 [.nils,.str v2,.str v3,.int .i64 v4,.nils,.nils]),(1,.box 117 [.str v5,.bool v6]),(2,.box 93 [.own 3,.own 4,.own 5]),(3,.row 9 .str v7 false),(4,.row 98 (.st 98) v8 false),(5,.row 72 (.st 72) v9 false)],nx:=6,n:=115,pin:=[] }
noncomputable def K17 (N:Nat) (o0:Orc E R):KT E R:=kAt T (G N) live [] o0 code [1,1,1,1,1,0,1,0] (kfin T Tryz.f41 (sp N))
noncomputable def St17 (a0:ByteArray):A17→St E
 | .s0 v0 v1 v2 v3 v4 v5=>{ ρ:=[(2,.c (.at (.ptr 0 0))),(4,.c (.at (.ptr 1 0))),(5,.c (.at (.ptr 2 0))),(7,.c (.at (.int .i64 v0)))],H:=[(0,.box 39 [.nils,.str v1,.str v2,.int .i64 v3,.nils,.nils]),(1,.box 117 [.str v4,.bool v5]),(2,.box 93 [.nils,.nils,.nils])],nx:=3,n:=115,pin:=[] }
 | .s1 v0 v1 v2 v3 v4 v5 v6=>{ ρ:=[(2,.c (.at (.ptr 0 0))),(4,.c (.at (.ptr 1 0))),(5,.c (.at (.ptr 2 0))),(7,.c (.at (.int .i64 v0)))],H:=[(0,.box 39 [.nils,.str v1,.str v2,.int .i64 v3,.nils,.nils]),(1,.box 117 [.str v4,.bool v5]),(2,.box 93 [.own 3,.nils,.nils]),(3,.row 9 .str v6 false)],nx:=4,n:=115,pin:=[] }
 | .s2 v0 v1 v2 v3 v4 v5 v6=>{ ρ:=[(2,.c (.at (.ptr 0 0))),(4,.c (.at (.ptr 1 0))),(5,.c (.at (.ptr 2 0))),(7,.c (.at (.int .i64 v0)))],H:=[(0,.box 39 [.nils,.str v1,.str v2,.int .i64 v3,.nils,.nils]),(1,.box 117 [.str v4,.bool v5]),(2,.box 93 [.nils,.own 3,.nils]),(3,.row 98 (.st 98) v6 false)],nx:=4,n:=115,pin:=[] }
 | .s3 v0 v1 v2 v3 v4 v5 v6=>{ ρ:=[(2,.c (.at (.ptr 0 0))),(4,.c (.at (.ptr 1 0))),(5,.c (.at (.ptr 2 0))),(7,.c (.at (.int .i64 v0)))],H:=[(0,.box 39 [.nils,.str v1,.str v2,.int .i64 v3,.nils,.nils]),(1,.box 117 [.str v4,.bool v5]),(2,.box 93 [.nils,.nils,.own 3]),(3,.row 72 (.st 72) v6 false)],nx:=4,n:=115,pin:=[] }
 | .s4 v0 v1 v2 v3 v4 v5 v6 v7=>{ ρ:=[(2,.c (.at (.ptr 0 0))),(4,.c (.at (.ptr 1 0))),(5,.c (.at (.ptr 2 0))),(7,.c (.at (.int .i64 v0)))],H:=[(0,.box 39 [.nils,.str v1,.str v2,.int .i64 v3,.nils,.nils]),(1,.box 117 [.str v4,.bool v5]),(2,.box 93 [.own 3,.own 4,.nils]),(3,.row 9 .str v6 false),(4,.row 98 (.st 98) v7 false)],nx:=5,n:=115,pin:=[] }
 | .s5 v0 v1 v2 v3 v4 v5 v6 v7=>{ ρ:=[(2,.c (.at (.ptr 0 0))),(4,.c (.at (.ptr 1 0))),(5,.c (.at (.ptr 2 0))),(7,.c (.at (.int .i64 v0)))],H:=[(0,.box 39 [.nils,.str v1,.str v2,.int .i64 v3,.nils,.nils]),(1,.box 117 [.str v4,.bool v5]),(2,.box 93 [.own 3,.nils,.own 4]),(3,.row 9 .str v6 false),(4,.row 72 (.st 72) v7 false)],nx:=5,n:=115,pin:=[] }
 | .s6 v0 v1 v2 v3 v4 v5 v6 v7=>{ ρ:=[(2,.c (.at (.ptr 0 0))),(4,.c (.at (.ptr 1 0))),(5,.c (.at (.ptr 2 0))),(7,.c (.at (.int .i64 v0)))],H:=[(0,.box 39 [.nils,.str v1,.str v2,.int .i64 v3,.nils,.nils]),(1,.box 117 [.str v4,.bool v5]),(2,.box 93 [.nils,.own 3,.own 4]),(3,.row 98 (.st 98) v6 false),(4,.row 72 (.st 72) v7 false)],nx:=5,n:=115,pin:=[] }
 | .s7 v0 v1 v2 v3 v4 v5 v6 v7 v8=>{ ρ:=[(2,.c (.at (.ptr 0 0))),(4,.c (.at (.ptr 1 0))),(5,.c (.at (.ptr 2 0))),(7,.c (.at (.int .i64 v0)))],H:=[(0,.box 39 [.nils,.str v1,.str v2,.int .i64 v3,.nils,.nils]),(1,.box 117 [.str v4,.bool v5]),(2,.box 93 [.own 3,.own 4,.own 5]),(3,.row 9 .str v6 false),(4,.row 98 (.st 98) v7 false),(5,.row 72 (.st 72) v8 false)],nx:=6,n:=115,pin:=[] }
theorem run (N:Nat) (o0:Orc E R) (a0:ByteArray):runF T (G N) live [] Tryz.f41 code (sp N) o0 (a0,())=m0 N a0 (fun a=>o0 loop3 (K3 N o0) (St3 a0 a)):=by kernel_rfl
theorem body3_0 (N:Nat) (o0:Orc E R) (o1:Orc E R) (q1:St E→Option R) (a0:ByteArray) (v0:Int) (v1:Int) (v2:ByteArray) (v3:ByteArray) (v4:Int) (v5:ByteArray) (v6:Bool):runA T (G N) live [] o1 body3 (St3 a0 (.s0 v0 v1 v2 v3 v4 v5 v6)) (kloop [2,4,5,15,16] q1 (K3 N o0))=step3 N a0 (fun a=>o0 loop7 (K7 N o0) (St7 a0 a)) (fun a=>q1 (St3 a0 a)) (.s0 v0 v1 v2 v3 v4 v5 v6):=by kernel_rfl
theorem body3_1 (N:Nat) (o0:Orc E R) (o1:Orc E R) (q1:St E→Option R) (a0:ByteArray) (v0:Int) (v1:Int) (v2:ByteArray) (v3:ByteArray) (v4:Int) (v5:ByteArray) (v6:Bool) (v7:List ByteArray):runA T (G N) live [] o1 body3 (St3 a0 (.s1 v0 v1 v2 v3 v4 v5 v6 v7)) (kloop [2,4,5,15,16] q1 (K3 N o0))=step3 N a0 (fun a=>o0 loop7 (K7 N o0) (St7 a0 a)) (fun a=>q1 (St3 a0 a)) (.s1 v0 v1 v2 v3 v4 v5 v6 v7):=by kernel_rfl
theorem body7_0 (N:Nat) (o0:Orc E R) (o1:Orc E R) (q1:St E→Option R) (a0:ByteArray) (v0:Int) (v1:Int) (v2:ByteArray) (v3:ByteArray) (v4:Int) (v5:ByteArray) (v6:Bool):runA T (G N) live [] o1 body7 (St7 a0 (.s0 v0 v1 v2 v3 v4 v5 v6)) (kloop [2,4,5,31,32] q1 (K7 N o0))=step7 N a0 (fun a=>o0 loop13 (K13 N o0) (St13 a0 a)) (fun a=>q1 (St7 a0 a)) (.s0 v0 v1 v2 v3 v4 v5 v6):=by kernel_rfl
theorem body7_1 (N:Nat) (o0:Orc E R) (o1:Orc E R) (q1:St E→Option R) (a0:ByteArray) (v0:Int) (v1:Int) (v2:ByteArray) (v3:ByteArray) (v4:Int) (v5:ByteArray) (v6:Bool) (v7:List ByteArray):runA T (G N) live [] o1 body7 (St7 a0 (.s1 v0 v1 v2 v3 v4 v5 v6 v7)) (kloop [2,4,5,31,32] q1 (K7 N o0))=step7 N a0 (fun a=>o0 loop13 (K13 N o0) (St13 a0 a)) (fun a=>q1 (St7 a0 a)) (.s1 v0 v1 v2 v3 v4 v5 v6 v7):=by kernel_rfl
theorem body7_2 (N:Nat) (o0:Orc E R) (o1:Orc E R) (q1:St E→Option R) (a0:ByteArray) (v0:Int) (v1:Int) (v2:ByteArray) (v3:ByteArray) (v4:Int) (v5:ByteArray) (v6:Bool) (v7:List pairOf):runA T (G N) live [] o1 body7 (St7 a0 (.s2 v0 v1 v2 v3 v4 v5 v6 v7)) (kloop [2,4,5,31,32] q1 (K7 N o0))=step7 N a0 (fun a=>o0 loop13 (K13 N o0) (St13 a0 a)) (fun a=>q1 (St7 a0 a)) (.s2 v0 v1 v2 v3 v4 v5 v6 v7):=by kernel_rfl
theorem body7_3 (N:Nat) (o0:Orc E R) (o1:Orc E R) (q1:St E→Option R) (a0:ByteArray) (v0:Int) (v1:Int) (v2:ByteArray) (v3:ByteArray) (v4:Int) (v5:ByteArray) (v6:Bool) (v7:List ByteArray) (v8:List pairOf):runA T (G N) live [] o1 body7 (St7 a0 (.s3 v0 v1 v2 v3 v4 v5 v6 v7 v8)) (kloop [2,4,5,31,32] q1 (K7 N o0))=step7 N a0 (fun a=>o0 loop13 (K13 N o0) (St13 a0 a)) (fun a=>q1 (St7 a0 a)) (.s3 v0 v1 v2 v3 v4 v5 v6 v7 v8):=by kernel_rfl
theorem body13_0 (N:Nat) (o0:Orc E R) (o1:Orc E R) (q1:St E→Option R) (a0:ByteArray) (v0:Int) (v1:Int) (v2:ByteArray) (v3:ByteArray) (v4:Int) (v5:ByteArray) (v6:Bool):runA T (G N) live [] o1 body13 (St13 a0 (.s0 v0 v1 v2 v3 v4 v5 v6)) (kloop [2,4,5,55,56] q1 (K13 N o0))=step13 N a0 (fun a=>o0 loop17 (K17 N o0) (St17 a0 a)) (fun a=>q1 (St13 a0 a)) (.s0 v0 v1 v2 v3 v4 v5 v6):=by kernel_rfl
theorem body13_1 (N:Nat) (o0:Orc E R) (o1:Orc E R) (q1:St E→Option R) (a0:ByteArray) (v0:Int) (v1:Int) (v2:ByteArray) (v3:ByteArray) (v4:Int) (v5:ByteArray) (v6:Bool) (v7:List ByteArray):runA T (G N) live [] o1 body13 (St13 a0 (.s1 v0 v1 v2 v3 v4 v5 v6 v7)) (kloop [2,4,5,55,56] q1 (K13 N o0))=step13 N a0 (fun a=>o0 loop17 (K17 N o0) (St17 a0 a)) (fun a=>q1 (St13 a0 a)) (.s1 v0 v1 v2 v3 v4 v5 v6 v7):=by kernel_rfl
theorem body13_2 (N:Nat) (o0:Orc E R) (o1:Orc E R) (q1:St E→Option R) (a0:ByteArray) (v0:Int) (v1:Int) (v2:ByteArray) (v3:ByteArray) (v4:Int) (v5:ByteArray) (v6:Bool) (v7:List pairOf):runA T (G N) live [] o1 body13 (St13 a0 (.s2 v0 v1 v2 v3 v4 v5 v6 v7)) (kloop [2,4,5,55,56] q1 (K13 N o0))=step13 N a0 (fun a=>o0 loop17 (K17 N o0) (St17 a0 a)) (fun a=>q1 (St13 a0 a)) (.s2 v0 v1 v2 v3 v4 v5 v6 v7):=by kernel_rfl
theorem body13_3 (N:Nat) (o0:Orc E R) (o1:Orc E R) (q1:St E→Option R) (a0:ByteArray) (v0:Int) (v1:Int) (v2:ByteArray) (v3:ByteArray) (v4:Int) (v5:ByteArray) (v6:Bool) (v7:List Session):runA T (G N) live [] o1 body13 (St13 a0 (.s3 v0 v1 v2 v3 v4 v5 v6 v7)) (kloop [2,4,5,55,56] q1 (K13 N o0))=step13 N a0 (fun a=>o0 loop17 (K17 N o0) (St17 a0 a)) (fun a=>q1 (St13 a0 a)) (.s3 v0 v1 v2 v3 v4 v5 v6 v7):=by kernel_rfl
theorem body13_4 (N:Nat) (o0:Orc E R) (o1:Orc E R) (q1:St E→Option R) (a0:ByteArray) (v0:Int) (v1:Int) (v2:ByteArray) (v3:ByteArray) (v4:Int) (v5:ByteArray) (v6:Bool) (v7:List ByteArray) (v8:List pairOf):runA T (G N) live [] o1 body13 (St13 a0 (.s4 v0 v1 v2 v3 v4 v5 v6 v7 v8)) (kloop [2,4,5,55,56] q1 (K13 N o0))=step13 N a0 (fun a=>o0 loop17 (K17 N o0) (St17 a0 a)) (fun a=>q1 (St13 a0 a)) (.s4 v0 v1 v2 v3 v4 v5 v6 v7 v8):=by kernel_rfl
theorem body13_5 (N:Nat) (o0:Orc E R) (o1:Orc E R) (q1:St E→Option R) (a0:ByteArray) (v0:Int) (v1:Int) (v2:ByteArray) (v3:ByteArray) (v4:Int) (v5:ByteArray) (v6:Bool) (v7:List ByteArray) (v8:List Session):runA T (G N) live [] o1 body13 (St13 a0 (.s5 v0 v1 v2 v3 v4 v5 v6 v7 v8)) (kloop [2,4,5,55,56] q1 (K13 N o0))=step13 N a0 (fun a=>o0 loop17 (K17 N o0) (St17 a0 a)) (fun a=>q1 (St13 a0 a)) (.s5 v0 v1 v2 v3 v4 v5 v6 v7 v8):=by kernel_rfl
theorem body13_6 (N:Nat) (o0:Orc E R) (o1:Orc E R) (q1:St E→Option R) (a0:ByteArray) (v0:Int) (v1:Int) (v2:ByteArray) (v3:ByteArray) (v4:Int) (v5:ByteArray) (v6:Bool) (v7:List pairOf) (v8:List Session):runA T (G N) live [] o1 body13 (St13 a0 (.s6 v0 v1 v2 v3 v4 v5 v6 v7 v8)) (kloop [2,4,5,55,56] q1 (K13 N o0))=step13 N a0 (fun a=>o0 loop17 (K17 N o0) (St17 a0 a)) (fun a=>q1 (St13 a0 a)) (.s6 v0 v1 v2 v3 v4 v5 v6 v7 v8):=by kernel_rfl
theorem body13_7 (N:Nat) (o0:Orc E R) (o1:Orc E R) (q1:St E→Option R) (a0:ByteArray) (v0:Int) (v1:Int) (v2:ByteArray) (v3:ByteArray) (v4:Int) (v5:ByteArray) (v6:Bool) (v7:List ByteArray) (v8:List pairOf) (v9:List Session):runA T (G N) live [] o1 body13 (St13 a0 (.s7 v0 v1 v2 v3 v4 v5 v6 v7 v8 v9)) (kloop [2,4,5,55,56] q1 (K13 N o0))=step13 N a0 (fun a=>o0 loop17 (K17 N o0) (St17 a0 a)) (fun a=>q1 (St13 a0 a)) (.s7 v0 v1 v2 v3 v4 v5 v6 v7 v8 v9):=by kernel_rfl
theorem body17_0 (N:Nat) (o0:Orc E R) (o1:Orc E R) (q1:St E→Option R) (a0:ByteArray) (v0:Int) (v1:ByteArray) (v2:ByteArray) (v3:Int) (v4:ByteArray) (v5:Bool):runA T (G N) live [] o1 body17 (St17 a0 (.s0 v0 v1 v2 v3 v4 v5)) (kloop [2,4,5,7] q1 (K17 N o0))=step17 N a0 (fun a=>q1 (St17 a0 a)) (.s0 v0 v1 v2 v3 v4 v5):=by kernel_rfl
theorem body17_1 (N:Nat) (o0:Orc E R) (o1:Orc E R) (q1:St E→Option R) (a0:ByteArray) (v0:Int) (v1:ByteArray) (v2:ByteArray) (v3:Int) (v4:ByteArray) (v5:Bool) (v6:List ByteArray):runA T (G N) live [] o1 body17 (St17 a0 (.s1 v0 v1 v2 v3 v4 v5 v6)) (kloop [2,4,5,7] q1 (K17 N o0))=step17 N a0 (fun a=>q1 (St17 a0 a)) (.s1 v0 v1 v2 v3 v4 v5 v6):=by kernel_rfl
theorem body17_2 (N:Nat) (o0:Orc E R) (o1:Orc E R) (q1:St E→Option R) (a0:ByteArray) (v0:Int) (v1:ByteArray) (v2:ByteArray) (v3:Int) (v4:ByteArray) (v5:Bool) (v6:List pairOf):runA T (G N) live [] o1 body17 (St17 a0 (.s2 v0 v1 v2 v3 v4 v5 v6)) (kloop [2,4,5,7] q1 (K17 N o0))=step17 N a0 (fun a=>q1 (St17 a0 a)) (.s2 v0 v1 v2 v3 v4 v5 v6):=by kernel_rfl
theorem body17_3 (N:Nat) (o0:Orc E R) (o1:Orc E R) (q1:St E→Option R) (a0:ByteArray) (v0:Int) (v1:ByteArray) (v2:ByteArray) (v3:Int) (v4:ByteArray) (v5:Bool) (v6:List Session):runA T (G N) live [] o1 body17 (St17 a0 (.s3 v0 v1 v2 v3 v4 v5 v6)) (kloop [2,4,5,7] q1 (K17 N o0))=step17 N a0 (fun a=>q1 (St17 a0 a)) (.s3 v0 v1 v2 v3 v4 v5 v6):=by kernel_rfl
theorem body17_4 (N:Nat) (o0:Orc E R) (o1:Orc E R) (q1:St E→Option R) (a0:ByteArray) (v0:Int) (v1:ByteArray) (v2:ByteArray) (v3:Int) (v4:ByteArray) (v5:Bool) (v6:List ByteArray) (v7:List pairOf):runA T (G N) live [] o1 body17 (St17 a0 (.s4 v0 v1 v2 v3 v4 v5 v6 v7)) (kloop [2,4,5,7] q1 (K17 N o0))=step17 N a0 (fun a=>q1 (St17 a0 a)) (.s4 v0 v1 v2 v3 v4 v5 v6 v7):=by kernel_rfl
theorem body17_5 (N:Nat) (o0:Orc E R) (o1:Orc E R) (q1:St E→Option R) (a0:ByteArray) (v0:Int) (v1:ByteArray) (v2:ByteArray) (v3:Int) (v4:ByteArray) (v5:Bool) (v6:List ByteArray) (v7:List Session):runA T (G N) live [] o1 body17 (St17 a0 (.s5 v0 v1 v2 v3 v4 v5 v6 v7)) (kloop [2,4,5,7] q1 (K17 N o0))=step17 N a0 (fun a=>q1 (St17 a0 a)) (.s5 v0 v1 v2 v3 v4 v5 v6 v7):=by kernel_rfl
theorem body17_6 (N:Nat) (o0:Orc E R) (o1:Orc E R) (q1:St E→Option R) (a0:ByteArray) (v0:Int) (v1:ByteArray) (v2:ByteArray) (v3:Int) (v4:ByteArray) (v5:Bool) (v6:List pairOf) (v7:List Session):runA T (G N) live [] o1 body17 (St17 a0 (.s6 v0 v1 v2 v3 v4 v5 v6 v7)) (kloop [2,4,5,7] q1 (K17 N o0))=step17 N a0 (fun a=>q1 (St17 a0 a)) (.s6 v0 v1 v2 v3 v4 v5 v6 v7):=by kernel_rfl
theorem body17_7 (N:Nat) (o0:Orc E R) (o1:Orc E R) (q1:St E→Option R) (a0:ByteArray) (v0:Int) (v1:ByteArray) (v2:ByteArray) (v3:Int) (v4:ByteArray) (v5:Bool) (v6:List ByteArray) (v7:List pairOf) (v8:List Session):runA T (G N) live [] o1 body17 (St17 a0 (.s7 v0 v1 v2 v3 v4 v5 v6 v7 v8)) (kloop [2,4,5,7] q1 (K17 N o0))=step17 N a0 (fun a=>q1 (St17 a0 a)) (.s7 v0 v1 v2 v3 v4 v5 v6 v7 v8):=by kernel_rfl
theorem lp17_eq (N:Nat) (a0:ByteArray) (a:A17):(orc T (G N) live [] N 2) loop17 (K17 N (orc T (G N) live [] N 2)) (St17 a0 a)=lp17 N a0 a:=
 (orc_loop (b:=body17) (live:=[2,4,5,7]) (by kernel_rfl)).trans (iter_eq (St17 a0) _ _ (fun q1 a=>by
  have hc:=congrFun (congrFun (rfl:(step17 N a0)=(step17 N a0)) (fun a=>q1 (St17 a0 a))) a
  cases a with
  | s0 u0 u1 u2 u3 u4 u5=>exact (body17_0 N (orc T (G N) live [] N 2) (orc T (G N) live [] N 1) q1 a0 u0 u1 u2 u3 u4 u5).trans hc
  | s1 u0 u1 u2 u3 u4 u5 u6=>exact (body17_1 N (orc T (G N) live [] N 2) (orc T (G N) live [] N 1) q1 a0 u0 u1 u2 u3 u4 u5 u6).trans hc
  | s2 u0 u1 u2 u3 u4 u5 u6=>exact (body17_2 N (orc T (G N) live [] N 2) (orc T (G N) live [] N 1) q1 a0 u0 u1 u2 u3 u4 u5 u6).trans hc
  | s3 u0 u1 u2 u3 u4 u5 u6=>exact (body17_3 N (orc T (G N) live [] N 2) (orc T (G N) live [] N 1) q1 a0 u0 u1 u2 u3 u4 u5 u6).trans hc
  | s4 u0 u1 u2 u3 u4 u5 u6 u7=>exact (body17_4 N (orc T (G N) live [] N 2) (orc T (G N) live [] N 1) q1 a0 u0 u1 u2 u3 u4 u5 u6 u7).trans hc
  | s5 u0 u1 u2 u3 u4 u5 u6 u7=>exact (body17_5 N (orc T (G N) live [] N 2) (orc T (G N) live [] N 1) q1 a0 u0 u1 u2 u3 u4 u5 u6 u7).trans hc
  | s6 u0 u1 u2 u3 u4 u5 u6 u7=>exact (body17_6 N (orc T (G N) live [] N 2) (orc T (G N) live [] N 1) q1 a0 u0 u1 u2 u3 u4 u5 u6 u7).trans hc
  | s7 u0 u1 u2 u3 u4 u5 u6 u7 u8=>exact (body17_7 N (orc T (G N) live [] N 2) (orc T (G N) live [] N 1) q1 a0 u0 u1 u2 u3 u4 u5 u6 u7 u8).trans hc) N a)
theorem lp13_eq (N:Nat) (a0:ByteArray) (a:A13):(orc T (G N) live [] N 2) loop13 (K13 N (orc T (G N) live [] N 2)) (St13 a0 a)=lp13 N a0 a:=
 (orc_loop (b:=body13) (live:=[2,4,5,55,56]) (by kernel_rfl)).trans (iter_eq (St13 a0) _ _ (fun q1 a=>by
  have hc:=congrFun (congrFun (congrArg (step13 N a0) (funext fun a=>lp17_eq N a0 a)) (fun a=>q1 (St13 a0 a))) a
  cases a with
  | s0 u0 u1 u2 u3 u4 u5 u6=>exact (body13_0 N (orc T (G N) live [] N 2) (orc T (G N) live [] N 1) q1 a0 u0 u1 u2 u3 u4 u5 u6).trans hc
  | s1 u0 u1 u2 u3 u4 u5 u6 u7=>exact (body13_1 N (orc T (G N) live [] N 2) (orc T (G N) live [] N 1) q1 a0 u0 u1 u2 u3 u4 u5 u6 u7).trans hc
  | s2 u0 u1 u2 u3 u4 u5 u6 u7=>exact (body13_2 N (orc T (G N) live [] N 2) (orc T (G N) live [] N 1) q1 a0 u0 u1 u2 u3 u4 u5 u6 u7).trans hc
  | s3 u0 u1 u2 u3 u4 u5 u6 u7=>exact (body13_3 N (orc T (G N) live [] N 2) (orc T (G N) live [] N 1) q1 a0 u0 u1 u2 u3 u4 u5 u6 u7).trans hc
  | s4 u0 u1 u2 u3 u4 u5 u6 u7 u8=>exact (body13_4 N (orc T (G N) live [] N 2) (orc T (G N) live [] N 1) q1 a0 u0 u1 u2 u3 u4 u5 u6 u7 u8).trans hc
  | s5 u0 u1 u2 u3 u4 u5 u6 u7 u8=>exact (body13_5 N (orc T (G N) live [] N 2) (orc T (G N) live [] N 1) q1 a0 u0 u1 u2 u3 u4 u5 u6 u7 u8).trans hc
  | s6 u0 u1 u2 u3 u4 u5 u6 u7 u8=>exact (body13_6 N (orc T (G N) live [] N 2) (orc T (G N) live [] N 1) q1 a0 u0 u1 u2 u3 u4 u5 u6 u7 u8).trans hc
  | s7 u0 u1 u2 u3 u4 u5 u6 u7 u8 u9=>exact (body13_7 N (orc T (G N) live [] N 2) (orc T (G N) live [] N 1) q1 a0 u0 u1 u2 u3 u4 u5 u6 u7 u8 u9).trans hc) N a)
theorem lp7_eq (N:Nat) (a0:ByteArray) (a:A7):(orc T (G N) live [] N 2) loop7 (K7 N (orc T (G N) live [] N 2)) (St7 a0 a)=lp7 N a0 a:=
 (orc_loop (b:=body7) (live:=[2,4,5,31,32]) (by kernel_rfl)).trans (iter_eq (St7 a0) _ _ (fun q1 a=>by
  have hc:=congrFun (congrFun (congrArg (step7 N a0) (funext fun a=>lp13_eq N a0 a)) (fun a=>q1 (St7 a0 a))) a
  cases a with
  | s0 u0 u1 u2 u3 u4 u5 u6=>exact (body7_0 N (orc T (G N) live [] N 2) (orc T (G N) live [] N 1) q1 a0 u0 u1 u2 u3 u4 u5 u6).trans hc
  | s1 u0 u1 u2 u3 u4 u5 u6 u7=>exact (body7_1 N (orc T (G N) live [] N 2) (orc T (G N) live [] N 1) q1 a0 u0 u1 u2 u3 u4 u5 u6 u7).trans hc
  | s2 u0 u1 u2 u3 u4 u5 u6 u7=>exact (body7_2 N (orc T (G N) live [] N 2) (orc T (G N) live [] N 1) q1 a0 u0 u1 u2 u3 u4 u5 u6 u7).trans hc
  | s3 u0 u1 u2 u3 u4 u5 u6 u7 u8=>exact (body7_3 N (orc T (G N) live [] N 2) (orc T (G N) live [] N 1) q1 a0 u0 u1 u2 u3 u4 u5 u6 u7 u8).trans hc) N a)
theorem lp3_eq (N:Nat) (a0:ByteArray) (a:A3):(orc T (G N) live [] N 2) loop3 (K3 N (orc T (G N) live [] N 2)) (St3 a0 a)=lp3 N a0 a:=
 (orc_loop (b:=body3) (live:=[2,4,5,15,16]) (by kernel_rfl)).trans (iter_eq (St3 a0) _ _ (fun q1 a=>by
  have hc:=congrFun (congrFun (congrArg (step3 N a0) (funext fun a=>lp7_eq N a0 a)) (fun a=>q1 (St3 a0 a))) a
  cases a with
  | s0 u0 u1 u2 u3 u4 u5 u6=>exact (body3_0 N (orc T (G N) live [] N 2) (orc T (G N) live [] N 1) q1 a0 u0 u1 u2 u3 u4 u5 u6).trans hc
  | s1 u0 u1 u2 u3 u4 u5 u6 u7=>exact (body3_1 N (orc T (G N) live [] N 2) (orc T (G N) live [] N 1) q1 a0 u0 u1 u2 u3 u4 u5 u6 u7).trans hc) N a)
theorem G_ok (N:Nat):GamOK Tryz.prog (G N):=gam_ok (⟨impl_reader_number.snd N,impl_reader_take_.snd N,impl_reader_counted.snd N,impl_hash.snd N,impl_reader_session.snd N,impl_books_ledger.snd N,impl_LedgerOK.snd N,trivial⟩)
theorem snd (N:Nat):Sound Tryz.prog E 41 (sp N):=
 Mir.sound T_OK (G_ok N) mixed Tryz.func41 (c:=code) (by kernel_rfl) (by kernel_rfl) (sp N) (Nat.le_of_ble_eq_true (by kernel_rfl)) live [] (by
  rintro ⟨a0,_⟩ r h
  exact ⟨N,2,((run N _ a0).trans (congrArg (m0 N a0) (funext fun a=>lp3_eq N a0 a))).trans h⟩)
end impl_readSnapshot
namespace impl_ReadSnapshot
noncomputable def code:Code:=Tryz.f18.body.getD .skip
abbrev live:Live:=[]
noncomputable def G (N:Nat):Ctx E:=gam [(41,[],impl_readSnapshot.sp N)]
theorem run (N:Nat) (o0:Orc E R) (a0:List Int):runF T (G N) live [] Tryz.f18 code (sp N) o0 (a0,())=m N a0:=by kernel_rfl
theorem G_ok (N:Nat):GamOK Tryz.prog (G N):=gam_ok (⟨impl_readSnapshot.snd N,trivial⟩)
theorem snd (N:Nat):Sound Tryz.prog E 18 (sp N):=
 Mir.sound T_OK (G_ok N) mixed Tryz.func18 (c:=code) (by kernel_rfl) (by kernel_rfl) (sp N) (Nat.le_of_ble_eq_true (by kernel_rfl)) live [] (by
  rintro ⟨a0,_⟩ r h
  exact ⟨N,2,((run N _ a0).trans rfl).trans h⟩)
end impl_ReadSnapshot
namespace spec_CommandOf
noncomputable def code:Code:=Tryz.f19.body.getD .skip
abbrev live:Live:=[]
noncomputable def G (N:Nat):Ctx E:=gam [(20,[],spec_l00Source.sp N),(42,[],spec_l00Src_command.sp N)]
theorem run (N:Nat) (o0:Orc E R) (a0:List Int):runF T (G N) live [] Tryz.f19 code (sp N) o0 (a0,())=m N a0:=by kernel_rfl
theorem G_ok (N:Nat):GamOK Tryz.prog (G N):=gam_ok (⟨spec_l00Source.snd N,spec_l00Src_command.snd N,trivial⟩)
theorem snd (N:Nat):Sound Tryz.prog E 19 (sp N):=
 Mir.sound T_OK (G_ok N) mixed Tryz.func19 (c:=code) (by kernel_rfl) (by kernel_rfl) (sp N) (Nat.le_of_ble_eq_true (by kernel_rfl)) live [] (by
  rintro ⟨a0,_⟩ r h
  exact ⟨N,2,((run N _ a0).trans rfl).trans h⟩)
end spec_CommandOf
namespace impl_CommandOK
noncomputable def code:Code:=Tryz.f23.body.getD .skip
abbrev live:Live:=[]
noncomputable def G (N:Nat):Ctx E:=gam [(33,[],impl_isShort.sp N),(48,[],impl_isValue.sp N),(49,[],impl_isKey.sp N)]
theorem run (N:Nat) (o0:Orc E R) (a0:Command):runF T (G N) live [] Tryz.f23 code (sp N) o0 (a0,())=m N a0:=by kernel_rfl
theorem G_ok (N:Nat):GamOK Tryz.prog (G N):=gam_ok (⟨impl_isShort.snd N,impl_isValue.snd N,impl_isKey.snd N,trivial⟩)
theorem snd (N:Nat):Sound Tryz.prog E 23 (sp N):=
 Mir.sound T_OK (G_ok N) mixed Tryz.func23 (c:=code) (by kernel_rfl) (by kernel_rfl) (sp N) (Nat.le_of_ble_eq_true (by kernel_rfl)) live [] (by
  rintro ⟨a0,_⟩ r h
  exact ⟨N,2,((run N _ a0).trans rfl).trans h⟩)
end impl_CommandOK
end Mir.Y
