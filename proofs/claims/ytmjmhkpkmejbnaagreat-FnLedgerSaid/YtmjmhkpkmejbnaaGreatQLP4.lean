/- The models are what the functions do. -/
import Derived.Test.YtmjmhkpkmejbnaaGreatQLP3
namespace Mir.Y
set_option linter.unusedVariables false
set_option maxRecDepth 10000
open Go Go.Proofs Mir
set_option linter.unusedSectionVars false
variable [UU]
namespace slices_IndexFunc_impl_pairOf_impl_pairOf__impl_Branch_pairs_2
noncomputable def code:Code:=Tryz.f107.body.getD .skip
abbrev live:Live:=[(2,[0,1,7,8])]
noncomputable def G (N:Nat):Ctx E:=gam [(132,[],impl_Branch_pairs_2.sp N)]
noncomputable def loop2:Code:=codeAt code [1,0,1,0]
noncomputable def body2:Code:=codeAt loop2 [0]
noncomputable def K2 (N:Nat) (o0:Orc E R):KT E R:=kAt T (G N) live [] o0 code [1,0,1,0] (kfin T Tryz.f107 (sp N))
noncomputable def St2 (a0:List pairOf) (a1_0:List pairOf) (a1_1:Branch):(Int×Int)→St E
  | (v1,v2)=>{ ρ:=[(0,.c (.at (.ro 98 (.st 98) a0))),(1,.clo 132 [.at (.ptr 0 0),.at (.ptr 1 0)]),(7,.c (.at (.int .i64 v1))),(8,.c (.at (.int .i64 v2)))],H:=[(0,.rbx [.ro 98 (.st 98) a1_0]),(1,.rbx [.str a1_1.Key,.str a1_1.Value,.int .i64 a1_1.At,.ro 36 (.st 36) a1_1.Kids])],nx:=2,n:=19,pin:=[] }
theorem run (N:Nat) (o0:Orc E R) (a0:List pairOf) (a1_0:List pairOf) (a1_1:Branch):runF T (G N) live [] Tryz.f107 code (sp N) o0 (a0,(a1_0,a1_1,()),())=m0 N a0 a1_0 a1_1 (fun a=>o0 loop2 (K2 N o0) (St2 a0 a1_0 a1_1 a)):=by kernel_rfl
theorem body2_0 (N:Nat) (o0:Orc E R) (o1:Orc E R) (q1:St E→Option R) (a0:List pairOf) (a1_0:List pairOf) (a1_1:Branch) (v1:Int) (v2:Int):runA T (G N) live [] o1 body2 (St2 a0 a1_0 a1_1 (v1,v2)) (kloop [0,1,7,8] q1 (K2 N o0))=step2 N a0 a1_0 a1_1 (fun a=>q1 (St2 a0 a1_0 a1_1 a)) (v1,v2):=by kernel_rfl
theorem lp2_eq (N:Nat) (a0:List pairOf) (a1_0:List pairOf) (a1_1:Branch) (a:Int×Int):(orc T (G N) live [] N 2) loop2 (K2 N (orc T (G N) live [] N 2)) (St2 a0 a1_0 a1_1 a)=lp2 N a0 a1_0 a1_1 a:=
  (orc_loop (b:=body2) (live:=[0,1,7,8]) (by kernel_rfl)).trans (iter_eq (St2 a0 a1_0 a1_1) _ _ (fun q1 a=>by
    have hc:=congrFun (congrFun (rfl:(step2 N a0 a1_0 a1_1)=(step2 N a0 a1_0 a1_1)) (fun a=>q1 (St2 a0 a1_0 a1_1 a))) a
    obtain ⟨u0,u1⟩:=a
    exact (body2_0 N (orc T (G N) live [] N 2) (orc T (G N) live [] N 1) q1 a0 a1_0 a1_1 u0 u1).trans hc) N a)
theorem G_ok (N:Nat):GamOK Tryz.prog (G N):=gam_ok (⟨impl_Branch_pairs_2.snd N,trivial⟩)
theorem snd (N:Nat):Sound Tryz.prog E 107 (sp N):=
  Mir.sound T_OK (G_ok N) mixed Tryz.func107 (c:=code) (by kernel_rfl) (by kernel_rfl) (sp N) (Nat.le_of_ble_eq_true (by kernel_rfl)) live [] (by
    rintro ⟨a0,⟨a1_0,a1_1,_⟩,_⟩ r h
    exact ⟨N,2,((run N _ a0 a1_0 a1_1).trans (congrArg (m0 N a0 a1_0 a1_1) (funext fun a=>lp2_eq N a0 a1_0 a1_1 a))).trans h⟩)
end slices_IndexFunc_impl_pairOf_impl_pairOf__impl_Branch_pairs_2
namespace slices_ContainsFunc_impl_pairOf_impl_pairOf__impl_Branch_pairs_2
noncomputable def code:Code:=Tryz.f130.body.getD .skip
abbrev live:Live:=[]
noncomputable def G (N:Nat):Ctx E:=gam [(107,[132],slices_IndexFunc_impl_pairOf_impl_pairOf__impl_Branch_pairs_2.sp N)]
theorem run (N:Nat) (o0:Orc E R) (a0:List pairOf) (a1_0:List pairOf) (a1_1:Branch):runF T (G N) live [] Tryz.f130 code (sp N) o0 (a0,(a1_0,a1_1,()),())=m N a0 a1_0 a1_1:=by kernel_rfl
theorem G_ok (N:Nat):GamOK Tryz.prog (G N):=gam_ok (⟨slices_IndexFunc_impl_pairOf_impl_pairOf__impl_Branch_pairs_2.snd N,trivial⟩)
theorem snd (N:Nat):Sound Tryz.prog E 130 (sp N):=
  Mir.sound T_OK (G_ok N) mixed Tryz.func130 (c:=code) (by kernel_rfl) (by kernel_rfl) (sp N) (Nat.le_of_ble_eq_true (by kernel_rfl)) live [] (by
    rintro ⟨a0,⟨a1_0,a1_1,_⟩,_⟩ r h
    exact ⟨N,2,((run N _ a0 a1_0 a1_1).trans rfl).trans h⟩)
end slices_ContainsFunc_impl_pairOf_impl_pairOf__impl_Branch_pairs_2
namespace impl_Branch_pairs
noncomputable def code:Code:=Tryz.f95.body.getD .skip
abbrev live:Live:=[(8,[2,3,8,44,45,46])]
noncomputable def G (N:Nat) (slf:Branch→Int→Int→Option R):Ctx E:=gam [(128,[],impl_Branch_isLeaf.sp N),(70,[],impl_hash.sp N),(129,[],impl_Branch_isFork.sp N),(95,[],spf slf),(130,[131],slices_ContainsFunc_impl_pairOf_impl_pairOf__impl_Branch_pairs_1.sp N),(130,[132],slices_ContainsFunc_impl_pairOf_impl_pairOf__impl_Branch_pairs_2.sp N)]
noncomputable def loop8:Code:=codeAt code [1,1,1,1,0,1,0]
noncomputable def body8:Code:=codeAt loop8 [0]
noncomputable def K8 (N:Nat) (slf:Branch→Int→Int→Option R) (o0:Orc E R):KT E R:=kAt T (G N slf) live [] o0 code [1,1,1,1,0,1,0] (kfin T Tryz.f95 (spf (mb N slf)))
noncomputable def St8 (slf:Branch→Int→Int→Option R) (a0:Branch) (a1:Int) (a2:Int):(Int×Int×Int×(List pairOf))→St E
  | (v1,v2,v3,v8)=>{ ρ:=[(2,.c (.at (.ptr 0 0))),(3,.c (.at (.ptr 1 0))),(8,.c (.at (.ptr 2 0))),(44,.c (.at (.ro 36 (.st 36) a0.Kids))),(45,.c (.at (.int .i64 v1))),(46,.c (.at (.int .i64 v2)))],H:=[(0,.box 3 [.int .i64 v3]),(1,.box 36 [.str a0.Key,.str a0.Value,.int .i64 a0.At,.ro 36 (.st 36) a0.Kids]),(2,.box 91 [.own 3]),(3,.row 98 (.st 98) v8 false)],nx:=4,n:=75,pin:=[2] }
theorem run (N:Nat) (o0:Orc E R) (slf:Branch→Int→Int→Option R) (a0:Branch) (a1:Int) (a2:Int):runF T (G N slf) live [] Tryz.f95 code (spf (mb N slf)) o0 (a0,a1,a2,())=m0 N slf a0 a1 a2 (fun a=>o0 loop8 (K8 N slf o0) (St8 slf a0 a1 a2 a)):=by kernel_rfl
theorem body8_0 (N:Nat) (o0:Orc E R) (o1:Orc E R) (q1:St E→Option R) (slf:Branch→Int→Int→Option R) (a0:Branch) (a1:Int) (a2:Int) (v1:Int) (v2:Int) (v3:Int) (v8:List pairOf):runA T (G N slf) live [] o1 body8 (St8 slf a0 a1 a2 (v1,v2,v3,v8)) (kloop [2,3,8,44,45,46] q1 (K8 N slf o0))=step8 N slf a0 a1 a2 (fun a=>q1 (St8 slf a0 a1 a2 a)) (v1,v2,v3,v8):=by kernel_rfl
theorem lp8_eq (N:Nat) (slf:Branch→Int→Int→Option R) (a0:Branch) (a1:Int) (a2:Int) (a:Int×Int×Int×(List pairOf)):(orc T (G N slf) live [] N 2) loop8 (K8 N slf (orc T (G N slf) live [] N 2)) (St8 slf a0 a1 a2 a)=lp8 N slf a0 a1 a2 a:=
  (orc_loop (b:=body8) (live:=[2,3,8,44,45,46]) (by kernel_rfl)).trans (iter_eq (St8 slf a0 a1 a2) _ _ (fun q1 a=>by
    have hc:=congrFun (congrFun (rfl:(step8 N slf a0 a1 a2)=(step8 N slf a0 a1 a2)) (fun a=>q1 (St8 slf a0 a1 a2 a))) a
    obtain ⟨u0,u1,u2,u3⟩:=a
    exact (body8_0 N (orc T (G N slf) live [] N 2) (orc T (G N slf) live [] N 1) q1 slf a0 a1 a2 u0 u1 u2 u3).trans hc) N a)
theorem G_ok (N:Nat) (slf:Branch→Int→Int→Option R) (hs:Sound Tryz.prog E 95 (spf slf)):GamOK Tryz.prog (G N slf):=gam_ok (⟨impl_Branch_isLeaf.snd N,impl_hash.snd N,impl_Branch_isFork.snd N,hs,slices_ContainsFunc_impl_pairOf_impl_pairOf__impl_Branch_pairs_1.snd N,slices_ContainsFunc_impl_pairOf_impl_pairOf__impl_Branch_pairs_2.snd N,trivial⟩)
theorem sndF (N:Nat):∀n,Sound Tryz.prog E 95 (spf (mF N n))
  | 0=>sound_none Tryz.func95 (c:=code) (by kernel_rfl) (by kernel_rfl) (spf (mF N 0)) (fun _=>rfl)
  | n+1=>by
    have hr:=fun (a0:Branch) (a1:Int) (a2:Int)=>(run N (orc T (G N (mF N n)) live [] N 2) (mF N n) a0 a1 a2).trans (congrArg (m0 N (mF N n) a0 a1 a2) (funext fun a=>lp8_eq N (mF N n) a0 a1 a2 a))
    exact Mir.sound T_OK (G_ok N (mF N n) (sndF N n)) mixed Tryz.func95 (c:=code) (by kernel_rfl) (by kernel_rfl) (spf (mF N (n+1))) (Nat.le_of_ble_eq_true (by kernel_rfl)) live [] (by
      rintro ⟨a0,a1,a2,_⟩ r h
      exact ⟨N,2,(hr a0 a1 a2).trans h⟩)
theorem snd (N:Nat):Sound Tryz.prog E 95 (sp N):=sndF N N
end impl_Branch_pairs
namespace impl_mapPairs
noncomputable def code:Code:=Tryz.f61.body.getD .skip
abbrev live:Live:=[]
noncomputable def G (N:Nat):Ctx E:=gam [(94,[],impl_Branch_isEmpty.sp N),(95,[],impl_Branch_pairs.sp N)]
theorem run (N:Nat) (o0:Orc E R) (a0:Branch):runF T (G N) live [] Tryz.f61 code (sp N) o0 (a0,())=m N a0:=by kernel_rfl
theorem G_ok (N:Nat):GamOK Tryz.prog (G N):=gam_ok (⟨impl_Branch_isEmpty.snd N,impl_Branch_pairs.snd N,trivial⟩)
theorem snd (N:Nat):Sound Tryz.prog E 61 (sp N):=
  Mir.sound T_OK (G_ok N) mixed Tryz.func61 (c:=code) (by kernel_rfl) (by kernel_rfl) (sp N) (Nat.le_of_ble_eq_true (by kernel_rfl)) live [] (by
    rintro ⟨a0,_⟩ r h
    exact ⟨N,2,((run N _ a0).trans rfl).trans h⟩)
end impl_mapPairs
namespace impl_MapOK
noncomputable def code:Code:=Tryz.f32.body.getD .skip
abbrev live:Live:=[]
noncomputable def G (N:Nat):Ctx E:=gam [(61,[],impl_mapPairs.sp N)]
theorem run (N:Nat) (o0:Orc E R) (a0:Branch):runF T (G N) live [] Tryz.f32 code (sp N) o0 (a0,())=m N a0:=by kernel_rfl
theorem G_ok (N:Nat):GamOK Tryz.prog (G N):=gam_ok (⟨impl_mapPairs.snd N,trivial⟩)
theorem snd (N:Nat):Sound Tryz.prog E 32 (sp N):=
  Mir.sound T_OK (G_ok N) mixed Tryz.func32 (c:=code) (by kernel_rfl) (by kernel_rfl) (sp N) (Nat.le_of_ble_eq_true (by kernel_rfl)) live [] (by
    rintro ⟨a0,_⟩ r h
    exact ⟨N,2,((run N _ a0).trans rfl).trans h⟩)
end impl_MapOK
namespace impl_replyOK
noncomputable def code:Code:=Tryz.f34.body.getD .skip
abbrev live:Live:=[]
noncomputable def G (N:Nat):Ctx E:=gam [(62,[],impl_within.sp N),(48,[],impl_isValue.sp N)]
theorem run (N:Nat) (o0:Orc E R) (a0:Reply):runF T (G N) live [] Tryz.f34 code (sp N) o0 (a0,())=m N a0:=by kernel_rfl
theorem G_ok (N:Nat):GamOK Tryz.prog (G N):=gam_ok (⟨impl_within.snd N,impl_isValue.snd N,trivial⟩)
theorem snd (N:Nat):Sound Tryz.prog E 34 (sp N):=
  Mir.sound T_OK (G_ok N) mixed Tryz.func34 (c:=code) (by kernel_rfl) (by kernel_rfl) (sp N) (Nat.le_of_ble_eq_true (by kernel_rfl)) live [] (by
    rintro ⟨a0,_⟩ r h
    exact ⟨N,2,((run N _ a0).trans rfl).trans h⟩)
end impl_replyOK
namespace impl_LedgerOK
noncomputable def code:Code:=Tryz.f13.body.getD .skip
abbrev live:Live:=[(4,[1,28,29,30])]
noncomputable def G (N:Nat):Ctx E:=gam [(31,[],impl_isHash.sp N),(32,[],impl_MapOK.sp N),(33,[],impl_isShort.sp N),(34,[],impl_replyOK.sp N)]
noncomputable def loop4:Code:=codeAt code [1,1,0,1,0]
noncomputable def body4:Code:=codeAt loop4 [0]
noncomputable def K4 (N:Nat) (o0:Orc E R):KT E R:=kAt T (G N) live [] o0 code [1,1,0,1,0] (kfin T Tryz.f13 (sp N))
noncomputable def St4 (a0:Ledger):(Int×Int)→St E
  | (v1,v2)=>{ ρ:=[(1,.c (.at (.ptr 0 0))),(28,.c (.at (.ro 72 (.st 72) a0.Sessions))),(29,.c (.at (.int .i64 v1))),(30,.c (.at (.int .i64 v2)))],H:=[(0,.box 39 [.ro 9 .str a0.Leaves,.str a0.Map.Key,.str a0.Map.Value,.int .i64 a0.Map.At,.ro 36 (.st 36) a0.Map.Kids,.ro 72 (.st 72) a0.Sessions])],nx:=1,n:=68,pin:=[] }
theorem run (N:Nat) (o0:Orc E R) (a0:Ledger):runF T (G N) live [] Tryz.f13 code (sp N) o0 (a0,())=m0 N a0 (fun a=>o0 loop4 (K4 N o0) (St4 a0 a)):=by kernel_rfl
theorem body4_0 (N:Nat) (o0:Orc E R) (o1:Orc E R) (q1:St E→Option R) (a0:Ledger) (v1:Int) (v2:Int):runA T (G N) live [] o1 body4 (St4 a0 (v1,v2)) (kloop [1,28,29,30] q1 (K4 N o0))=step4 N a0 (fun a=>q1 (St4 a0 a)) (v1,v2):=by kernel_rfl
theorem lp4_eq (N:Nat) (a0:Ledger) (a:Int×Int):(orc T (G N) live [] N 2) loop4 (K4 N (orc T (G N) live [] N 2)) (St4 a0 a)=lp4 N a0 a:=
  (orc_loop (b:=body4) (live:=[1,28,29,30]) (by kernel_rfl)).trans (iter_eq (St4 a0) _ _ (fun q1 a=>by
    have hc:=congrFun (congrFun (rfl:(step4 N a0)=(step4 N a0)) (fun a=>q1 (St4 a0 a))) a
    obtain ⟨u0,u1⟩:=a
    exact (body4_0 N (orc T (G N) live [] N 2) (orc T (G N) live [] N 1) q1 a0 u0 u1).trans hc) N a)
theorem G_ok (N:Nat):GamOK Tryz.prog (G N):=gam_ok (⟨impl_isHash.snd N,impl_MapOK.snd N,impl_isShort.snd N,impl_replyOK.snd N,trivial⟩)
theorem snd (N:Nat):Sound Tryz.prog E 13 (sp N):=
  Mir.sound T_OK (G_ok N) mixed Tryz.func13 (c:=code) (by kernel_rfl) (by kernel_rfl) (sp N) (Nat.le_of_ble_eq_true (by kernel_rfl)) live [] (by
    rintro ⟨a0,_⟩ r h
    exact ⟨N,2,((run N _ a0).trans (congrArg (m0 N a0) (funext fun a=>lp4_eq N a0 a))).trans h⟩)
end impl_LedgerOK
namespace slices_Clone_string_string
noncomputable def code:Code:=Tryz.f63.body.getD .skip
abbrev live:Live:=[]
noncomputable def G (N:Nat):Ctx E:=gam []
theorem run (N:Nat) (o0:Orc E R) (a0:List ByteArray):runF T (G N) live [] Tryz.f63 code (sp N) o0 (a0,())=m N a0:=by kernel_rfl
theorem G_ok (N:Nat):GamOK Tryz.prog (G N):=gam_ok (trivial)
theorem snd (N:Nat):Sound Tryz.prog E 63 (sp N):=
  Mir.sound T_OK (G_ok N) mixed Tryz.func63 (c:=code) (by kernel_rfl) (by kernel_rfl) (sp N) (Nat.le_of_ble_eq_true (by kernel_rfl)) live [] (by
    rintro ⟨a0,_⟩ r h
    exact ⟨N,2,((run N _ a0).trans rfl).trans h⟩)
end slices_Clone_string_string
namespace slices_Clone_impl_Session_impl_Session
noncomputable def code:Code:=Tryz.f64.body.getD .skip
abbrev live:Live:=[]
noncomputable def G (N:Nat):Ctx E:=gam []
theorem run (N:Nat) (o0:Orc E R) (a0:List Session):runF T (G N) live [] Tryz.f64 code (sp N) o0 (a0,())=m N a0:=by kernel_rfl
theorem G_ok (N:Nat):GamOK Tryz.prog (G N):=gam_ok (trivial)
theorem snd (N:Nat):Sound Tryz.prog E 64 (sp N):=
  Mir.sound T_OK (G_ok N) mixed Tryz.func64 (c:=code) (by kernel_rfl) (by kernel_rfl) (sp N) (Nat.le_of_ble_eq_true (by kernel_rfl)) live [] (by
    rintro ⟨a0,_⟩ r h
    exact ⟨N,2,((run N _ a0).trans rfl).trans h⟩)
end slices_Clone_impl_Session_impl_Session
namespace impl_booksOf
noncomputable def code:Code:=Tryz.f35.body.getD .skip
abbrev live:Live:=[]
noncomputable def G (N:Nat):Ctx E:=gam [(61,[],impl_mapPairs.sp N),(63,[],slices_Clone_string_string.sp N),(64,[],slices_Clone_impl_Session_impl_Session.sp N)]
theorem run (N:Nat) (o0:Orc E R) (a0:Ledger):runF T (G N) live [] Tryz.f35 code (sp N) o0 (a0,())=m N a0:=by kernel_rfl
theorem G_ok (N:Nat):GamOK Tryz.prog (G N):=gam_ok (⟨impl_mapPairs.snd N,slices_Clone_string_string.snd N,slices_Clone_impl_Session_impl_Session.snd N,trivial⟩)
theorem snd (N:Nat):Sound Tryz.prog E 35 (sp N):=
  Mir.sound T_OK (G_ok N) mixed Tryz.func35 (c:=code) (by kernel_rfl) (by kernel_rfl) (sp N) (Nat.le_of_ble_eq_true (by kernel_rfl)) live [] (by
    rintro ⟨a0,_⟩ r h
    exact ⟨N,2,((run N _ a0).trans rfl).trans h⟩)
end impl_booksOf
namespace impl_snapshot
noncomputable def code:Code:=Tryz.f30.body.getD .skip
abbrev live:Live:=[(16,[4,70,71,72]),(10,[3,4,43,44,45]),(4,[3,4,22,23,24])]
noncomputable def G (N:Nat):Ctx E:=gam [(35,[],impl_booksOf.sp N),(57,[],impl_number.sp N),(58,[],impl_counted.sp N)]
noncomputable def loop4:Code:=codeAt code [1,1,1,0,1,0]
noncomputable def body4:Code:=codeAt loop4 [0]
noncomputable def loop10:Code:=codeAt code [1,1,1,1,1,0,1,0]
noncomputable def body10:Code:=codeAt loop10 [0]
noncomputable def loop16:Code:=codeAt code [1,1,1,1,1,1,1,0,1,0]
noncomputable def body16:Code:=codeAt loop16 [0]
noncomputable def K4 (N:Nat) (o0:Orc E R):KT E R:=kAt T (G N) live [] o0 code [1,1,1,0,1,0] (kfin T Tryz.f30 (sp N))
noncomputable def St4 (a0:Ledger):(ByteArray×Int×Int×(List ByteArray)×(List pairOf)×(List Session))→St E
  | (v0,v1,v2,v3,v4,v5)=>{ ρ:=[(3,.c (.at (.ptr 0 0))),(4,.c (.at (.str v0))),(22,.c (.at (.own 1))),(23,.c (.at (.int .i64 v1))),(24,.c (.at (.int .i64 v2)))],H:=[(0,.box 93 [.own 1,.own 2,.own 3]),(1,.row 9 .str v3 false),(2,.row 98 (.st 98) v4 false),(3,.row 72 (.st 72) v5 false)],nx:=4,n:=102,pin:=[] }
noncomputable def K10 (N:Nat) (o0:Orc E R):KT E R:=kAt T (G N) live [] o0 code [1,1,1,1,1,0,1,0] (kfin T Tryz.f30 (sp N))
noncomputable def St10 (a0:Ledger):(ByteArray×Int×Int×(List ByteArray)×(List pairOf)×(List Session))→St E
  | (v0,v1,v2,v3,v4,v5)=>{ ρ:=[(3,.c (.at (.ptr 0 0))),(4,.c (.at (.str v0))),(43,.c (.at (.own 2))),(44,.c (.at (.int .i64 v1))),(45,.c (.at (.int .i64 v2)))],H:=[(0,.box 93 [.own 1,.own 2,.own 3]),(1,.row 9 .str v3 false),(2,.row 98 (.st 98) v4 false),(3,.row 72 (.st 72) v5 false)],nx:=4,n:=102,pin:=[] }
noncomputable def K16 (N:Nat) (o0:Orc E R):KT E R:=kAt T (G N) live [] o0 code [1,1,1,1,1,1,1,0,1,0] (kfin T Tryz.f30 (sp N))
noncomputable def St16 (a0:Ledger):(ByteArray×Int×Int×(List Session))→St E
  | (v0,v1,v2,v3)=>{ ρ:=[(4,.c (.at (.str v0))),(70,.c (.at (.own 0))),(71,.c (.at (.int .i64 v1))),(72,.c (.at (.int .i64 v2)))],H:=[(0,.row 72 (.st 72) v3 false)],nx:=1,n:=102,pin:=[] }
theorem run (N:Nat) (o0:Orc E R) (a0:Ledger):runF T (G N) live [] Tryz.f30 code (sp N) o0 (a0,())=m0 N a0 (fun a=>o0 loop4 (K4 N o0) (St4 a0 a)):=by kernel_rfl
theorem body4_0 (N:Nat) (o0:Orc E R) (o1:Orc E R) (q1:St E→Option R) (a0:Ledger) (v0:ByteArray) (v1:Int) (v2:Int) (v3:List ByteArray) (v4:List pairOf) (v5:List Session):runA T (G N) live [] o1 body4 (St4 a0 (v0,v1,v2,v3,v4,v5)) (kloop [3,4,22,23,24] q1 (K4 N o0))=step4 N a0 (fun a=>o0 loop10 (K10 N o0) (St10 a0 a)) (fun a=>q1 (St4 a0 a)) (v0,v1,v2,v3,v4,v5):=by kernel_rfl
theorem body10_0 (N:Nat) (o0:Orc E R) (o1:Orc E R) (q1:St E→Option R) (a0:Ledger) (v0:ByteArray) (v1:Int) (v2:Int) (v3:List ByteArray) (v4:List pairOf) (v5:List Session):runA T (G N) live [] o1 body10 (St10 a0 (v0,v1,v2,v3,v4,v5)) (kloop [3,4,43,44,45] q1 (K10 N o0))=step10 N a0 (fun a=>o0 loop16 (K16 N o0) (St16 a0 a)) (fun a=>q1 (St10 a0 a)) (v0,v1,v2,v3,v4,v5):=by kernel_rfl
theorem body16_0 (N:Nat) (o0:Orc E R) (o1:Orc E R) (q1:St E→Option R) (a0:Ledger) (v0:ByteArray) (v1:Int) (v2:Int) (v3:List Session):runA T (G N) live [] o1 body16 (St16 a0 (v0,v1,v2,v3)) (kloop [4,70,71,72] q1 (K16 N o0))=step16 N a0 (fun a=>q1 (St16 a0 a)) (v0,v1,v2,v3):=by kernel_rfl
theorem lp16_eq (N:Nat) (a0:Ledger) (a:ByteArray×Int×Int×(List Session)):(orc T (G N) live [] N 2) loop16 (K16 N (orc T (G N) live [] N 2)) (St16 a0 a)=lp16 N a0 a:=
  (orc_loop (b:=body16) (live:=[4,70,71,72]) (by kernel_rfl)).trans (iter_eq (St16 a0) _ _ (fun q1 a=>by
    have hc:=congrFun (congrFun (rfl:(step16 N a0)=(step16 N a0)) (fun a=>q1 (St16 a0 a))) a
    obtain ⟨u0,u1,u2,u3⟩:=a
    exact (body16_0 N (orc T (G N) live [] N 2) (orc T (G N) live [] N 1) q1 a0 u0 u1 u2 u3).trans hc) N a)
theorem lp10_eq (N:Nat) (a0:Ledger) (a:ByteArray×Int×Int×(List ByteArray)×(List pairOf)×(List Session)):(orc T (G N) live [] N 2) loop10 (K10 N (orc T (G N) live [] N 2)) (St10 a0 a)=lp10 N a0 a:=
  (orc_loop (b:=body10) (live:=[3,4,43,44,45]) (by kernel_rfl)).trans (iter_eq (St10 a0) _ _ (fun q1 a=>by
    have hc:=congrFun (congrFun (congrArg (step10 N a0) (funext fun a=>lp16_eq N a0 a)) (fun a=>q1 (St10 a0 a))) a
    obtain ⟨u0,u1,u2,u3,u4,u5⟩:=a
    exact (body10_0 N (orc T (G N) live [] N 2) (orc T (G N) live [] N 1) q1 a0 u0 u1 u2 u3 u4 u5).trans hc) N a)
theorem lp4_eq (N:Nat) (a0:Ledger) (a:ByteArray×Int×Int×(List ByteArray)×(List pairOf)×(List Session)):(orc T (G N) live [] N 2) loop4 (K4 N (orc T (G N) live [] N 2)) (St4 a0 a)=lp4 N a0 a:=
  (orc_loop (b:=body4) (live:=[3,4,22,23,24]) (by kernel_rfl)).trans (iter_eq (St4 a0) _ _ (fun q1 a=>by
    have hc:=congrFun (congrFun (congrArg (step4 N a0) (funext fun a=>lp10_eq N a0 a)) (fun a=>q1 (St4 a0 a))) a
    obtain ⟨u0,u1,u2,u3,u4,u5⟩:=a
    exact (body4_0 N (orc T (G N) live [] N 2) (orc T (G N) live [] N 1) q1 a0 u0 u1 u2 u3 u4 u5).trans hc) N a)
theorem G_ok (N:Nat):GamOK Tryz.prog (G N):=gam_ok (⟨impl_booksOf.snd N,impl_number.snd N,impl_counted.snd N,trivial⟩)
theorem snd (N:Nat):Sound Tryz.prog E 30 (sp N):=
  Mir.sound T_OK (G_ok N) mixed Tryz.func30 (c:=code) (by kernel_rfl) (by kernel_rfl) (sp N) (Nat.le_of_ble_eq_true (by kernel_rfl)) live [] (by
    rintro ⟨a0,_⟩ r h
    exact ⟨N,2,((run N _ a0).trans (congrArg (m0 N a0) (funext fun a=>lp4_eq N a0 a))).trans h⟩)
end impl_snapshot
namespace impl_SameLedger
noncomputable def code:Code:=Tryz.f12.body.getD .skip
abbrev live:Live:=[]
noncomputable def G (N:Nat):Ctx E:=gam [(13,[],impl_LedgerOK.sp N),(30,[],impl_snapshot.sp N)]
theorem run (N:Nat) (o0:Orc E R) (a0:Ledger) (a1:Ledger):runF T (G N) live [] Tryz.f12 code (sp N) o0 (a0,a1,())=m N a0 a1:=by kernel_rfl
theorem G_ok (N:Nat):GamOK Tryz.prog (G N):=gam_ok (⟨impl_LedgerOK.snd N,impl_snapshot.snd N,trivial⟩)
theorem snd (N:Nat):Sound Tryz.prog E 12 (sp N):=
  Mir.sound T_OK (G_ok N) mixed Tryz.func12 (c:=code) (by kernel_rfl) (by kernel_rfl) (sp N) (Nat.le_of_ble_eq_true (by kernel_rfl)) live [] (by
    rintro ⟨a0,a1,_⟩ r h
    exact ⟨N,2,((run N _ a0 a1).trans rfl).trans h⟩)
end impl_SameLedger
namespace impl_Apply
noncomputable def code:Code:=Tryz.f14.body.getD .skip
abbrev live:Live:=[]
noncomputable def G (N:Nat):Ctx E:=gam [(13,[],impl_LedgerOK.sp N),(23,[],impl_CommandOK.sp N),(35,[],impl_booksOf.sp N),(36,[],impl_books_apply.sp N),(37,[],impl_books_ledger.sp N)]
theorem run (N:Nat) (o0:Orc E R) (a0:Ledger) (a1:Command):runF T (G N) live [] Tryz.f14 code (sp N) o0 (a0,a1,())=m N a0 a1:=by kernel_rfl
theorem G_ok (N:Nat):GamOK Tryz.prog (G N):=gam_ok (⟨impl_LedgerOK.snd N,impl_CommandOK.snd N,impl_booksOf.snd N,impl_books_apply.snd N,impl_books_ledger.snd N,trivial⟩)
theorem snd (N:Nat):Sound Tryz.prog E 14 (sp N):=
  Mir.sound T_OK (G_ok N) mixed Tryz.func14 (c:=code) (by kernel_rfl) (by kernel_rfl) (sp N) (Nat.le_of_ble_eq_true (by kernel_rfl)) live [] (by
    rintro ⟨a0,a1,_⟩ r h
    exact ⟨N,2,((run N _ a0 a1).trans rfl).trans h⟩)
end impl_Apply
namespace impl_split
noncomputable def code:Code:=Tryz.f113.body.getD .skip
abbrev live:Live:=[(2,[0,3])]
noncomputable def G (N:Nat):Ctx E:=gam []
noncomputable def loop2:Code:=codeAt code [1,1,0,0]
noncomputable def body2:Code:=codeAt loop2 [0]
noncomputable def K2 (N:Nat) (o0:Orc E R):KT E R:=kAt T (G N) live [] o0 code [1,1,0,0] (kfin T Tryz.f113 (sp N))
noncomputable def St2 (a0:Int):Int→St E
  | v1=>{ ρ:=[(0,.c (.at (.int .i64 a0))),(3,.c (.at (.int .i64 v1)))],H:=[],nx:=0,n:=11,pin:=[] }
theorem run (N:Nat) (o0:Orc E R) (a0:Int):runF T (G N) live [] Tryz.f113 code (sp N) o0 (a0,())=m0 N a0 (fun a=>o0 loop2 (K2 N o0) (St2 a0 a)):=by kernel_rfl
theorem body2_0 (N:Nat) (o0:Orc E R) (o1:Orc E R) (q1:St E→Option R) (a0:Int) (v1:Int):runA T (G N) live [] o1 body2 (St2 a0 v1) (kloop [0,3] q1 (K2 N o0))=step2 N a0 (fun a=>q1 (St2 a0 a)) v1:=by kernel_rfl
theorem lp2_eq (N:Nat) (a0:Int) (a:Int):(orc T (G N) live [] N 2) loop2 (K2 N (orc T (G N) live [] N 2)) (St2 a0 a)=lp2 N a0 a:=
  (orc_loop (b:=body2) (live:=[0,3]) (by kernel_rfl)).trans (iter_eq (St2 a0) _ _ (fun q1 a=>by
    have hc:=congrFun (congrFun (rfl:(step2 N a0)=(step2 N a0)) (fun a=>q1 (St2 a0 a))) a
    exact (body2_0 N (orc T (G N) live [] N 2) (orc T (G N) live [] N 1) q1 a0 a).trans hc) N a)
theorem G_ok (N:Nat):GamOK Tryz.prog (G N):=gam_ok (trivial)
theorem snd (N:Nat):Sound Tryz.prog E 113 (sp N):=
  Mir.sound T_OK (G_ok N) mixed Tryz.func113 (c:=code) (by kernel_rfl) (by kernel_rfl) (sp N) (Nat.le_of_ble_eq_true (by kernel_rfl)) live [] (by
    rintro ⟨a0,_⟩ r h
    exact ⟨N,2,((run N _ a0).trans (congrArg (m0 N a0) (funext fun a=>lp2_eq N a0 a))).trans h⟩)
end impl_split
namespace impl_nodeHash
noncomputable def code:Code:=Tryz.f114.body.getD .skip
abbrev live:Live:=[]
noncomputable def G (N:Nat):Ctx E:=gam [(70,[],impl_hash.sp N)]
theorem run (N:Nat) (o0:Orc E R) (a0:ByteArray) (a1:ByteArray):runF T (G N) live [] Tryz.f114 code (sp N) o0 (a0,a1,())=m N a0 a1:=by kernel_rfl
theorem G_ok (N:Nat):GamOK Tryz.prog (G N):=gam_ok (⟨impl_hash.snd N,trivial⟩)
theorem snd (N:Nat):Sound Tryz.prog E 114 (sp N):=
  Mir.sound T_OK (G_ok N) mixed Tryz.func114 (c:=code) (by kernel_rfl) (by kernel_rfl) (sp N) (Nat.le_of_ble_eq_true (by kernel_rfl)) live [] (by
    rintro ⟨a0,a1,_⟩ r h
    exact ⟨N,2,((run N _ a0 a1).trans rfl).trans h⟩)
end impl_nodeHash
namespace impl_treeHash
noncomputable def code:Code:=Tryz.f71.body.getD .skip
abbrev live:Live:=[]
noncomputable def G (N:Nat) (slf:(List ByteArray)→Option R):Ctx E:=gam [(70,[],impl_hash.sp N),(113,[],impl_split.sp N),(71,[],spf slf),(114,[],impl_nodeHash.sp N)]
theorem run (N:Nat) (o0:Orc E R) (slf:(List ByteArray)→Option R) (a0:List ByteArray):runF T (G N slf) live [] Tryz.f71 code (spf (mb N slf)) o0 (a0,())=mb N slf a0:=by kernel_rfl
theorem G_ok (N:Nat) (slf:(List ByteArray)→Option R) (hs:Sound Tryz.prog E 71 (spf slf)):GamOK Tryz.prog (G N slf):=gam_ok (⟨impl_hash.snd N,impl_split.snd N,hs,impl_nodeHash.snd N,trivial⟩)
theorem sndF (N:Nat):∀n,Sound Tryz.prog E 71 (spf (mF N n))
  | 0=>sound_none Tryz.func71 (c:=code) (by kernel_rfl) (by kernel_rfl) (spf (mF N 0)) (fun _=>rfl)
  | n+1=>by
    have hr:=fun (a0:List ByteArray)=>(run N (orc T (G N (mF N n)) live [] N 2) (mF N n) a0).trans rfl
    exact Mir.sound T_OK (G_ok N (mF N n) (sndF N n)) mixed Tryz.func71 (c:=code) (by kernel_rfl) (by kernel_rfl) (spf (mF N (n+1))) (Nat.le_of_ble_eq_true (by kernel_rfl)) live [] (by
      rintro ⟨a0,_⟩ r h
      exact ⟨N,2,(hr a0).trans h⟩)
theorem snd (N:Nat):Sound Tryz.prog E 71 (sp N):=sndF N N
end impl_treeHash
namespace impl_leafRoot
noncomputable def code:Code:=Tryz.f115.body.getD .skip
abbrev live:Live:=[]
noncomputable def G (N:Nat):Ctx E:=gam [(58,[],impl_counted.sp N),(70,[],impl_hash.sp N)]
theorem run (N:Nat) (o0:Orc E R) (a0:ByteArray) (a1:ByteArray):runF T (G N) live [] Tryz.f115 code (sp N) o0 (a0,a1,())=m N a0 a1:=by kernel_rfl
theorem G_ok (N:Nat):GamOK Tryz.prog (G N):=gam_ok (⟨impl_counted.snd N,impl_hash.snd N,trivial⟩)
theorem snd (N:Nat):Sound Tryz.prog E 115 (sp N):=
  Mir.sound T_OK (G_ok N) mixed Tryz.func115 (c:=code) (by kernel_rfl) (by kernel_rfl) (sp N) (Nat.le_of_ble_eq_true (by kernel_rfl)) live [] (by
    rintro ⟨a0,a1,_⟩ r h
    exact ⟨N,2,((run N _ a0 a1).trans rfl).trans h⟩)
end impl_leafRoot
namespace impl_forkRoot
noncomputable def code:Code:=Tryz.f116.body.getD .skip
abbrev live:Live:=[]
noncomputable def G (N:Nat):Ctx E:=gam [(57,[],impl_number.sp N),(70,[],impl_hash.sp N)]
theorem run (N:Nat) (o0:Orc E R) (a0:Int) (a1:ByteArray) (a2:ByteArray):runF T (G N) live [] Tryz.f116 code (sp N) o0 (a0,a1,a2,())=m N a0 a1 a2:=by kernel_rfl
theorem G_ok (N:Nat):GamOK Tryz.prog (G N):=gam_ok (⟨impl_number.snd N,impl_hash.snd N,trivial⟩)
theorem snd (N:Nat):Sound Tryz.prog E 116 (sp N):=
  Mir.sound T_OK (G_ok N) mixed Tryz.func116 (c:=code) (by kernel_rfl) (by kernel_rfl) (sp N) (Nat.le_of_ble_eq_true (by kernel_rfl)) live [] (by
    rintro ⟨a0,a1,a2,_⟩ r h
    exact ⟨N,2,((run N _ a0 a1 a2).trans rfl).trans h⟩)
end impl_forkRoot
namespace impl_mapRoot
noncomputable def code:Code:=Tryz.f72.body.getD .skip
abbrev live:Live:=[]
noncomputable def G (N:Nat) (slf:Branch→Option R):Ctx E:=gam [(94,[],impl_Branch_isEmpty.sp N),(70,[],impl_hash.sp N),(115,[],impl_leafRoot.sp N),(72,[],spf slf),(116,[],impl_forkRoot.sp N)]
theorem run (N:Nat) (o0:Orc E R) (slf:Branch→Option R) (a0:Branch):runF T (G N slf) live [] Tryz.f72 code (spf (mb N slf)) o0 (a0,())=mb N slf a0:=by kernel_rfl
theorem G_ok (N:Nat) (slf:Branch→Option R) (hs:Sound Tryz.prog E 72 (spf slf)):GamOK Tryz.prog (G N slf):=gam_ok (⟨impl_Branch_isEmpty.snd N,impl_hash.snd N,impl_leafRoot.snd N,hs,impl_forkRoot.snd N,trivial⟩)
theorem sndF (N:Nat):∀n,Sound Tryz.prog E 72 (spf (mF N n))
  | 0=>sound_none Tryz.func72 (c:=code) (by kernel_rfl) (by kernel_rfl) (spf (mF N 0)) (fun _=>rfl)
  | n+1=>by
    have hr:=fun (a0:Branch)=>(run N (orc T (G N (mF N n)) live [] N 2) (mF N n) a0).trans rfl
    exact Mir.sound T_OK (G_ok N (mF N n) (sndF N n)) mixed Tryz.func72 (c:=code) (by kernel_rfl) (by kernel_rfl) (spf (mF N (n+1))) (Nat.le_of_ble_eq_true (by kernel_rfl)) live [] (by
      rintro ⟨a0,_⟩ r h
      exact ⟨N,2,(hr a0).trans h⟩)
theorem snd (N:Nat):Sound Tryz.prog E 72 (sp N):=sndF N N
end impl_mapRoot
namespace impl_ledgerRoot
noncomputable def code:Code:=Tryz.f38.body.getD .skip
abbrev live:Live:=[]
noncomputable def G (N:Nat):Ctx E:=gam [(71,[],impl_treeHash.sp N),(72,[],impl_mapRoot.sp N),(70,[],impl_hash.sp N)]
theorem run (N:Nat) (o0:Orc E R) (a0:Ledger):runF T (G N) live [] Tryz.f38 code (sp N) o0 (a0,())=m N a0:=by kernel_rfl
theorem G_ok (N:Nat):GamOK Tryz.prog (G N):=gam_ok (⟨impl_treeHash.snd N,impl_mapRoot.snd N,impl_hash.snd N,trivial⟩)
theorem snd (N:Nat):Sound Tryz.prog E 38 (sp N):=
  Mir.sound T_OK (G_ok N) mixed Tryz.func38 (c:=code) (by kernel_rfl) (by kernel_rfl) (sp N) (Nat.le_of_ble_eq_true (by kernel_rfl)) live [] (by
    rintro ⟨a0,_⟩ r h
    exact ⟨N,2,((run N _ a0).trans rfl).trans h⟩)
end impl_ledgerRoot
namespace impl_LedgerRoot
noncomputable def code:Code:=Tryz.f15.body.getD .skip
abbrev live:Live:=[]
noncomputable def G (N:Nat):Ctx E:=gam [(13,[],impl_LedgerOK.sp N),(38,[],impl_ledgerRoot.sp N)]
theorem run (N:Nat) (o0:Orc E R) (a0:Ledger):runF T (G N) live [] Tryz.f15 code (sp N) o0 (a0,())=m N a0:=by kernel_rfl
theorem G_ok (N:Nat):GamOK Tryz.prog (G N):=gam_ok (⟨impl_LedgerOK.snd N,impl_ledgerRoot.snd N,trivial⟩)
theorem snd (N:Nat):Sound Tryz.prog E 15 (sp N):=
  Mir.sound T_OK (G_ok N) mixed Tryz.func15 (c:=code) (by kernel_rfl) (by kernel_rfl) (sp N) (Nat.le_of_ble_eq_true (by kernel_rfl)) live [] (by
    rintro ⟨a0,_⟩ r h
    exact ⟨N,2,((run N _ a0).trans rfl).trans h⟩)
end impl_LedgerRoot
namespace laws_FnLedger
noncomputable def code:Code:=Tryz.f4.body.getD .skip
abbrev live:Live:=[(12,[3,4,5,8,12,13,14])]
noncomputable def G (N:Nat):Ctx E:=gam [(6,[],spec_CommandsOf.sp N),(10,[],impl_ApplyAll.sp N),(11,[],spec_ApplyAll.sp N),(12,[],impl_SameLedger.sp N),(13,[],impl_LedgerOK.sp N),(14,[],impl_Apply.sp N),(15,[],impl_LedgerRoot.sp N)]
noncomputable def loop12:Code:=codeAt code [1,1,1,1,1,1,1,1,1,0,1,0]
noncomputable def body12:Code:=codeAt loop12 [0]
noncomputable def K12 (N:Nat) (o0:Orc E R):KT E R:=kAt T (G N) live [] o0 code [1,1,1,1,1,1,1,1,1,0,1,0] (kfin T Tryz.f4 (sp N))
noncomputable def St12 (a0:List Int):A12→St E
  | .s0 v0 v1 v2 v3 v4 v5 v6 v7 v8 v9 v10 v11 v12 v13=>{ ρ:=[(3,.c (.at (.own 0))),(4,.c (.at (.ptr 1 0))),(5,.c (.at (.own 5))),(8,.c (.at (.own 6))),(12,.c (.at (.ptr 7 0))),(13,.c (.at (.int .i64 v0))),(14,.c (.at (.int .i64 v1)))],H:=[(0,.row 31 (.st 31) v2 true),(1,.box 39 [.own 2,.str v3,.str v4,.int .i64 v5,.own 3,.own 4]),(2,.row 9 .str v6 false),(3,.row 36 (.st 36) v7 false),(4,.row 72 (.st 72) v8 false),(5,.row 27 (.st 27) v9 false),(6,.row 27 (.st 27) v10 false),(7,.box 39 [.nils,.str v11,.str v12,.int .i64 v13,.nils,.nils])],nx:=8,n:=212,pin:=[] }
  | .s1 v0 v1 v2 v3 v4 v5 v6 v7 v8 v9 v10 v11 v12 v13 v14 v15 v16=>{ ρ:=[(3,.c (.at (.own 0))),(4,.c (.at (.ptr 1 0))),(5,.c (.at (.own 5))),(8,.c (.at (.own 6))),(12,.c (.at (.ptr 7 0))),(13,.c (.at (.int .i64 v0))),(14,.c (.at (.int .i64 v1)))],H:=[(0,.row 31 (.st 31) v2 true),(1,.box 39 [.own 2,.str v3,.str v4,.int .i64 v5,.own 3,.own 4]),(2,.row 9 .str v6 false),(3,.row 36 (.st 36) v7 false),(4,.row 72 (.st 72) v8 false),(5,.row 27 (.st 27) v9 false),(6,.row 27 (.st 27) v10 false),(7,.box 39 [.own 8,.str v11,.str v12,.int .i64 v13,.own 9,.own 10]),(8,.row 9 .str v14 true),(9,.row 36 (.st 36) v15 true),(10,.row 72 (.st 72) v16 true)],nx:=11,n:=212,pin:=[] }
  | .s2 v0 v1 v2 v3 v4 v5 v6 v7 v8 v9 v10 v11 v12 v13 v14 v15 v16=>{ ρ:=[(3,.c (.at (.own 0))),(4,.c (.at (.ptr 1 0))),(5,.c (.at (.own 5))),(8,.c (.at (.own 6))),(12,.c (.at (.ptr 7 0))),(13,.c (.at (.int .i64 v0))),(14,.c (.at (.int .i64 v1)))],H:=[(0,.row 31 (.st 31) v2 true),(1,.box 39 [.own 2,.str v3,.str v4,.int .i64 v5,.own 3,.own 4]),(2,.row 9 .str v6 false),(3,.row 36 (.st 36) v7 false),(4,.row 72 (.st 72) v8 false),(5,.row 27 (.st 27) v9 false),(6,.row 27 (.st 27) v10 false),(7,.box 39 [.own 8,.str v11,.str v12,.int .i64 v13,.own 9,.own 10]),(8,.row 9 .str v14 false),(9,.row 36 (.st 36) v15 false),(10,.row 72 (.st 72) v16 false)],nx:=11,n:=212,pin:=[] }
theorem run (N:Nat) (o0:Orc E R) (a0:List Int):runF T (G N) live [] Tryz.f4 code (sp N) o0 (a0,())=m0 N a0 (fun a=>o0 loop12 (K12 N o0) (St12 a0 a)):=by kernel_rfl
theorem body12_0 (N:Nat) (o0:Orc E R) (o1:Orc E R) (q1:St E→Option R) (a0:List Int) (v0:Int) (v1:Int) (v2:List Command) (v3:ByteArray) (v4:ByteArray) (v5:Int) (v6:List ByteArray) (v7:List Branch) (v8:List Session) (v9:List Reply) (v10:List Reply) (v11:ByteArray) (v12:ByteArray) (v13:Int):runA T (G N) live [] o1 body12 (St12 a0 (.s0 v0 v1 v2 v3 v4 v5 v6 v7 v8 v9 v10 v11 v12 v13)) (kloop [3,4,5,8,12,13,14] q1 (K12 N o0))=step12 N a0 (fun a=>q1 (St12 a0 a)) (.s0 v0 v1 v2 v3 v4 v5 v6 v7 v8 v9 v10 v11 v12 v13):=by kernel_rfl
theorem body12_1 (N:Nat) (o0:Orc E R) (o1:Orc E R) (q1:St E→Option R) (a0:List Int) (v0:Int) (v1:Int) (v2:List Command) (v3:ByteArray) (v4:ByteArray) (v5:Int) (v6:List ByteArray) (v7:List Branch) (v8:List Session) (v9:List Reply) (v10:List Reply) (v11:ByteArray) (v12:ByteArray) (v13:Int) (v14:List ByteArray) (v15:List Branch) (v16:List Session):runA T (G N) live [] o1 body12 (St12 a0 (.s1 v0 v1 v2 v3 v4 v5 v6 v7 v8 v9 v10 v11 v12 v13 v14 v15 v16)) (kloop [3,4,5,8,12,13,14] q1 (K12 N o0))=step12 N a0 (fun a=>q1 (St12 a0 a)) (.s1 v0 v1 v2 v3 v4 v5 v6 v7 v8 v9 v10 v11 v12 v13 v14 v15 v16):=by kernel_rfl
theorem body12_2 (N:Nat) (o0:Orc E R) (o1:Orc E R) (q1:St E→Option R) (a0:List Int) (v0:Int) (v1:Int) (v2:List Command) (v3:ByteArray) (v4:ByteArray) (v5:Int) (v6:List ByteArray) (v7:List Branch) (v8:List Session) (v9:List Reply) (v10:List Reply) (v11:ByteArray) (v12:ByteArray) (v13:Int) (v14:List ByteArray) (v15:List Branch) (v16:List Session):runA T (G N) live [] o1 body12 (St12 a0 (.s2 v0 v1 v2 v3 v4 v5 v6 v7 v8 v9 v10 v11 v12 v13 v14 v15 v16)) (kloop [3,4,5,8,12,13,14] q1 (K12 N o0))=step12 N a0 (fun a=>q1 (St12 a0 a)) (.s2 v0 v1 v2 v3 v4 v5 v6 v7 v8 v9 v10 v11 v12 v13 v14 v15 v16):=by kernel_rfl
theorem lp12_eq (N:Nat) (a0:List Int) (a:A12):(orc T (G N) live [] N 2) loop12 (K12 N (orc T (G N) live [] N 2)) (St12 a0 a)=lp12 N a0 a:=
  (orc_loop (b:=body12) (live:=[3,4,5,8,12,13,14]) (by kernel_rfl)).trans (iter_eq (St12 a0) _ _ (fun q1 a=>by
    have hc:=congrFun (congrFun (rfl:(step12 N a0)=(step12 N a0)) (fun a=>q1 (St12 a0 a))) a
    cases a with
    | s0 u0 u1 u2 u3 u4 u5 u6 u7 u8 u9 u10 u11 u12 u13=>exact (body12_0 N (orc T (G N) live [] N 2) (orc T (G N) live [] N 1) q1 a0 u0 u1 u2 u3 u4 u5 u6 u7 u8 u9 u10 u11 u12 u13).trans hc
    | s1 u0 u1 u2 u3 u4 u5 u6 u7 u8 u9 u10 u11 u12 u13 u14 u15 u16=>exact (body12_1 N (orc T (G N) live [] N 2) (orc T (G N) live [] N 1) q1 a0 u0 u1 u2 u3 u4 u5 u6 u7 u8 u9 u10 u11 u12 u13 u14 u15 u16).trans hc
    | s2 u0 u1 u2 u3 u4 u5 u6 u7 u8 u9 u10 u11 u12 u13 u14 u15 u16=>exact (body12_2 N (orc T (G N) live [] N 2) (orc T (G N) live [] N 1) q1 a0 u0 u1 u2 u3 u4 u5 u6 u7 u8 u9 u10 u11 u12 u13 u14 u15 u16).trans hc) N a)
theorem G_ok (N:Nat):GamOK Tryz.prog (G N):=gam_ok (⟨spec_CommandsOf.snd N,impl_ApplyAll.snd N,spec_ApplyAll.snd N,impl_SameLedger.snd N,impl_LedgerOK.snd N,impl_Apply.snd N,impl_LedgerRoot.snd N,trivial⟩)
theorem snd (N:Nat):Sound Tryz.prog E 4 (sp N):=
  Mir.sound T_OK (G_ok N) mixed Tryz.func4 (c:=code) (by kernel_rfl) (by kernel_rfl) (sp N) (Nat.le_of_ble_eq_true (by kernel_rfl)) live [] (by
    rintro ⟨a0,_⟩ r h
    exact ⟨N,2,((run N _ a0).trans (congrArg (m0 N a0) (funext fun a=>lp12_eq N a0 a))).trans h⟩)
end laws_FnLedger
end Mir.Y
