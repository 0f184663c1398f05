/- The models are what the functions do. -/
import Derived.Test.YtcgniikapdcfmaaRCP1
namespace Mir.Y
set_option linter.unusedVariables false
set_option maxRecDepth 10000
open Go Go.Proofs Mir
namespace spec_l10Entries
noncomputable def code:Code:=Try.f82.body.getD .skip
abbrev live:Live:=[(9,[2,3,4,7])]
noncomputable def G (N:Nat):Ctx E:=gam [(79,[],spec_l10Down.sp N),(87,[],spec_l10Term.sp N)]
noncomputable def loop9:Code:=codeAt code [1,1,1,1,1,1,0,1,0]
noncomputable def body9:Code:=codeAt loop9 [0]
noncomputable def K9 (N:Nat) (o0:Orc E R):KT E R:=kAt T (G N) live [] o0 code [1,1,1,1,1,1,0,1,0] (kfin T Try.f82 (sp N))
noncomputable def St9 (a0:Node) (a1:Message):(Int×Int×Int×Int×Int×Int×Int×Int×Bool×(List Entry)×(List Int)×(List Int)×(List Int)×(List Int)×Int×Int×Int×Int×Int×Int×Int)→St E
 | (v0,v1,v2,v3,v4,v5,v6,v7,v8,v9,v10,v11,v12,v13,v23,v24,v25,v26,v27,v28,v29)=>{ ρ:=[(2,.c (.at (.ptr 0 0))),(3,.c (.at (.ptr 6 0))),(4,.c (.at (.ptr 7 0))),(7,.c (.at (.int .i64 v0)))],H:=[(0,.box 26 [.int .i64 v1,.int .i64 v2,.int .i64 v3,.own 1,.own 2,.int .i64 v4,.own 3,.own 4,.own 5,.int .i64 v5,.int .i64 v6,.int .i64 v7,.bool v8]),(1,.row 35 (.st 35) v9 false),(2,.row 3 (.int .i64) v10 false),(3,.row 3 (.int .i64) v11 false),(4,.row 3 (.int .i64) v12 false),(5,.row 3 (.int .i64) v13 false),(6,.box 97 [.int .i64 a1.Kind,.int .i64 a1.From,.int .i64 a1.To,.int .i64 a1.Term,.int .i64 a1.Index,.int .i64 a1.LogTerm,.int .i64 a1.Commit,.ro 35 (.st 35) a1.Entries,.bool a1.Ok]),(7,.box 26 [.int .i64 v23,.int .i64 v24,.int .i64 v25,.nils,.nils,.int .i64 v26,.nils,.nils,.nils,.int .i64 v27,.int .i64 v28,.int .i64 v29,.bool false])],nx:=8,n:=120,pin:=[] }
theorem run (N:Nat) (o0:Orc E R) (a0:Node) (a1:Message):runF T (G N) live [] Try.f82 code (sp N) o0 (a0,a1,())=m0 N a0 a1 (fun a=>o0 loop9 (K9 N o0) (St9 a0 a1 a)):=by kernel_rfl
theorem body9_0 (N:Nat) (o0:Orc E R) (o1:Orc E R) (q1:St E→Option R) (a0:Node) (a1:Message) (v0:Int) (v1:Int) (v2:Int) (v3:Int) (v4:Int) (v5:Int) (v6:Int) (v7:Int) (v8:Bool) (v9:List Entry) (v10:List Int) (v11:List Int) (v12:List Int) (v13:List Int) (v23:Int) (v24:Int) (v25:Int) (v26:Int) (v27:Int) (v28:Int) (v29:Int):runA T (G N) live [] o1 body9 (St9 a0 a1 (v0,v1,v2,v3,v4,v5,v6,v7,v8,v9,v10,v11,v12,v13,v23,v24,v25,v26,v27,v28,v29)) (kloop [2,3,4,7] q1 (K9 N o0))=step9 N a0 a1 (fun a=>q1 (St9 a0 a1 a)) (v0,v1,v2,v3,v4,v5,v6,v7,v8,v9,v10,v11,v12,v13,v23,v24,v25,v26,v27,v28,v29):=by kernel_rfl
theorem lp9_eq (N:Nat) (a0:Node) (a1:Message) (a:Int×Int×Int×Int×Int×Int×Int×Int×Bool×(List Entry)×(List Int)×(List Int)×(List Int)×(List Int)×Int×Int×Int×Int×Int×Int×Int):(orc T (G N) live [] N 2) loop9 (K9 N (orc T (G N) live [] N 2)) (St9 a0 a1 a)=lp9 N a0 a1 a:=
 (orc_loop (b:=body9) (live:=[2,3,4,7]) (by kernel_rfl)).trans (iter_eq (St9 a0 a1) _ _ (fun q1 a=>by
  have hc:=congrFun (congrFun (rfl:(step9 N a0 a1)=(step9 N a0 a1)) (fun a=>q1 (St9 a0 a1 a))) a
  obtain ⟨u0,u1,u2,u3,u4,u5,u6,u7,u8,u9,u10,u11,u12,u13,u14,u15,u16,u17,u18,u19,u20⟩:=a
  exact (body9_0 N (orc T (G N) live [] N 2) (orc T (G N) live [] N 1) q1 a0 a1 u0 u1 u2 u3 u4 u5 u6 u7 u8 u9 u10 u11 u12 u13 u14 u15 u16 u17 u18 u19 u20).trans hc) N a)
theorem G_ok (N:Nat):GamOK Try.prog (G N):=gam_ok (⟨spec_l10Down.snd N,spec_l10Term.snd N,trivial⟩)
theorem snd (N:Nat):Sound Try.prog E 82 (sp N):=
 Mir.sound T_OK (G_ok N) mixed Try.func82 (c:=code) (by kernel_rfl) (by kernel_rfl) (sp N) (Nat.le_of_ble_eq_true (by kernel_rfl)) live [] (by
  rintro ⟨a0,a1,_⟩ r h
  exact ⟨N,2,((run N _ a0 a1).trans (congrArg (m0 N a0 a1) (funext fun a=>lp9_eq N a0 a1 a))).trans h⟩)
end spec_l10Entries
namespace spec_l10Answer
noncomputable def code:Code:=Try.f83.body.getD .skip
abbrev live:Live:=[]
noncomputable def G (N:Nat):Ctx E:=gam [(84,[],spec_l10Append.sp N),(75,[],spec_l10Advance.sp N)]
theorem run (N:Nat) (o0:Orc E R) (a0:Node) (a1:Message):runF T (G N) live [] Try.f83 code (sp N) o0 (a0,a1,())=m N a0 a1:=by kernel_rfl
theorem G_ok (N:Nat):GamOK Try.prog (G N):=gam_ok (⟨spec_l10Append.snd N,spec_l10Advance.snd N,trivial⟩)
theorem snd (N:Nat):Sound Try.prog E 83 (sp N):=
 Mir.sound T_OK (G_ok N) mixed Try.func83 (c:=code) (by kernel_rfl) (by kernel_rfl) (sp N) (Nat.le_of_ble_eq_true (by kernel_rfl)) live [] (by
  rintro ⟨a0,a1,_⟩ r h
  exact ⟨N,2,((run N _ a0 a1).trans rfl).trans h⟩)
end spec_l10Answer
namespace spec_l10Take
noncomputable def code:Code:=Try.f72.body.getD .skip
abbrev live:Live:=[]
noncomputable def G (N:Nat):Ctx E:=gam [(67,[],spec_l10Own.sp N),(79,[],spec_l10Down.sp N),(80,[],spec_l10Vote.sp N),(81,[],spec_l10Voted.sp N),(82,[],spec_l10Entries.sp N),(83,[],spec_l10Answer.sp N)]
theorem run (N:Nat) (o0:Orc E R) (a0:Node) (a1:Message):runF T (G N) live [] Try.f72 code (sp N) o0 (a0,a1,())=m N a0 a1:=by kernel_rfl
theorem G_ok (N:Nat):GamOK Try.prog (G N):=gam_ok (⟨spec_l10Own.snd N,spec_l10Down.snd N,spec_l10Vote.snd N,spec_l10Voted.snd N,spec_l10Entries.snd N,spec_l10Answer.snd N,trivial⟩)
theorem snd (N:Nat):Sound Try.prog E 72 (sp N):=
 Mir.sound T_OK (G_ok N) mixed Try.func72 (c:=code) (by kernel_rfl) (by kernel_rfl) (sp N) (Nat.le_of_ble_eq_true (by kernel_rfl)) live [] (by
  rintro ⟨a0,a1,_⟩ r h
  exact ⟨N,2,((run N _ a0 a1).trans rfl).trans h⟩)
end spec_l10Take
namespace spec_l11Set
noncomputable def code:Code:=Try.f63.body.getD .skip
abbrev live:Live:=[(14,[1,4,6,8,11]),(6,[1,3,4,6,8,9,10])]
noncomputable def G (N:Nat):Ctx E:=gam []
noncomputable def loop6:Code:=codeAt code [1,1,1,1,1,0,1,0]
noncomputable def body6:Code:=codeAt loop6 [0]
noncomputable def loop14:Code:=codeAt code [1,1,1,1,1,1,1,0,1,0,1,1,0]
noncomputable def body14:Code:=codeAt loop14 [0]
noncomputable def K6 (N:Nat) (o0:Orc E R):KT E R:=kAt T (G N) live [] o0 code [1,1,1,1,1,0,1,0] (kfin T Try.f63 (sp N))
noncomputable def St6 (a0:Group) (a1:Int) (a2:Node) (a3:List Message):(Int×(List Node)×(List Message)×Int×Int×Int×(List Entry)×(List Int)×Int×(List Int)×(List Int)×(List Int)×Int×Int×Int×Bool)→St E
 | (v2,v5,v6,v20,v21,v22,v23,v24,v25,v26,v27,v28,v29,v30,v31,v32)=>{ ρ:=[(1,.c (.at (.int .i64 a1))),(3,.c (.at (.ro 97 (.st 97) a3))),(4,.c (.at (.ptr 0 0))),(6,.c (.at (.ptr 3 0))),(8,.c (.at (.ptr 4 0))),(9,.c (.at (.ptr 5 0))),(10,.c (.at (.int .i64 v2)))],H:=[(0,.box 52 [.own 1,.own 2,.ro 99 (.st 99) a0.Leads,.ro 109 (.st 109) a0.Dones]),(1,.row 26 (.st 26) v5 false),(2,.row 97 (.st 97) v6 false),(3,.box 26 [.int .i64 a2.Id,.int .i64 a2.Term,.int .i64 a2.Vote,.ro 35 (.st 35) a2.Log,.ro 3 (.int .i64) a2.Start,.int .i64 a2.Role,.ro 3 (.int .i64) a2.Votes,.ro 3 (.int .i64) a2.Next,.ro 3 (.int .i64) a2.Match,.int .i64 a2.Commit,.int .i64 a2.Elapsed,.int .i64 a2.Wait,.bool a2.Up]),(4,.box 52 [.nils,.nils,.nils,.nils]),(5,.box 26 [.int .i64 v20,.int .i64 v21,.int .i64 v22,.ro 35 (.st 35) v23,.ro 3 (.int .i64) v24,.int .i64 v25,.ro 3 (.int .i64) v26,.ro 3 (.int .i64) v27,.ro 3 (.int .i64) v28,.int .i64 v29,.int .i64 v30,.int .i64 v31,.bool v32])],nx:=6,n:=119,pin:=[] }
noncomputable def K14 (N:Nat) (o0:Orc E R):KT E R:=kAt T (G N) live [] o0 code [1,1,1,1,1,1,1,0,1,0,1,1,0] (kfin T Try.f63 (sp N))
noncomputable def St14 (a0:Group) (a1:Int) (a2:Node) (a3:List Message):A14→St E
 | .s0 v1 v2 v3 v4 v5=>{ ρ:=[(1,.c (.at (.int .i64 a1))),(4,.c (.at (.ptr 0 0))),(6,.c (.at (.ptr 5 0))),(8,.c (.at (.ptr 6 0))),(11,.c (.at (.int .i64 v1)))],H:=[(0,.box 52 [.own 1,.own 2,.own 3,.own 4]),(1,.row 26 (.st 26) v2 false),(2,.row 97 (.st 97) v3 false),(3,.row 99 (.st 99) v4 false),(4,.row 109 (.st 109) v5 false),(5,.box 26 [.int .i64 a2.Id,.int .i64 a2.Term,.int .i64 a2.Vote,.ro 35 (.st 35) a2.Log,.ro 3 (.int .i64) a2.Start,.int .i64 a2.Role,.ro 3 (.int .i64) a2.Votes,.ro 3 (.int .i64) a2.Next,.ro 3 (.int .i64) a2.Match,.int .i64 a2.Commit,.int .i64 a2.Elapsed,.int .i64 a2.Wait,.bool a2.Up]),(6,.box 52 [.nils,.nils,.nils,.nils])],nx:=7,n:=119,pin:=[] }
 | .s1 v1 v3 v4 v5=>{ ρ:=[(1,.c (.at (.int .i64 a1))),(4,.c (.at (.ptr 0 0))),(6,.c (.at (.ptr 4 0))),(8,.c (.at (.ptr 5 0))),(11,.c (.at (.int .i64 v1)))],H:=[(0,.box 52 [.own 1,.own 2,.ro 99 (.st 99) a0.Leads,.own 3]),(1,.row 26 (.st 26) v3 false),(2,.row 97 (.st 97) v4 false),(3,.row 109 (.st 109) v5 false),(4,.box 26 [.int .i64 a2.Id,.int .i64 a2.Term,.int .i64 a2.Vote,.ro 35 (.st 35) a2.Log,.ro 3 (.int .i64) a2.Start,.int .i64 a2.Role,.ro 3 (.int .i64) a2.Votes,.ro 3 (.int .i64) a2.Next,.ro 3 (.int .i64) a2.Match,.int .i64 a2.Commit,.int .i64 a2.Elapsed,.int .i64 a2.Wait,.bool a2.Up]),(5,.box 52 [.nils,.nils,.nils,.nils])],nx:=6,n:=119,pin:=[] }
theorem run (N:Nat) (o0:Orc E R) (a0:Group) (a1:Int) (a2:Node) (a3:List Message):runF T (G N) live [] Try.f63 code (sp N) o0 (a0,a1,a2,a3,())=m0 N a0 a1 a2 a3 (fun a=>o0 loop6 (K6 N o0) (St6 a0 a1 a2 a3 a)):=by kernel_rfl
theorem body6_0 (N:Nat) (o0:Orc E R) (o1:Orc E R) (q1:St E→Option R) (a0:Group) (a1:Int) (a2:Node) (a3:List Message) (v2:Int) (v5:List Node) (v6:List Message) (v20:Int) (v21:Int) (v22:Int) (v23:List Entry) (v24:List Int) (v25:Int) (v26:List Int) (v27:List Int) (v28:List Int) (v29:Int) (v30:Int) (v31:Int) (v32:Bool):runA T (G N) live [] o1 body6 (St6 a0 a1 a2 a3 (v2,v5,v6,v20,v21,v22,v23,v24,v25,v26,v27,v28,v29,v30,v31,v32)) (kloop [1,3,4,6,8,9,10] q1 (K6 N o0))=step6 N a0 a1 a2 a3 (fun a=>o0 loop14 (K14 N o0) (St14 a0 a1 a2 a3 a)) (fun a=>q1 (St6 a0 a1 a2 a3 a)) (v2,v5,v6,v20,v21,v22,v23,v24,v25,v26,v27,v28,v29,v30,v31,v32):=by kernel_rfl
theorem body14_0 (N:Nat) (o0:Orc E R) (o1:Orc E R) (q1:St E→Option R) (a0:Group) (a1:Int) (a2:Node) (a3:List Message) (v1:Int) (v2:List Node) (v3:List Message) (v4:List Lead) (v5:List Done):runA T (G N) live [] o1 body14 (St14 a0 a1 a2 a3 (.s0 v1 v2 v3 v4 v5)) (kloop [1,4,6,8,11] q1 (K14 N o0))=step14 N a0 a1 a2 a3 (fun a=>q1 (St14 a0 a1 a2 a3 a)) (.s0 v1 v2 v3 v4 v5):=by kernel_rfl
theorem body14_1 (N:Nat) (o0:Orc E R) (o1:Orc E R) (q1:St E→Option R) (a0:Group) (a1:Int) (a2:Node) (a3:List Message) (v1:Int) (v3:List Node) (v4:List Message) (v5:List Done):runA T (G N) live [] o1 body14 (St14 a0 a1 a2 a3 (.s1 v1 v3 v4 v5)) (kloop [1,4,6,8,11] q1 (K14 N o0))=step14 N a0 a1 a2 a3 (fun a=>q1 (St14 a0 a1 a2 a3 a)) (.s1 v1 v3 v4 v5):=by kernel_rfl
theorem lp14_eq (N:Nat) (a0:Group) (a1:Int) (a2:Node) (a3:List Message) (a:A14):(orc T (G N) live [] N 2) loop14 (K14 N (orc T (G N) live [] N 2)) (St14 a0 a1 a2 a3 a)=lp14 N a0 a1 a2 a3 a:=
 (orc_loop (b:=body14) (live:=[1,4,6,8,11]) (by kernel_rfl)).trans (iter_eq (St14 a0 a1 a2 a3) _ _ (fun q1 a=>by
  have hc:=congrFun (congrFun (rfl:(step14 N a0 a1 a2 a3)=(step14 N a0 a1 a2 a3)) (fun a=>q1 (St14 a0 a1 a2 a3 a))) a
  cases a with
  | s0 u0 u1 u2 u3 u4=>exact (body14_0 N (orc T (G N) live [] N 2) (orc T (G N) live [] N 1) q1 a0 a1 a2 a3 u0 u1 u2 u3 u4).trans hc
  | s1 u0 u1 u2 u3=>exact (body14_1 N (orc T (G N) live [] N 2) (orc T (G N) live [] N 1) q1 a0 a1 a2 a3 u0 u1 u2 u3).trans hc) N a)
theorem lp6_eq (N:Nat) (a0:Group) (a1:Int) (a2:Node) (a3:List Message) (a:Int×(List Node)×(List Message)×Int×Int×Int×(List Entry)×(List Int)×Int×(List Int)×(List Int)×(List Int)×Int×Int×Int×Bool):(orc T (G N) live [] N 2) loop6 (K6 N (orc T (G N) live [] N 2)) (St6 a0 a1 a2 a3 a)=lp6 N a0 a1 a2 a3 a:=
 (orc_loop (b:=body6) (live:=[1,3,4,6,8,9,10]) (by kernel_rfl)).trans (iter_eq (St6 a0 a1 a2 a3) _ _ (fun q1 a=>by
  have hc:=congrFun (congrFun (congrArg (step6 N a0 a1 a2 a3) (funext fun a=>lp14_eq N a0 a1 a2 a3 a)) (fun a=>q1 (St6 a0 a1 a2 a3 a))) a
  obtain ⟨u0,u1,u2,u3,u4,u5,u6,u7,u8,u9,u10,u11,u12,u13,u14,u15⟩:=a
  exact (body6_0 N (orc T (G N) live [] N 2) (orc T (G N) live [] N 1) q1 a0 a1 a2 a3 u0 u1 u2 u3 u4 u5 u6 u7 u8 u9 u10 u11 u12 u13 u14 u15).trans hc) N a)
theorem G_ok (N:Nat):GamOK Try.prog (G N):=gam_ok (trivial)
theorem snd (N:Nat):Sound Try.prog E 63 (sp N):=
 Mir.sound T_OK (G_ok N) mixed Try.func63 (c:=code) (by kernel_rfl) (by kernel_rfl) (sp N) (Nat.le_of_ble_eq_true (by kernel_rfl)) live [] (by
  rintro ⟨a0,a1,a2,a3,_⟩ r h
  exact ⟨N,2,((run N _ a0 a1 a2 a3).trans (congrArg (m0 N a0 a1 a2 a3) (funext fun a=>lp6_eq N a0 a1 a2 a3 a))).trans h⟩)
end spec_l11Set
namespace spec_l11Wire
noncomputable def code:Code:=Try.f62.body.getD .skip
abbrev live:Live:=[]
noncomputable def G (N:Nat):Ctx E:=gam [(34,[],spec_l01In.sp N),(72,[],spec_l10Take.sp N),(63,[],spec_l11Set.sp N)]
theorem run (N:Nat) (o0:Orc E R) (a0:Group) (a1:GroupAct):runF T (G N) live [] Try.f62 code (sp N) o0 (a0,a1,())=m N a0 a1:=by kernel_rfl
theorem G_ok (N:Nat):GamOK Try.prog (G N):=gam_ok (⟨spec_l01In.snd N,spec_l10Take.snd N,spec_l11Set.snd N,trivial⟩)
theorem snd (N:Nat):Sound Try.prog E 62 (sp N):=
 Mir.sound T_OK (G_ok N) mixed Try.func62 (c:=code) (by kernel_rfl) (by kernel_rfl) (sp N) (Nat.le_of_ble_eq_true (by kernel_rfl)) live [] (by
  rintro ⟨a0,a1,_⟩ r h
  exact ⟨N,2,((run N _ a0 a1).trans rfl).trans h⟩)
end spec_l11Wire
namespace spec_l10Crash
noncomputable def code:Code:=Try.f64.body.getD .skip
abbrev live:Live:=[]
noncomputable def G (N:Nat):Ctx E:=gam [(71,[],spec_l10New.sp N)]
theorem run (N:Nat) (o0:Orc E R) (a0:Node):runF T (G N) live [] Try.f64 code (sp N) o0 (a0,())=m N a0:=by kernel_rfl
theorem G_ok (N:Nat):GamOK Try.prog (G N):=gam_ok (⟨spec_l10New.snd N,trivial⟩)
theorem snd (N:Nat):Sound Try.prog E 64 (sp N):=
 Mir.sound T_OK (G_ok N) mixed Try.func64 (c:=code) (by kernel_rfl) (by kernel_rfl) (sp N) (Nat.le_of_ble_eq_true (by kernel_rfl)) live [] (by
  rintro ⟨a0,_⟩ r h
  exact ⟨N,2,((run N _ a0).trans rfl).trans h⟩)
end spec_l10Crash
namespace spec_l10Elect
noncomputable def code:Code:=Try.f74.body.getD .skip
abbrev live:Live:=[(12,[2,4,6,7,8])]
noncomputable def G (N:Nat):Ctx E:=gam [(21,[],spec_l10Members.sp N),(85,[],spec_l10Most.sp N),(86,[],spec_l10Lead.sp N),(87,[],spec_l10Term.sp N)]
noncomputable def loop12:Code:=codeAt code [1,1,1,1,1,1,1,1,1,1,0,1,0]
noncomputable def body12:Code:=codeAt loop12 [0]
noncomputable def K12 (N:Nat) (o0:Orc E R):KT E R:=kAt T (G N) live [] o0 code [1,1,1,1,1,1,1,1,1,1,0,1,0] (kfin T Try.f74 (sp N))
noncomputable def St12 (a0:Node) (a1:Int):((List Int)×Int×Int×Int×Int×Int×(List Entry)×(List Int)×(List Int)×(List Int)×Int×Int×Int×Int×Int×Int×Int×(List Message))→St E
 | (v0,v1,v3,v6,v8,v9,v11,v12,v13,v14,v15,v16,v17,v18,v19,v20,v21,v22)=>{ ρ:=[(2,.c (.at (.ptr 0 0))),(4,.c (.at (.ptr 5 0))),(6,.c (.at (.ro 3 (.int .i64) v0))),(7,.c (.at (.own 6))),(8,.c (.at (.int .i64 v1)))],H:=[(0,.box 26 [.int .i64 a0.Id,.int .i64 v3,.int .i64 a0.Id,.own 1,.ro 3 (.int .i64) a0.Start,.int .i64 v6,.own 2,.own 3,.own 4,.int .i64 a0.Commit,.int .i64 v8,.int .i64 v9,.bool a0.Up]),(1,.row 35 (.st 35) v11 false),(2,.row 3 (.int .i64) v12 false),(3,.row 3 (.int .i64) v13 false),(4,.row 3 (.int .i64) v14 false),(5,.box 26 [.int .i64 v15,.int .i64 v16,.int .i64 v17,.nils,.nils,.int .i64 v18,.nils,.nils,.nils,.int .i64 v19,.int .i64 v20,.int .i64 v21,.bool false]),(6,.row 97 (.st 97) v22 false)],nx:=7,n:=72,pin:=[] }
theorem run (N:Nat) (o0:Orc E R) (a0:Node) (a1:Int):runF T (G N) live [] Try.f74 code (sp N) o0 (a0,a1,())=m0 N a0 a1 (fun a=>o0 loop12 (K12 N o0) (St12 a0 a1 a)):=by kernel_rfl
theorem body12_0 (N:Nat) (o0:Orc E R) (o1:Orc E R) (q1:St E→Option R) (a0:Node) (a1:Int) (v0:List Int) (v1:Int) (v3:Int) (v6:Int) (v8:Int) (v9:Int) (v11:List Entry) (v12:List Int) (v13:List Int) (v14:List Int) (v15:Int) (v16:Int) (v17:Int) (v18:Int) (v19:Int) (v20:Int) (v21:Int) (v22:List Message):runA T (G N) live [] o1 body12 (St12 a0 a1 (v0,v1,v3,v6,v8,v9,v11,v12,v13,v14,v15,v16,v17,v18,v19,v20,v21,v22)) (kloop [2,4,6,7,8] q1 (K12 N o0))=step12 N a0 a1 (fun a=>q1 (St12 a0 a1 a)) (v0,v1,v3,v6,v8,v9,v11,v12,v13,v14,v15,v16,v17,v18,v19,v20,v21,v22):=by kernel_rfl
theorem lp12_eq (N:Nat) (a0:Node) (a1:Int) (a:(List Int)×Int×Int×Int×Int×Int×(List Entry)×(List Int)×(List Int)×(List Int)×Int×Int×Int×Int×Int×Int×Int×(List Message)):(orc T (G N) live [] N 2) loop12 (K12 N (orc T (G N) live [] N 2)) (St12 a0 a1 a)=lp12 N a0 a1 a:=
 (orc_loop (b:=body12) (live:=[2,4,6,7,8]) (by kernel_rfl)).trans (iter_eq (St12 a0 a1) _ _ (fun q1 a=>by
  have hc:=congrFun (congrFun (rfl:(step12 N a0 a1)=(step12 N a0 a1)) (fun a=>q1 (St12 a0 a1 a))) a
  obtain ⟨u0,u1,u2,u3,u4,u5,u6,u7,u8,u9,u10,u11,u12,u13,u14,u15,u16,u17⟩:=a
  exact (body12_0 N (orc T (G N) live [] N 2) (orc T (G N) live [] N 1) q1 a0 a1 u0 u1 u2 u3 u4 u5 u6 u7 u8 u9 u10 u11 u12 u13 u14 u15 u16 u17).trans hc) N a)
theorem G_ok (N:Nat):GamOK Try.prog (G N):=gam_ok (⟨spec_l10Members.snd N,spec_l10Most.snd N,spec_l10Lead.snd N,spec_l10Term.snd N,trivial⟩)
theorem snd (N:Nat):Sound Try.prog E 74 (sp N):=
 Mir.sound T_OK (G_ok N) mixed Try.func74 (c:=code) (by kernel_rfl) (by kernel_rfl) (sp N) (Nat.le_of_ble_eq_true (by kernel_rfl)) live [] (by
  rintro ⟨a0,a1,_⟩ r h
  exact ⟨N,2,((run N _ a0 a1).trans (congrArg (m0 N a0 a1) (funext fun a=>lp12_eq N a0 a1 a))).trans h⟩)
end spec_l10Elect
namespace spec_l10Tick
noncomputable def code:Code:=Try.f65.body.getD .skip
abbrev live:Live:=[]
noncomputable def G (N:Nat):Ctx E:=gam [(67,[],spec_l10Own.sp N),(73,[],spec_l10Tell.sp N),(21,[],spec_l10Members.sp N),(37,[],spec_l10Has.sp N),(74,[],spec_l10Elect.sp N)]
theorem run (N:Nat) (o0:Orc E R) (a0:Node) (a1:Int):runF T (G N) live [] Try.f65 code (sp N) o0 (a0,a1,())=m N a0 a1:=by kernel_rfl
theorem G_ok (N:Nat):GamOK Try.prog (G N):=gam_ok (⟨spec_l10Own.snd N,spec_l10Tell.snd N,spec_l10Members.snd N,spec_l10Has.snd N,spec_l10Elect.snd N,trivial⟩)
theorem snd (N:Nat):Sound Try.prog E 65 (sp N):=
 Mir.sound T_OK (G_ok N) mixed Try.func65 (c:=code) (by kernel_rfl) (by kernel_rfl) (sp N) (Nat.le_of_ble_eq_true (by kernel_rfl)) live [] (by
  rintro ⟨a0,a1,_⟩ r h
  exact ⟨N,2,((run N _ a0 a1).trans rfl).trans h⟩)
end spec_l10Tick
namespace spec_l11Allowed
noncomputable def code:Code:=Try.f19.body.getD .skip
abbrev live:Live:=[(10,[2,8]),(4,[1,2,5,6,7])]
noncomputable def G (N:Nat):Ctx E:=gam [(21,[],spec_l10Members_.sp N),(37,[],spec_l10Has.sp N),(36,[],spec_l01Bit.sp N)]
noncomputable def loop4:Code:=codeAt code [1,1,1,0,1,0]
noncomputable def body4:Code:=codeAt loop4 [0]
noncomputable def loop10:Code:=codeAt code [1,1,1,1,1,0,1,0]
noncomputable def body10:Code:=codeAt loop10 [0]
noncomputable def K4 (N:Nat) (o0:Orc E R):KT E R:=kAt T (G N) live [] o0 code [1,1,1,0,1,0] (kfin T Try.f19 (sp N))
noncomputable def St4 (a0:Node) (a1:List Int):((List Int)×Int×Int)→St E
 | (v1,v2,v3)=>{ ρ:=[(1,.c (.at (.ro 3 (.int .i64) a1))),(2,.c (.at (.ptr 0 0))),(5,.c (.at (.ro 3 (.int .i64) v1))),(6,.c (.at (.int .i64 v2))),(7,.c (.at (.int .i64 v3)))],H:=[(0,.box 26 [.int .i64 a0.Id,.int .i64 a0.Term,.int .i64 a0.Vote,.ro 35 (.st 35) a0.Log,.ro 3 (.int .i64) a0.Start,.int .i64 a0.Role,.ro 3 (.int .i64) a0.Votes,.ro 3 (.int .i64) a0.Next,.ro 3 (.int .i64) a0.Match,.int .i64 a0.Commit,.int .i64 a0.Elapsed,.int .i64 a0.Wait,.bool a0.Up])],nx:=1,n:=66,pin:=[] }
noncomputable def K10 (N:Nat) (o0:Orc E R):KT E R:=kAt T (G N) live [] o0 code [1,1,1,1,1,0,1,0] (kfin T Try.f19 (sp N))
noncomputable def St10 (a0:Node) (a1:List Int):Int→St E
 | v0=>{ ρ:=[(2,.c (.at (.ptr 0 0))),(8,.c (.at (.int .i64 v0)))],H:=[(0,.box 26 [.int .i64 a0.Id,.int .i64 a0.Term,.int .i64 a0.Vote,.ro 35 (.st 35) a0.Log,.ro 3 (.int .i64) a0.Start,.int .i64 a0.Role,.ro 3 (.int .i64) a0.Votes,.ro 3 (.int .i64) a0.Next,.ro 3 (.int .i64) a0.Match,.int .i64 a0.Commit,.int .i64 a0.Elapsed,.int .i64 a0.Wait,.bool a0.Up])],nx:=1,n:=66,pin:=[] }
theorem run (N:Nat) (o0:Orc E R) (a0:Node) (a1:List Int):runF T (G N) live [] Try.f19 code (sp N) o0 (a0,a1,())=m0 N a0 a1 (fun a=>o0 loop4 (K4 N o0) (St4 a0 a1 a)):=by kernel_rfl
theorem body4_0 (N:Nat) (o0:Orc E R) (o1:Orc E R) (q1:St E→Option R) (a0:Node) (a1:List Int) (v1:List Int) (v2:Int) (v3:Int):runA T (G N) live [] o1 body4 (St4 a0 a1 (v1,v2,v3)) (kloop [1,2,5,6,7] q1 (K4 N o0))=step4 N a0 a1 (fun a=>o0 loop10 (K10 N o0) (St10 a0 a1 a)) (fun a=>q1 (St4 a0 a1 a)) (v1,v2,v3):=by kernel_rfl
theorem body10_0 (N:Nat) (o0:Orc E R) (o1:Orc E R) (q1:St E→Option R) (a0:Node) (a1:List Int) (v0:Int):runA T (G N) live [] o1 body10 (St10 a0 a1 v0) (kloop [2,8] q1 (K10 N o0))=step10 N a0 a1 (fun a=>q1 (St10 a0 a1 a)) v0:=by kernel_rfl
theorem lp10_eq (N:Nat) (a0:Node) (a1:List Int) (a:Int):(orc T (G N) live [] N 2) loop10 (K10 N (orc T (G N) live [] N 2)) (St10 a0 a1 a)=lp10 N a0 a1 a:=
 (orc_loop (b:=body10) (live:=[2,8]) (by kernel_rfl)).trans (iter_eq (St10 a0 a1) _ _ (fun q1 a=>by
  have hc:=congrFun (congrFun (rfl:(step10 N a0 a1)=(step10 N a0 a1)) (fun a=>q1 (St10 a0 a1 a))) a
  exact (body10_0 N (orc T (G N) live [] N 2) (orc T (G N) live [] N 1) q1 a0 a1 a).trans hc) N a)
theorem lp4_eq (N:Nat) (a0:Node) (a1:List Int) (a:(List Int)×Int×Int):(orc T (G N) live [] N 2) loop4 (K4 N (orc T (G N) live [] N 2)) (St4 a0 a1 a)=lp4 N a0 a1 a:=
 (orc_loop (b:=body4) (live:=[1,2,5,6,7]) (by kernel_rfl)).trans (iter_eq (St4 a0 a1) _ _ (fun q1 a=>by
  have hc:=congrFun (congrFun (congrArg (step4 N a0 a1) (funext fun a=>lp10_eq N a0 a1 a)) (fun a=>q1 (St4 a0 a1 a))) a
  obtain ⟨u0,u1,u2⟩:=a
  exact (body4_0 N (orc T (G N) live [] N 2) (orc T (G N) live [] N 1) q1 a0 a1 u0 u1 u2).trans hc) N a)
theorem G_ok (N:Nat):GamOK Try.prog (G N):=gam_ok (⟨spec_l10Members_.snd N,spec_l10Has.snd N,spec_l01Bit.snd N,trivial⟩)
theorem snd (N:Nat):Sound Try.prog E 19 (sp N):=
 Mir.sound T_OK (G_ok N) mixed Try.func19 (c:=code) (by kernel_rfl) (by kernel_rfl) (sp N) (Nat.le_of_ble_eq_true (by kernel_rfl)) live [] (by
  rintro ⟨a0,a1,_⟩ r h
  exact ⟨N,2,((run N _ a0 a1).trans (congrArg (m0 N a0 a1) (funext fun a=>lp4_eq N a0 a1 a))).trans h⟩)
end spec_l11Allowed
namespace spec_l10Propose
noncomputable def code:Code:=Try.f66.body.getD .skip
abbrev live:Live:=[]
noncomputable def G (N:Nat):Ctx E:=gam [(67,[],spec_l10Own.sp N),(75,[],spec_l10Advance.sp N),(73,[],spec_l10Tell.sp N)]
theorem run (N:Nat) (o0:Orc E R) (a0:Node) (a1:Entry):runF T (G N) live [] Try.f66 code (sp N) o0 (a0,a1,())=m N a0 a1:=by kernel_rfl
theorem G_ok (N:Nat):GamOK Try.prog (G N):=gam_ok (⟨spec_l10Own.snd N,spec_l10Advance.snd N,spec_l10Tell.snd N,trivial⟩)
theorem snd (N:Nat):Sound Try.prog E 66 (sp N):=
 Mir.sound T_OK (G_ok N) mixed Try.func66 (c:=code) (by kernel_rfl) (by kernel_rfl) (sp N) (Nat.le_of_ble_eq_true (by kernel_rfl)) live [] (by
  rintro ⟨a0,a1,_⟩ r h
  exact ⟨N,2,((run N _ a0 a1).trans rfl).trans h⟩)
end spec_l10Propose
namespace spec_l11Step
noncomputable def code:Code:=Try.f53.body.getD .skip
abbrev live:Live:=[]
noncomputable def G (N:Nat):Ctx E:=gam [(34,[],spec_l01In.sp N),(62,[],spec_l11Wire.sp N),(63,[],spec_l11Set.sp N),(64,[],spec_l10Crash.sp N),(65,[],spec_l10Tick.sp N),(41,[],spec_l02Members.sp N),(19,[],spec_l11Allowed.sp N),(66,[],spec_l10Propose.sp N)]
theorem run (N:Nat) (o0:Orc E R) (a0:Group) (a1:GroupAct):runF T (G N) live [] Try.f53 code (sp N) o0 (a0,a1,())=m N a0 a1:=by kernel_rfl
theorem G_ok (N:Nat):GamOK Try.prog (G N):=gam_ok (⟨spec_l01In.snd N,spec_l11Wire.snd N,spec_l11Set.snd N,spec_l10Crash.snd N,spec_l10Tick.snd N,spec_l02Members.snd N,spec_l11Allowed.snd N,spec_l10Propose.snd N,trivial⟩)
theorem snd (N:Nat):Sound Try.prog E 53 (sp N):=
 Mir.sound T_OK (G_ok N) mixed Try.func53 (c:=code) (by kernel_rfl) (by kernel_rfl) (sp N) (Nat.le_of_ble_eq_true (by kernel_rfl)) live [] (by
  rintro ⟨a0,a1,_⟩ r h
  exact ⟨N,2,((run N _ a0 a1).trans rfl).trans h⟩)
end spec_l11Step
namespace spec_l11Own
noncomputable def code:Code:=Try.f54.body.getD .skip
abbrev live:Live:=[(13,[1,2,3,7]),(7,[1,2,3,5]),(3,[1,2,3,4])]
noncomputable def G (N:Nat):Ctx E:=gam [(67,[],spec_l10Own.sp N)]
noncomputable def loop3:Code:=codeAt code [1,1,0,1,0]
noncomputable def body3:Code:=codeAt loop3 [0]
noncomputable def loop7:Code:=codeAt code [1,1,1,0,1,0]
noncomputable def body7:Code:=codeAt loop7 [0]
noncomputable def loop13:Code:=codeAt code [1,1,1,1,0,1,0]
noncomputable def body13:Code:=codeAt loop13 [0]
noncomputable def K3 (N:Nat) (o0:Orc E R):KT E R:=kAt T (G N) live [] o0 code [1,1,0,1,0] (kfin T Try.f54 (sp N))
noncomputable def St3 (a0:Group):(Int×(List Node)×(List Message)×(List Lead)×(List Done))→St E
 | (v0,v5,v6,v7,v8)=>{ ρ:=[(1,.c (.at (.ptr 0 0))),(2,.c (.at (.ptr 1 0))),(3,.c (.at (.ptr 2 0))),(4,.c (.at (.int .i64 v0)))],H:=[(0,.box 52 [.ro 26 (.st 26) a0.Nodes,.ro 97 (.st 97) a0.Wire,.ro 99 (.st 99) a0.Leads,.ro 109 (.st 109) a0.Dones]),(1,.box 52 [.nils,.nils,.nils,.nils]),(2,.box 52 [.own 3,.own 4,.own 5,.own 6]),(3,.row 26 (.st 26) v5 false),(4,.row 97 (.st 97) v6 false),(5,.row 99 (.st 99) v7 false),(6,.row 109 (.st 109) v8 false)],nx:=7,n:=82,pin:=[] }
noncomputable def K7 (N:Nat) (o0:Orc E R):KT E R:=kAt T (G N) live [] o0 code [1,1,1,0,1,0] (kfin T Try.f54 (sp N))
noncomputable def St7 (a0:Group):(Int×(List Node)×(List Message)×(List Lead)×(List Done))→St E
 | (v0,v5,v6,v7,v8)=>{ ρ:=[(1,.c (.at (.ptr 0 0))),(2,.c (.at (.ptr 1 0))),(3,.c (.at (.ptr 2 0))),(5,.c (.at (.int .i64 v0)))],H:=[(0,.box 52 [.ro 26 (.st 26) a0.Nodes,.ro 97 (.st 97) a0.Wire,.ro 99 (.st 99) a0.Leads,.ro 109 (.st 109) a0.Dones]),(1,.box 52 [.nils,.nils,.nils,.nils]),(2,.box 52 [.own 3,.own 4,.own 5,.own 6]),(3,.row 26 (.st 26) v5 false),(4,.row 97 (.st 97) v6 false),(5,.row 99 (.st 99) v7 false),(6,.row 109 (.st 109) v8 false)],nx:=7,n:=82,pin:=[] }
noncomputable def K13 (N:Nat) (o0:Orc E R):KT E R:=kAt T (G N) live [] o0 code [1,1,1,1,0,1,0] (kfin T Try.f54 (sp N))
noncomputable def St13 (a0:Group):(Int×(List Node)×(List Message)×(List Lead)×(List Done))→St E
 | (v0,v5,v6,v7,v8)=>{ ρ:=[(1,.c (.at (.ptr 0 0))),(2,.c (.at (.ptr 1 0))),(3,.c (.at (.ptr 2 0))),(7,.c (.at (.int .i64 v0)))],H:=[(0,.box 52 [.ro 26 (.st 26) a0.Nodes,.ro 97 (.st 97) a0.Wire,.ro 99 (.st 99) a0.Leads,.ro 109 (.st 109) a0.Dones]),(1,.box 52 [.nils,.nils,.nils,.nils]),(2,.box 52 [.own 3,.own 4,.own 5,.own 6]),(3,.row 26 (.st 26) v5 false),(4,.row 97 (.st 97) v6 false),(5,.row 99 (.st 99) v7 false),(6,.row 109 (.st 109) v8 false)],nx:=7,n:=82,pin:=[] }
theorem run (N:Nat) (o0:Orc E R) (a0:Group):runF T (G N) live [] Try.f54 code (sp N) o0 (a0,())=m0 N a0 (fun a=>o0 loop3 (K3 N o0) (St3 a0 a)):=by kernel_rfl
theorem body3_0 (N:Nat) (o0:Orc E R) (o1:Orc E R) (q1:St E→Option R) (a0:Group) (v0:Int) (v5:List Node) (v6:List Message) (v7:List Lead) (v8:List Done):runA T (G N) live [] o1 body3 (St3 a0 (v0,v5,v6,v7,v8)) (kloop [1,2,3,4] q1 (K3 N o0))=step3 N a0 (fun a=>o0 loop7 (K7 N o0) (St7 a0 a)) (fun a=>q1 (St3 a0 a)) (v0,v5,v6,v7,v8):=by kernel_rfl
theorem body7_0 (N:Nat) (o0:Orc E R) (o1:Orc E R) (q1:St E→Option R) (a0:Group) (v0:Int) (v5:List Node) (v6:List Message) (v7:List Lead) (v8:List Done):runA T (G N) live [] o1 body7 (St7 a0 (v0,v5,v6,v7,v8)) (kloop [1,2,3,5] q1 (K7 N o0))=step7 N a0 (fun a=>o0 loop13 (K13 N o0) (St13 a0 a)) (fun a=>q1 (St7 a0 a)) (v0,v5,v6,v7,v8):=by kernel_rfl
theorem body13_0 (N:Nat) (o0:Orc E R) (o1:Orc E R) (q1:St E→Option R) (a0:Group) (v0:Int) (v5:List Node) (v6:List Message) (v7:List Lead) (v8:List Done):runA T (G N) live [] o1 body13 (St13 a0 (v0,v5,v6,v7,v8)) (kloop [1,2,3,7] q1 (K13 N o0))=step13 N a0 (fun a=>q1 (St13 a0 a)) (v0,v5,v6,v7,v8):=by kernel_rfl
theorem lp13_eq (N:Nat) (a0:Group) (a:Int×(List Node)×(List Message)×(List Lead)×(List Done)):(orc T (G N) live [] N 2) loop13 (K13 N (orc T (G N) live [] N 2)) (St13 a0 a)=lp13 N a0 a:=
 (orc_loop (b:=body13) (live:=[1,2,3,7]) (by kernel_rfl)).trans (iter_eq (St13 a0) _ _ (fun q1 a=>by
  have hc:=congrFun (congrFun (rfl:(step13 N a0)=(step13 N a0)) (fun a=>q1 (St13 a0 a))) a
  obtain ⟨u0,u1,u2,u3,u4⟩:=a
  exact (body13_0 N (orc T (G N) live [] N 2) (orc T (G N) live [] N 1) q1 a0 u0 u1 u2 u3 u4).trans hc) N a)
theorem lp7_eq (N:Nat) (a0:Group) (a:Int×(List Node)×(List Message)×(List Lead)×(List Done)):(orc T (G N) live [] N 2) loop7 (K7 N (orc T (G N) live [] N 2)) (St7 a0 a)=lp7 N a0 a:=
 (orc_loop (b:=body7) (live:=[1,2,3,5]) (by kernel_rfl)).trans (iter_eq (St7 a0) _ _ (fun q1 a=>by
  have hc:=congrFun (congrFun (congrArg (step7 N a0) (funext fun a=>lp13_eq N a0 a)) (fun a=>q1 (St7 a0 a))) a
  obtain ⟨u0,u1,u2,u3,u4⟩:=a
  exact (body7_0 N (orc T (G N) live [] N 2) (orc T (G N) live [] N 1) q1 a0 u0 u1 u2 u3 u4).trans hc) N a)
theorem lp3_eq (N:Nat) (a0:Group) (a:Int×(List Node)×(List Message)×(List Lead)×(List Done)):(orc T (G N) live [] N 2) loop3 (K3 N (orc T (G N) live [] N 2)) (St3 a0 a)=lp3 N a0 a:=
 (orc_loop (b:=body3) (live:=[1,2,3,4]) (by kernel_rfl)).trans (iter_eq (St3 a0) _ _ (fun q1 a=>by
  have hc:=congrFun (congrFun (congrArg (step3 N a0) (funext fun a=>lp7_eq N a0 a)) (fun a=>q1 (St3 a0 a))) a
  obtain ⟨u0,u1,u2,u3,u4⟩:=a
  exact (body3_0 N (orc T (G N) live [] N 2) (orc T (G N) live [] N 1) q1 a0 u0 u1 u2 u3 u4).trans hc) N a)
theorem G_ok (N:Nat):GamOK Try.prog (G N):=gam_ok (⟨spec_l10Own.snd N,trivial⟩)
theorem snd (N:Nat):Sound Try.prog E 54 (sp N):=
 Mir.sound T_OK (G_ok N) mixed Try.func54 (c:=code) (by kernel_rfl) (by kernel_rfl) (sp N) (Nat.le_of_ble_eq_true (by kernel_rfl)) live [] (by
  rintro ⟨a0,_⟩ r h
  exact ⟨N,2,((run N _ a0).trans (congrArg (m0 N a0) (funext fun a=>lp3_eq N a0 a))).trans h⟩)
end spec_l11Own
namespace spec_GroupRun
noncomputable def code:Code:=Try.f42.body.getD .skip
abbrev live:Live:=[(10,[1,4,7,9,10])]
noncomputable def G (N:Nat):Ctx E:=gam [(52,[],spec_NewGroup.sp N),(53,[],spec_l11Step.sp N),(54,[],spec_l11Own.sp N)]
noncomputable def loop10:Code:=codeAt code [1,1,1,1,1,1,0,1,0]
noncomputable def body10:Code:=codeAt loop10 [0]
noncomputable def K10 (N:Nat) (o0:Orc E R):KT E R:=kAt T (G N) live [] o0 code [1,1,1,1,1,1,0,1,0] (kfin T Try.f42 (sp N))
noncomputable def St10 (a0:Int) (a1:List GroupAct):A10→St E
 | .s0 v1 v2 v3 v4 v5 v6=>{ ρ:=[(1,.c (.at (.ro 84 (.st 84) a1))),(4,.c (.at (.ptr 0 0))),(7,.c (.at (.ptr 1 0))),(9,.c (.at (.own 6))),(10,.c (.at (.int .i64 v1)))],H:=[(0,.box 52 [.nils,.nils,.nils,.nils]),(1,.box 52 [.own 2,.own 3,.own 4,.own 5]),(2,.row 26 (.st 26) v2 false),(3,.row 97 (.st 97) v3 false),(4,.row 99 (.st 99) v4 false),(5,.row 109 (.st 109) v5 false),(6,.row 3 (.int .i64) v6 false)],nx:=7,n:=66,pin:=[] }
 | .s1 v1 v2 v3 v4 v5 v6=>{ ρ:=[(1,.c (.at (.ro 84 (.st 84) a1))),(4,.c (.at (.ptr 0 0))),(7,.c (.at (.ptr 1 0))),(9,.c (.at (.own 2))),(10,.c (.at (.int .i64 v1)))],H:=[(0,.box 52 [.nils,.nils,.nils,.nils]),(1,.box 52 [.ro 26 (.st 26) v2,.ro 97 (.st 97) v3,.ro 99 (.st 99) v4,.ro 109 (.st 109) v5]),(2,.row 3 (.int .i64) v6 false)],nx:=3,n:=66,pin:=[] }
theorem run (N:Nat) (o0:Orc E R) (a0:Int) (a1:List GroupAct):runF T (G N) live [] Try.f42 code (sp N) o0 (a0,a1,())=m0 N a0 a1 (fun a=>o0 loop10 (K10 N o0) (St10 a0 a1 a)):=by kernel_rfl
theorem body10_0 (N:Nat) (o0:Orc E R) (o1:Orc E R) (q1:St E→Option R) (a0:Int) (a1:List GroupAct) (v1:Int) (v2:List Node) (v3:List Message) (v4:List Lead) (v5:List Done) (v6:List Int):runA T (G N) live [] o1 body10 (St10 a0 a1 (.s0 v1 v2 v3 v4 v5 v6)) (kloop [1,4,7,9,10] q1 (K10 N o0))=step10 N a0 a1 (fun a=>q1 (St10 a0 a1 a)) (.s0 v1 v2 v3 v4 v5 v6):=by kernel_rfl
theorem body10_1 (N:Nat) (o0:Orc E R) (o1:Orc E R) (q1:St E→Option R) (a0:Int) (a1:List GroupAct) (v1:Int) (v2:List Node) (v3:List Message) (v4:List Lead) (v5:List Done) (v6:List Int):runA T (G N) live [] o1 body10 (St10 a0 a1 (.s1 v1 v2 v3 v4 v5 v6)) (kloop [1,4,7,9,10] q1 (K10 N o0))=step10 N a0 a1 (fun a=>q1 (St10 a0 a1 a)) (.s1 v1 v2 v3 v4 v5 v6):=by kernel_rfl
theorem lp10_eq (N:Nat) (a0:Int) (a1:List GroupAct) (a:A10):(orc T (G N) live [] N 2) loop10 (K10 N (orc T (G N) live [] N 2)) (St10 a0 a1 a)=lp10 N a0 a1 a:=
 (orc_loop (b:=body10) (live:=[1,4,7,9,10]) (by kernel_rfl)).trans (iter_eq (St10 a0 a1) _ _ (fun q1 a=>by
  have hc:=congrFun (congrFun (rfl:(step10 N a0 a1)=(step10 N a0 a1)) (fun a=>q1 (St10 a0 a1 a))) a
  cases a with
  | s0 u0 u1 u2 u3 u4 u5=>exact (body10_0 N (orc T (G N) live [] N 2) (orc T (G N) live [] N 1) q1 a0 a1 u0 u1 u2 u3 u4 u5).trans hc
  | s1 u0 u1 u2 u3 u4 u5=>exact (body10_1 N (orc T (G N) live [] N 2) (orc T (G N) live [] N 1) q1 a0 a1 u0 u1 u2 u3 u4 u5).trans hc) N a)
theorem G_ok (N:Nat):GamOK Try.prog (G N):=gam_ok (⟨spec_NewGroup.snd N,spec_l11Step.snd N,spec_l11Own.snd N,trivial⟩)
theorem snd (N:Nat):Sound Try.prog E 42 (sp N):=
 Mir.sound T_OK (G_ok N) mixed Try.func42 (c:=code) (by kernel_rfl) (by kernel_rfl) (sp N) (Nat.le_of_ble_eq_true (by kernel_rfl)) live [] (by
  rintro ⟨a0,a1,_⟩ r h
  exact ⟨N,2,((run N _ a0 a1).trans (congrArg (m0 N a0 a1) (funext fun a=>lp10_eq N a0 a1 a))).trans h⟩)
end spec_GroupRun
namespace spec_l00Src_group_
noncomputable def code:Code:=Try.f22.body.getD .skip
abbrev live:Live:=[]
noncomputable def G (N:Nat):Ctx E:=gam [(23,[],spec_l00Src_next_.sp N),(43,[],spec_l00Src_groupActs.sp N),(42,[],spec_GroupRun.sp N)]
theorem run (N:Nat) (o0:Orc E R) (a0:l00Src):runF T (G N) live [] Try.f22 code (sp N) o0 (a0,())=m N a0:=by kernel_rfl
theorem G_ok (N:Nat):GamOK Try.prog (G N):=gam_ok (⟨spec_l00Src_next_.snd N,spec_l00Src_groupActs.snd N,spec_GroupRun.snd N,trivial⟩)
theorem snd (N:Nat):Sound Try.prog E 22 (sp N):=
 Mir.sound T_OK (G_ok N) mixed Try.func22 (c:=code) (by kernel_rfl) (by kernel_rfl) (sp N) (Nat.le_of_ble_eq_true (by kernel_rfl)) live [] (by
  rintro ⟨a0,_⟩ r h
  exact ⟨N,2,((run N _ a0).trans rfl).trans h⟩)
end spec_l00Src_group_
namespace spec_l00Src_node
noncomputable def code:Code:=Try.f12.body.getD .skip
abbrev live:Live:=[]
noncomputable def G (N:Nat):Ctx E:=gam [(22,[],spec_l00Src_group_.sp N),(23,[],spec_l00Src_next_.sp N)]
theorem run (N:Nat) (o0:Orc E R) (a0:l00Src):runF T (G N) live [] Try.f12 code (sp N) o0 (a0,())=m N a0:=by kernel_rfl
theorem G_ok (N:Nat):GamOK Try.prog (G N):=gam_ok (⟨spec_l00Src_group_.snd N,spec_l00Src_next_.snd N,trivial⟩)
theorem snd (N:Nat):Sound Try.prog E 12 (sp N):=
 Mir.sound T_OK (G_ok N) mixed Try.func12 (c:=code) (by kernel_rfl) (by kernel_rfl) (sp N) (Nat.le_of_ble_eq_true (by kernel_rfl)) live [] (by
  rintro ⟨a0,_⟩ r h
  exact ⟨N,2,((run N _ a0).trans rfl).trans h⟩)
end spec_l00Src_node
namespace spec_NodeOf
noncomputable def code:Code:=Try.f4.body.getD .skip
abbrev live:Live:=[]
noncomputable def G (N:Nat):Ctx E:=gam [(11,[],spec_l00Source.sp N),(12,[],spec_l00Src_node.sp N)]
theorem run (N:Nat) (o0:Orc E R) (a0:List Int):runF T (G N) live [] Try.f4 code (sp N) o0 (a0,())=m N a0:=by kernel_rfl
theorem G_ok (N:Nat):GamOK Try.prog (G N):=gam_ok (⟨spec_l00Source.snd N,spec_l00Src_node.snd N,trivial⟩)
theorem snd (N:Nat):Sound Try.prog E 4 (sp N):=
 Mir.sound T_OK (G_ok N) mixed Try.func4 (c:=code) (by kernel_rfl) (by kernel_rfl) (sp N) (Nat.le_of_ble_eq_true (by kernel_rfl)) live [] (by
  rintro ⟨a0,_⟩ r h
  exact ⟨N,2,((run N _ a0).trans rfl).trans h⟩)
end spec_NodeOf
namespace laws_at
noncomputable def code:Code:=Try.f5.body.getD .skip
abbrev live:Live:=[]
noncomputable def G (N:Nat):Ctx E:=gam []
theorem run (N:Nat) (o0:Orc E R) (a0:List Int) (a1:Int) (a2:Int):runF T (G N) live [] Try.f5 code (sp N) o0 (a0,a1,a2,())=m N a0 a1 a2:=by kernel_rfl
theorem G_ok (N:Nat):GamOK Try.prog (G N):=gam_ok (trivial)
theorem snd (N:Nat):Sound Try.prog E 5 (sp N):=
 Mir.sound T_OK (G_ok N) mixed Try.func5 (c:=code) (by kernel_rfl) (by kernel_rfl) (sp N) (Nat.le_of_ble_eq_true (by kernel_rfl)) live [] (by
  rintro ⟨a0,a1,a2,_⟩ r h
  exact ⟨N,2,((run N _ a0 a1 a2).trans rfl).trans h⟩)
end laws_at
namespace impl_isList_int
noncomputable def code:Code:=Try.f13.body.getD .skip
abbrev live:Live:=[]
noncomputable def G (N:Nat):Ctx E:=gam []
theorem run (N:Nat) (o0:Orc E R) (a0:List Int):runF T (G N) live [] Try.f13 code (sp N) o0 (a0,())=m N a0:=by kernel_rfl
theorem G_ok (N:Nat):GamOK Try.prog (G N):=gam_ok (trivial)
theorem snd (N:Nat):Sound Try.prog E 13 (sp N):=
 Mir.sound T_OK (G_ok N) mixed Try.func13 (c:=code) (by kernel_rfl) (by kernel_rfl) (sp N) (Nat.le_of_ble_eq_true (by kernel_rfl)) live [] (by
  rintro ⟨a0,_⟩ r h
  exact ⟨N,2,((run N _ a0).trans rfl).trans h⟩)
end impl_isList_int
namespace impl_within
noncomputable def code:Code:=Try.f28.body.getD .skip
abbrev live:Live:=[]
noncomputable def G (N:Nat):Ctx E:=gam []
theorem run (N:Nat) (o0:Orc E R) (a0:Int) (a1:Int) (a2:Int):runF T (G N) live [] Try.f28 code (sp N) o0 (a0,a1,a2,())=m N a0 a1 a2:=by kernel_rfl
theorem G_ok (N:Nat):GamOK Try.prog (G N):=gam_ok (trivial)
theorem snd (N:Nat):Sound Try.prog E 28 (sp N):=
 Mir.sound T_OK (G_ok N) mixed Try.func28 (c:=code) (by kernel_rfl) (by kernel_rfl) (sp N) (Nat.le_of_ble_eq_true (by kernel_rfl)) live [] (by
  rintro ⟨a0,a1,a2,_⟩ r h
  exact ⟨N,2,((run N _ a0 a1 a2).trans rfl).trans h⟩)
end impl_within
namespace impl_isNumber
noncomputable def code:Code:=Try.f24.body.getD .skip
abbrev live:Live:=[]
noncomputable def G (N:Nat):Ctx E:=gam [(28,[],impl_within.sp N)]
theorem run (N:Nat) (o0:Orc E R) (a0:Int):runF T (G N) live [] Try.f24 code (sp N) o0 (a0,())=m N a0:=by kernel_rfl
theorem G_ok (N:Nat):GamOK Try.prog (G N):=gam_ok (⟨impl_within.snd N,trivial⟩)
theorem snd (N:Nat):Sound Try.prog E 24 (sp N):=
 Mir.sound T_OK (G_ok N) mixed Try.func24 (c:=code) (by kernel_rfl) (by kernel_rfl) (sp N) (Nat.le_of_ble_eq_true (by kernel_rfl)) live [] (by
  rintro ⟨a0,_⟩ r h
  exact ⟨N,2,((run N _ a0).trans rfl).trans h⟩)
end impl_isNumber
namespace impl_areNumbers_1
noncomputable def code:Code:=Try.f47.body.getD .skip
abbrev live:Live:=[]
noncomputable def G (N:Nat):Ctx E:=gam [(28,[],impl_within.sp N)]
theorem run (N:Nat) (o0:Orc E R) (a0:Int):runF T (G N) live [] Try.f47 code (sp N) o0 (a0,())=m N a0:=by kernel_rfl
theorem G_ok (N:Nat):GamOK Try.prog (G N):=gam_ok (⟨impl_within.snd N,trivial⟩)
theorem snd (N:Nat):Sound Try.prog E 47 (sp N):=
 Mir.sound T_OK (G_ok N) mixed Try.func47 (c:=code) (by kernel_rfl) (by kernel_rfl) (sp N) (Nat.le_of_ble_eq_true (by kernel_rfl)) live [] (by
  rintro ⟨a0,_⟩ r h
  exact ⟨N,2,((run N _ a0).trans rfl).trans h⟩)
end impl_areNumbers_1
namespace slices_IndexFunc_int_int__impl_areNumbers_1
noncomputable def code:Code:=Try.f60.body.getD .skip
abbrev live:Live:=[(2,[0,1,7,8])]
noncomputable def G (N:Nat):Ctx E:=gam [(47,[],impl_areNumbers_1.sp N)]
noncomputable def loop2:Code:=codeAt code [1,0,1,0]
noncomputable def body2:Code:=codeAt loop2 [0]
noncomputable def K2 (N:Nat) (o0:Orc E R):KT E R:=kAt T (G N) live [] o0 code [1,0,1,0] (kfin T Try.f60 (sp N))
noncomputable def St2 (a0:List Int):(Int×Int)→St E
 | (v1,v2)=>{ ρ:=[(0,.c (.at (.ro 3 (.int .i64) a0))),(1,.clo 47 []),(7,.c (.at (.int .i64 v1))),(8,.c (.at (.int .i64 v2)))],H:=[],nx:=0,n:=19,pin:=[] }
theorem run (N:Nat) (o0:Orc E R) (a0:List Int):runF T (G N) live [] Try.f60 code (sp N) o0 (a0,(),())=m0 N a0 (fun a=>o0 loop2 (K2 N o0) (St2 a0 a)):=by kernel_rfl
theorem body2_0 (N:Nat) (o0:Orc E R) (o1:Orc E R) (q1:St E→Option R) (a0:List Int) (v1:Int) (v2:Int):runA T (G N) live [] o1 body2 (St2 a0 (v1,v2)) (kloop [0,1,7,8] q1 (K2 N o0))=step2 N a0 (fun a=>q1 (St2 a0 a)) (v1,v2):=by kernel_rfl
theorem lp2_eq (N:Nat) (a0:List Int) (a:Int×Int):(orc T (G N) live [] N 2) loop2 (K2 N (orc T (G N) live [] N 2)) (St2 a0 a)=lp2 N a0 a:=
 (orc_loop (b:=body2) (live:=[0,1,7,8]) (by kernel_rfl)).trans (iter_eq (St2 a0) _ _ (fun q1 a=>by
  have hc:=congrFun (congrFun (rfl:(step2 N a0)=(step2 N a0)) (fun a=>q1 (St2 a0 a))) a
  obtain ⟨u0,u1⟩:=a
  exact (body2_0 N (orc T (G N) live [] N 2) (orc T (G N) live [] N 1) q1 a0 u0 u1).trans hc) N a)
theorem G_ok (N:Nat):GamOK Try.prog (G N):=gam_ok (⟨impl_areNumbers_1.snd N,trivial⟩)
theorem snd (N:Nat):Sound Try.prog E 60 (sp N):=
 Mir.sound T_OK (G_ok N) mixed Try.func60 (c:=code) (by kernel_rfl) (by kernel_rfl) (sp N) (Nat.le_of_ble_eq_true (by kernel_rfl)) live [] (by
  rintro ⟨a0,_,_⟩ r h
  exact ⟨N,2,((run N _ a0).trans (congrArg (m0 N a0) (funext fun a=>lp2_eq N a0 a))).trans h⟩)
end slices_IndexFunc_int_int__impl_areNumbers_1
namespace slices_ContainsFunc_int_int__impl_areNumbers_1
noncomputable def code:Code:=Try.f46.body.getD .skip
abbrev live:Live:=[]
noncomputable def G (N:Nat):Ctx E:=gam [(60,[47],slices_IndexFunc_int_int__impl_areNumbers_1.sp N)]
theorem run (N:Nat) (o0:Orc E R) (a0:List Int):runF T (G N) live [] Try.f46 code (sp N) o0 (a0,(),())=m N a0:=by kernel_rfl
theorem G_ok (N:Nat):GamOK Try.prog (G N):=gam_ok (⟨slices_IndexFunc_int_int__impl_areNumbers_1.snd N,trivial⟩)
theorem snd (N:Nat):Sound Try.prog E 46 (sp N):=
 Mir.sound T_OK (G_ok N) mixed Try.func46 (c:=code) (by kernel_rfl) (by kernel_rfl) (sp N) (Nat.le_of_ble_eq_true (by kernel_rfl)) live [] (by
  rintro ⟨a0,_,_⟩ r h
  exact ⟨N,2,((run N _ a0).trans rfl).trans h⟩)
end slices_ContainsFunc_int_int__impl_areNumbers_1
namespace impl_areNumbers
noncomputable def code:Code:=Try.f26.body.getD .skip
abbrev live:Live:=[]
noncomputable def G (N:Nat):Ctx E:=gam [(46,[47],slices_ContainsFunc_int_int__impl_areNumbers_1.sp N)]
theorem run (N:Nat) (o0:Orc E R) (a0:List Int):runF T (G N) live [] Try.f26 code (sp N) o0 (a0,())=m N a0:=by kernel_rfl
theorem G_ok (N:Nat):GamOK Try.prog (G N):=gam_ok (⟨slices_ContainsFunc_int_int__impl_areNumbers_1.snd N,trivial⟩)
theorem snd (N:Nat):Sound Try.prog E 26 (sp N):=
 Mir.sound T_OK (G_ok N) mixed Try.func26 (c:=code) (by kernel_rfl) (by kernel_rfl) (sp N) (Nat.le_of_ble_eq_true (by kernel_rfl)) live [] (by
  rintro ⟨a0,_⟩ r h
  exact ⟨N,2,((run N _ a0).trans rfl).trans h⟩)
end impl_areNumbers
namespace impl_areRising
noncomputable def code:Code:=Try.f27.body.getD .skip
abbrev live:Live:=[(2,[0,3])]
noncomputable def G (N:Nat):Ctx E:=gam []
noncomputable def loop2:Code:=codeAt code [1,0,1,0]
noncomputable def body2:Code:=codeAt loop2 [0]
noncomputable def K2 (N:Nat) (o0:Orc E R):KT E R:=kAt T (G N) live [] o0 code [1,0,1,0] (kfin T Try.f27 (sp N))
noncomputable def St2 (a0:List Int):Int→St E
 | v1=>{ ρ:=[(0,.c (.at (.ro 3 (.int .i64) a0))),(3,.c (.at (.int .i64 v1)))],H:=[],nx:=0,n:=20,pin:=[] }
theorem run (N:Nat) (o0:Orc E R) (a0:List Int):runF T (G N) live [] Try.f27 code (sp N) o0 (a0,())=m0 N a0 (fun a=>o0 loop2 (K2 N o0) (St2 a0 a)):=by kernel_rfl
theorem body2_0 (N:Nat) (o0:Orc E R) (o1:Orc E R) (q1:St E→Option R) (a0:List Int) (v1:Int):runA T (G N) live [] o1 body2 (St2 a0 v1) (kloop [0,3] q1 (K2 N o0))=step2 N a0 (fun a=>q1 (St2 a0 a)) v1:=by kernel_rfl
theorem lp2_eq (N:Nat) (a0:List Int) (a:Int):(orc T (G N) live [] N 2) loop2 (K2 N (orc T (G N) live [] N 2)) (St2 a0 a)=lp2 N a0 a:=
 (orc_loop (b:=body2) (live:=[0,3]) (by kernel_rfl)).trans (iter_eq (St2 a0) _ _ (fun q1 a=>by
  have hc:=congrFun (congrFun (rfl:(step2 N a0)=(step2 N a0)) (fun a=>q1 (St2 a0 a))) a
  exact (body2_0 N (orc T (G N) live [] N 2) (orc T (G N) live [] N 1) q1 a0 a).trans hc) N a)
theorem G_ok (N:Nat):GamOK Try.prog (G N):=gam_ok (trivial)
theorem snd (N:Nat):Sound Try.prog E 27 (sp N):=
 Mir.sound T_OK (G_ok N) mixed Try.func27 (c:=code) (by kernel_rfl) (by kernel_rfl) (sp N) (Nat.le_of_ble_eq_true (by kernel_rfl)) live [] (by
  rintro ⟨a0,_⟩ r h
  exact ⟨N,2,((run N _ a0).trans (congrArg (m0 N a0) (funext fun a=>lp2_eq N a0 a))).trans h⟩)
end impl_areRising
namespace impl_membersOK
noncomputable def code:Code:=Try.f15.body.getD .skip
abbrev live:Live:=[]
noncomputable def G (N:Nat):Ctx E:=gam [(26,[],impl_areNumbers.sp N),(27,[],impl_areRising.sp N)]
theorem run (N:Nat) (o0:Orc E R) (a0:List Int):runF T (G N) live [] Try.f15 code (sp N) o0 (a0,())=m N a0:=by kernel_rfl
theorem G_ok (N:Nat):GamOK Try.prog (G N):=gam_ok (⟨impl_areNumbers.snd N,impl_areRising.snd N,trivial⟩)
theorem snd (N:Nat):Sound Try.prog E 15 (sp N):=
 Mir.sound T_OK (G_ok N) mixed Try.func15 (c:=code) (by kernel_rfl) (by kernel_rfl) (sp N) (Nat.le_of_ble_eq_true (by kernel_rfl)) live [] (by
  rintro ⟨a0,_⟩ r h
  exact ⟨N,2,((run N _ a0).trans rfl).trans h⟩)
end impl_membersOK
namespace impl_readMembers
noncomputable def code:Code:=Try.f39.body.getD .skip
abbrev live:Live:=[(3,[0,4,8,9])]
noncomputable def G (N:Nat):Ctx E:=gam [(15,[],impl_membersOK.sp N)]
noncomputable def loop3:Code:=codeAt code [1,1,0,1,0]
noncomputable def body3:Code:=codeAt loop3 [0]
noncomputable def K3 (N:Nat) (o0:Orc E R):KT E R:=kAt T (G N) live [] o0 code [1,1,0,1,0] (kfin T Try.f39 (sp N))
noncomputable def St3 (a0:ByteArray):(Int×Int×(List Int))→St E
 | (v1,v2,v3)=>{ ρ:=[(0,.c (.at (.str a0))),(4,.c (.at (.own 0))),(8,.c (.at (.int .i64 v1))),(9,.c (.at (.int .i64 v2)))],H:=[(0,.row 3 (.int .i64) v3 false)],nx:=1,n:=23,pin:=[] }
theorem run (N:Nat) (o0:Orc E R) (a0:ByteArray):runF T (G N) live [] Try.f39 code (sp N) o0 (a0,())=m0 N a0 (fun a=>o0 loop3 (K3 N o0) (St3 a0 a)):=by kernel_rfl
theorem body3_0 (N:Nat) (o0:Orc E R) (o1:Orc E R) (q1:St E→Option R) (a0:ByteArray) (v1:Int) (v2:Int) (v3:List Int):runA T (G N) live [] o1 body3 (St3 a0 (v1,v2,v3)) (kloop [0,4,8,9] q1 (K3 N o0))=step3 N a0 (fun a=>q1 (St3 a0 a)) (v1,v2,v3):=by kernel_rfl
theorem lp3_eq (N:Nat) (a0:ByteArray) (a:Int×Int×(List Int)):(orc T (G N) live [] N 2) loop3 (K3 N (orc T (G N) live [] N 2)) (St3 a0 a)=lp3 N a0 a:=
 (orc_loop (b:=body3) (live:=[0,4,8,9]) (by kernel_rfl)).trans (iter_eq (St3 a0) _ _ (fun q1 a=>by
  have hc:=congrFun (congrFun (rfl:(step3 N a0)=(step3 N a0)) (fun a=>q1 (St3 a0 a))) a
  obtain ⟨u0,u1,u2⟩:=a
  exact (body3_0 N (orc T (G N) live [] N 2) (orc T (G N) live [] N 1) q1 a0 u0 u1 u2).trans hc) N a)
theorem G_ok (N:Nat):GamOK Try.prog (G N):=gam_ok (⟨impl_membersOK.snd N,trivial⟩)
theorem snd (N:Nat):Sound Try.prog E 39 (sp N):=
 Mir.sound T_OK (G_ok N) mixed Try.func39 (c:=code) (by kernel_rfl) (by kernel_rfl) (sp N) (Nat.le_of_ble_eq_true (by kernel_rfl)) live [] (by
  rintro ⟨a0,_⟩ r h
  exact ⟨N,2,((run N _ a0).trans (congrArg (m0 N a0) (funext fun a=>lp3_eq N a0 a))).trans h⟩)
end impl_readMembers
namespace impl_entryOK
noncomputable def code:Code:=Try.f59.body.getD .skip
abbrev live:Live:=[]
noncomputable def G (N:Nat):Ctx E:=gam [(28,[],impl_within.sp N),(39,[],impl_readMembers.sp N)]
theorem run (N:Nat) (o0:Orc E R) (a0:Entry):runF T (G N) live [] Try.f59 code (sp N) o0 (a0,())=m N a0:=by kernel_rfl
theorem G_ok (N:Nat):GamOK Try.prog (G N):=gam_ok (⟨impl_within.snd N,impl_readMembers.snd N,trivial⟩)
theorem snd (N:Nat):Sound Try.prog E 59 (sp N):=
 Mir.sound T_OK (G_ok N) mixed Try.func59 (c:=code) (by kernel_rfl) (by kernel_rfl) (sp N) (Nat.le_of_ble_eq_true (by kernel_rfl)) live [] (by
  rintro ⟨a0,_⟩ r h
  exact ⟨N,2,((run N _ a0).trans rfl).trans h⟩)
end impl_entryOK
namespace impl_logOK
noncomputable def code:Code:=Try.f45.body.getD .skip
abbrev live:Live:=[(2,[0,1,7,8,9])]
noncomputable def G (N:Nat):Ctx E:=gam [(59,[],impl_entryOK.sp N)]
noncomputable def loop2:Code:=codeAt code [1,0,1,0]
noncomputable def body2:Code:=codeAt loop2 [0]
noncomputable def K2 (N:Nat) (o0:Orc E R):KT E R:=kAt T (G N) live [] o0 code [1,0,1,0] (kfin T Try.f45 (sp N))
noncomputable def St2 (a0:List Entry) (a1:Int):(Int×Int)→St E
 | (v3,v4)=>{ ρ:=[(0,.c (.at (.ro 35 (.st 35) a0))),(1,.c (.at (.int .i64 a1))),(7,.c (.at (.ro 35 (.st 35) a0))),(8,.c (.at (.int .i64 v3))),(9,.c (.at (.int .i64 v4)))],H:=[],nx:=0,n:=42,pin:=[] }
theorem run (N:Nat) (o0:Orc E R) (a0:List Entry) (a1:Int):runF T (G N) live [] Try.f45 code (sp N) o0 (a0,a1,())=m0 N a0 a1 (fun a=>o0 loop2 (K2 N o0) (St2 a0 a1 a)):=by kernel_rfl
theorem body2_0 (N:Nat) (o0:Orc E R) (o1:Orc E R) (q1:St E→Option R) (a0:List Entry) (a1:Int) (v3:Int) (v4:Int):runA T (G N) live [] o1 body2 (St2 a0 a1 (v3,v4)) (kloop [0,1,7,8,9] q1 (K2 N o0))=step2 N a0 a1 (fun a=>q1 (St2 a0 a1 a)) (v3,v4):=by kernel_rfl
theorem lp2_eq (N:Nat) (a0:List Entry) (a1:Int) (a:Int×Int):(orc T (G N) live [] N 2) loop2 (K2 N (orc T (G N) live [] N 2)) (St2 a0 a1 a)=lp2 N a0 a1 a:=
 (orc_loop (b:=body2) (live:=[0,1,7,8,9]) (by kernel_rfl)).trans (iter_eq (St2 a0 a1) _ _ (fun q1 a=>by
  have hc:=congrFun (congrFun (rfl:(step2 N a0 a1)=(step2 N a0 a1)) (fun a=>q1 (St2 a0 a1 a))) a
  obtain ⟨u0,u1⟩:=a
  exact (body2_0 N (orc T (G N) live [] N 2) (orc T (G N) live [] N 1) q1 a0 a1 u0 u1).trans hc) N a)
theorem G_ok (N:Nat):GamOK Try.prog (G N):=gam_ok (⟨impl_entryOK.snd N,trivial⟩)
theorem snd (N:Nat):Sound Try.prog E 45 (sp N):=
 Mir.sound T_OK (G_ok N) mixed Try.func45 (c:=code) (by kernel_rfl) (by kernel_rfl) (sp N) (Nat.le_of_ble_eq_true (by kernel_rfl)) live [] (by
  rintro ⟨a0,a1,_⟩ r h
  exact ⟨N,2,((run N _ a0 a1).trans (congrArg (m0 N a0 a1) (funext fun a=>lp2_eq N a0 a1 a))).trans h⟩)
end impl_logOK
namespace impl_StateOK
noncomputable def code:Code:=Try.f25.body.getD .skip
abbrev live:Live:=[]
noncomputable def G (N:Nat):Ctx E:=gam [(28,[],impl_within.sp N),(45,[],impl_logOK.sp N)]
theorem run (N:Nat) (o0:Orc E R) (a0:State):runF T (G N) live [] Try.f25 code (sp N) o0 (a0,())=m N a0:=by kernel_rfl
theorem G_ok (N:Nat):GamOK Try.prog (G N):=gam_ok (⟨impl_within.snd N,impl_logOK.snd N,trivial⟩)
theorem snd (N:Nat):Sound Try.prog E 25 (sp N):=
 Mir.sound T_OK (G_ok N) mixed Try.func25 (c:=code) (by kernel_rfl) (by kernel_rfl) (sp N) (Nat.le_of_ble_eq_true (by kernel_rfl)) live [] (by
  rintro ⟨a0,_⟩ r h
  exact ⟨N,2,((run N _ a0).trans rfl).trans h⟩)
end impl_StateOK
namespace impl_reachOK
noncomputable def code:Code:=Try.f29.body.getD .skip
abbrev live:Live:=[(4,[0,1,2,17,18])]
noncomputable def G (N:Nat):Ctx E:=gam [(28,[],impl_within.sp N)]
noncomputable def loop4:Code:=codeAt code [1,1,0,1,0]
noncomputable def body4:Code:=codeAt loop4 [0]
noncomputable def K4 (N:Nat) (o0:Orc E R):KT E R:=kAt T (G N) live [] o0 code [1,1,0,1,0] (kfin T Try.f29 (sp N))
noncomputable def St4 (a0:List Int) (a1:List Int) (a2:Int):(Int×Int)→St E
 | (v3,v4)=>{ ρ:=[(0,.c (.at (.ro 3 (.int .i64) a0))),(1,.c (.at (.ro 3 (.int .i64) a1))),(2,.c (.at (.int .i64 a2))),(17,.c (.at (.int .i64 v3))),(18,.c (.at (.int .i64 v4)))],H:=[],nx:=0,n:=43,pin:=[] }
theorem run (N:Nat) (o0:Orc E R) (a0:List Int) (a1:List Int) (a2:Int):runF T (G N) live [] Try.f29 code (sp N) o0 (a0,a1,a2,())=m0 N a0 a1 a2 (fun a=>o0 loop4 (K4 N o0) (St4 a0 a1 a2 a)):=by kernel_rfl
theorem body4_0 (N:Nat) (o0:Orc E R) (o1:Orc E R) (q1:St E→Option R) (a0:List Int) (a1:List Int) (a2:Int) (v3:Int) (v4:Int):runA T (G N) live [] o1 body4 (St4 a0 a1 a2 (v3,v4)) (kloop [0,1,2,17,18] q1 (K4 N o0))=step4 N a0 a1 a2 (fun a=>q1 (St4 a0 a1 a2 a)) (v3,v4):=by kernel_rfl
theorem lp4_eq (N:Nat) (a0:List Int) (a1:List Int) (a2:Int) (a:Int×Int):(orc T (G N) live [] N 2) loop4 (K4 N (orc T (G N) live [] N 2)) (St4 a0 a1 a2 a)=lp4 N a0 a1 a2 a:=
 (orc_loop (b:=body4) (live:=[0,1,2,17,18]) (by kernel_rfl)).trans (iter_eq (St4 a0 a1 a2) _ _ (fun q1 a=>by
  have hc:=congrFun (congrFun (rfl:(step4 N a0 a1 a2)=(step4 N a0 a1 a2)) (fun a=>q1 (St4 a0 a1 a2 a))) a
  obtain ⟨u0,u1⟩:=a
  exact (body4_0 N (orc T (G N) live [] N 2) (orc T (G N) live [] N 1) q1 a0 a1 a2 u0 u1).trans hc) N a)
theorem G_ok (N:Nat):GamOK Try.prog (G N):=gam_ok (⟨impl_within.snd N,trivial⟩)
theorem snd (N:Nat):Sound Try.prog E 29 (sp N):=
 Mir.sound T_OK (G_ok N) mixed Try.func29 (c:=code) (by kernel_rfl) (by kernel_rfl) (sp N) (Nat.le_of_ble_eq_true (by kernel_rfl)) live [] (by
  rintro ⟨a0,a1,a2,_⟩ r h
  exact ⟨N,2,((run N _ a0 a1 a2).trans (congrArg (m0 N a0 a1 a2) (funext fun a=>lp4_eq N a0 a1 a2 a))).trans h⟩)
end impl_reachOK
namespace impl_NodeOK
noncomputable def code:Code:=Try.f14.body.getD .skip
abbrev live:Live:=[]
noncomputable def G (N:Nat):Ctx E:=gam [(24,[],impl_isNumber.sp N),(25,[],impl_StateOK.sp N),(15,[],impl_membersOK.sp N),(26,[],impl_areNumbers.sp N),(27,[],impl_areRising.sp N),(28,[],impl_within.sp N),(29,[],impl_reachOK.sp N)]
theorem run (N:Nat) (o0:Orc E R) (a0:Node):runF T (G N) live [] Try.f14 code (sp N) o0 (a0,())=m N a0:=by kernel_rfl
theorem G_ok (N:Nat):GamOK Try.prog (G N):=gam_ok (⟨impl_isNumber.snd N,impl_StateOK.snd N,impl_membersOK.snd N,impl_areNumbers.snd N,impl_areRising.snd N,impl_within.snd N,impl_reachOK.snd N,trivial⟩)
theorem snd (N:Nat):Sound Try.prog E 14 (sp N):=
 Mir.sound T_OK (G_ok N) mixed Try.func14 (c:=code) (by kernel_rfl) (by kernel_rfl) (sp N) (Nat.le_of_ble_eq_true (by kernel_rfl)) live [] (by
  rintro ⟨a0,_⟩ r h
  exact ⟨N,2,((run N _ a0).trans rfl).trans h⟩)
end impl_NodeOK
namespace slices_Clone_int_int
noncomputable def code:Code:=Try.f40.body.getD .skip
abbrev live:Live:=[]
noncomputable def G (N:Nat):Ctx E:=gam []
theorem run (N:Nat) (o0:Orc E R) (a0:List Int):runF T (G N) live [] Try.f40 code (sp N) o0 (a0,())=m N a0:=by kernel_rfl
theorem G_ok (N:Nat):GamOK Try.prog (G N):=gam_ok (trivial)
theorem snd (N:Nat):Sound Try.prog E 40 (sp N):=
 Mir.sound T_OK (G_ok N) mixed Try.func40 (c:=code) (by kernel_rfl) (by kernel_rfl) (sp N) (Nat.le_of_ble_eq_true (by kernel_rfl)) live [] (by
  rintro ⟨a0,_⟩ r h
  exact ⟨N,2,((run N _ a0).trans rfl).trans h⟩)
end slices_Clone_int_int
end Mir.Y
