/- A tick of a node, both ways. -/
import Derived.Test.YtbbkpgpfppnakaaGreatJTNP2
namespace Mir.Y
set_option linter.unusedVariables false
set_option linter.unusedSimpArgs false
open Go
structure GN (x:Node):Prop where
 sz:NodeSz x M20
 da:NodeData x
 mm:allMem x.Log
 st:idsB (ix x.Start) x.Start.length=true
 c0:0≤x.Commit
 c1:x.Commit≤x.Log.length
 n7:x.Next.length=7
 m7:x.Match.length=7
 nx:∀j,j<7→1≤ix x.Next j∧ix x.Next j≤x.Log.length+1
 ll:x.Log.length≤60
theorem GN.of {x:Node} (hs:NodeSz x M20) (hd:NodeData x) (hk:okB x=true):GN x:=by
 have o:=okN hk
 exact ⟨hs,hd,o.m,o.s,o.c0,o.c1,o.n7,o.m7,o.nx,o.ll⟩
def mems (x:Node):List Int:=memL x.Log x.Start x.Log.length
theorem GN.ms {N:Nat} (hN:Big N) {x:Node} (h:GN x):spec_l10Members_.m N x=some (mems x):=l10Members hN x h.sz.Log h.da h.mm
theorem GN.mi {N:Nat} (hN:Big N) {x:Node} (h:GN x):impl_Node_members.m N x=some (mems x):=implMembers hN x h.sz h.da
theorem GN.M {x:Node} (h:GN x):Mem (mems x):=mem_of (memL_ids h.st h.mm _ (Nat.le_refl _))
theorem GN.tells {x:Node} (h:GN x):Tells x:=⟨h.n7,h.nx,by have:=h.ll;omega⟩
theorem GN.mi' {N:Nat} (hN:Big N) {x x':Node} (h:GN x) (e1:x'.Log=x.Log) (e2:x'.Start=x.Start):impl_Node_members.m N x'=some (mems x):=by
 have base:=h.mi hN
 unfold impl_Node_members.m at base ⊢
 rw [e1,e2];exact base
theorem mem_ {N:Nat} (hN:Big N) {x:Node} {M:List Int} (h:spec_l10Members_.m N x=some M):spec_l10Members.m N x=some (M,x):=by
 have key:∀(K:Nat) (v:Int),miter (fun rec=>spec_l10Members.step2 N x rec) K v=(miter (fun rec=>spec_l10Members_.step2 N x rec) K v).map (fun l=>(l,x)):=by
  intro K
  induction K with
  | zero=>intro v;rfl
  | succ K ih=>
   intro v
   have un:∀ {α R:Type} (g:(α→Option R)→α→Option R) (s:α),miter g (K+1) s=g (miter g K) s:=fun _ _=>rfl
   rw [un,un]
   simp only [spec_l10Members.step2,spec_l10Members_.step2]
   rw [ih]
   cases decide (v≥0) with
   | false=>rfl
   | true=>
    simp only [cond_true]
    cases decide (v<(x.Log.length:Int)) with
    | false=>rfl
    | true=>
     cases ((x.Log.getD (Int.toNat v) Entry.dz).Kind==2) with
     | false=>rfl
     | true=>
      simp only [cond_true]
      cases spec_l02Members.m N (x.Log.getD (Int.toNat v) Entry.dz).Data<;>rfl
 unfold spec_l10Members_.m spec_l10Members_.m0 spec_l10Members_.lp2 at h
 unfold spec_l10Members.m spec_l10Members.m0 spec_l10Members.lp2
 rw [key,h];rfl
theorem isMostV {N:Nat} (hN:Big N) (w:worker) (M:List Int) (hm:impl_Node_members.m N w.Node=some M) (hM:Mem M) (hv:w.Node.Votes.length≤M20):impl_worker_isMost__impl_worker_leadIf_1_.m N w w=some (mostB (hasB w.Node.Votes) M):=by
 unfold impl_worker_isMost__impl_worker_leadIf_1_.m impl_worker_isMost__impl_worker_leadIf_1_.m0
 rw [nodeEta,hm,ob_some]
 unfold impl_worker_isMost__impl_worker_leadIf_1_.lp3
 have hl:=hM.len
 exact miter_up (step:=fun rec=>impl_worker_isMost__impl_worker_leadIf_1_.step3 N w w rec) (n:=M.length) (st:=fun i=>(((cnB (fun j=>hasB w.Node.Votes (ix M j)) i:Nat):Int),(M.length:Int),(i:Int),M)) (fun i hi' rec=>by
  have hc:=cnB_le (fun j=>hasB w.Node.Votes (ix M j)) i
  have c1:impl_worker_leadIf_1.m N (ix M i) w=some (hasB w.Node.Votes (ix M i)):=by
   unfold impl_worker_leadIf_1.m
   rw [contains hN _ _ hv,ob_some]
  simp only [impl_worker_isMost__impl_worker_leadIf_1_.step3,workEta,lt_dec hi',nn_dec,cond_true,Int.toNat_natCast,ixe,c1,ob_some]
  rw [w_up i _ hi' (by omega),w_small (x:=((cnB (fun j=>hasB w.Node.Votes (ix M j)) i:Nat):Int)+1) (by omega) (by omega),show cnB (fun j=>hasB w.Node.Votes (ix M j)) (i+1)=cnB (fun j=>hasB w.Node.Votes (ix M j)) i+(hasB w.Node.Votes (ix M i)).toNat from rfl]
  cases hasB w.Node.Votes (ix M i)<;>simp) (fun rec=>by
  have hc:=cnB_le (fun j=>hasB w.Node.Votes (ix M j)) M.length
  simp only [impl_worker_isMost__impl_worker_leadIf_1_.step3,ge_dec,cond_false]
  rw [w_small (by omega) (by omega)]
  rfl) M.length 0 N (by omega) (by omega)
theorem mul17' (N:Nat) (v:Int):math_bits_Mul.m N (wu64 (([v]:List Int).length:Int)) (wu64 7)=some (0,7):=by kernel_rfl
theorem repeat7 {N:Nat} (hN:Big N) (v:Int):slices_Repeat_int_int.m N [v] 7=some [v,v,v,v,v,v,v]:=by
 obtain ⟨M,rfl⟩:∃M,N=M+8:=⟨N - 8,by omega⟩
 unfold slices_Repeat_int_int.m slices_Repeat_int_int.m0
 rw [mul17']
 simp only [ob_some]
 unfold slices_Repeat_int_int.lp8
 kernel_rfl
theorem implTellC {N:Nat} (hN:Big N) (x:Node) (h:Tells x) (sent:List Message) (hs:sent.length≤100) (c to:Int) (h0:0≤to) (h6:to≤6):impl_worker_tell_.m N ⟨x,sent⟩ to c=some ⟨x,sent++[msgTo (withC x c) to]⟩:=by
 unfold impl_worker_tell_.m impl_worker_send.m
 have hn:=h.nx to.toNat (by omega)
 have hl:=h.ll
 have e:w64 (ix x.Next to.toNat - 1)=ix x.Next to.toNat - 1:=w_small (by omega) (by omega)
 have et:=termV (N:=N) x (ix x.Next to.toNat - 1) (by omega) (by omega) hl
 rw [← term_eq] at et
 simp only [ixe,e,decide_eq_true h0,decide_eq_true (show to<(x.Next.length:Int) by rw [h.n7];omega),et,decide_eq_true (show 0≤ix x.Next to.toNat - 1 by omega),decide_eq_true (show ix x.Next to.toNat - 1≤((x.Log.length:Nat):Int) by omega),cond_true,ob_some]
 have hd:(x.Log.drop (ix x.Next to.toNat - 1).toNat).take (x.Log.length - (ix x.Next to.toNat - 1).toNat)=x.Log.drop (ix x.Next to.toNat - 1).toNat:=List.take_of_length_le (by rw [List.length_drop];omega)
 rw [hd,cloneEnt N _ (by rw [List.length_drop];omega),decide_eq_true (show (ix x.Next to.toNat - 1).toNat+(x.Log.length - (ix x.Next to.toNat - 1).toNat)≤x.Log.length by omega),cond_true,ob_some,roomB (by rw [List.length_singleton];omega) (by omega),cond_true,ob_some]
 rfl
theorem othersI {N:Nat} (hN:Big N) (x:Node) (M:List Int) (sent:List Message) (hmi:impl_Node_members.m N x=some M) (hM:Mem M):impl_worker_others_.m N ⟨x,sent⟩=some (M.filter (notId x)):=by
 unfold impl_worker_others_.m
 have hl:=hM.len
 have hd:=delId hN ⟨x,sent⟩ M (by omega)
 simp only [nodeEta]
 rw [hmi,ob_some,hd,ob_some]
theorem implTellAllC {N:Nat} (hN:Big N) (x:Node) (M:List Int) (c:Int) (hmi:impl_Node_members.m N x=some M) (hM:Mem M) (h:Tells x):impl_worker_tellAll.m N ⟨x,[]⟩ c=some ⟨x,told (withC x c) M⟩:=by
 unfold impl_worker_tellAll.m impl_worker_tellAll.m0
 have hl:=hM.len
 simp only [nodeEta]
 rw [othersI hN x M [] hmi hM,ob_some]
 generalize hO':M.filter (notId x)=O
 have hOl:O.length≤7:=by rw [← hO'];have:=List.length_filter_le (notId x) M;omega
 have hOm:∀v∈O,0≤v∧v≤6:=fun v hv=>by rw [← hO'] at hv;exact hM.lo v (List.mem_filter.1 hv).1
 unfold impl_worker_tellAll.lp1
 have:=miter_up (step:=fun rec=>impl_worker_tellAll.step1 N ⟨x,[]⟩ c rec) (n:=O.length) (st:=fun i=>((O.length:Int),(i:Int),x.Id,x.Term,x.Vote,x.Role,x.Commit,x.Elapsed,x.Wait,x.Up,x.Log,x.Start,x.Votes,x.Next,x.Match,(O.take i).map (msgTo (withC x c)),O)) (r:=some ⟨x,told (withC x c) M⟩) (fun i hi rec=>by
  have hx:=hOm _ (ix_mem hi)
  have hle:((O.take i).map (msgTo (withC x c))).length≤100:=by rw [List.length_map,List.length_take];omega
  have htk:O.take (i+1)=O.take i++[ix O i]:=by rw [List.take_add_one,List.getElem?_eq_getElem hi,ix,getD_at hi];rfl
  have ht:=implTellC hN x h ((O.take i).map (msgTo (withC x c))) hle c (ix O i) hx.1 hx.2
  simp only [impl_worker_tellAll.step1,lt_dec hi,nn_dec,cond_true,Int.toNat_natCast,ixe,nodeEta,ht,ob_some]
  rw [w_up i _ hi (by omega),htk,List.map_append]
  rfl) (fun rec=>by
  have hf:notId (withC x c)=notId x:=rfl
  simp only [impl_worker_tellAll.step1,ge_dec,cond_false,List.take_length,told,hf,hO']) O.length 0 N (by omega) (by omega)
 exact this
def leadL (x:Node):List Entry:=if x.Log.length<60 then x.Log++[⟨x.Term,0,ByteArray.empty⟩] else x.Log
def leadN (x:Node):Node:=⟨x.Id,x.Term,x.Vote,leadL x,x.Start,2,x.Votes,List.replicate 7 ((x.Log.length:Int)+1),List.replicate 7 0,x.Commit,0,x.Wait,x.Up⟩
theorem leadL_len (x:Node):x.Log.length≤(leadL x).length∧(leadL x).length≤x.Log.length+1:=by
 unfold leadL;split
 ·simp
 ·omega
theorem leadL_at {x:Node} {j:Nat} (h:j<x.Log.length):ex (leadL x) j=ex x.Log j:=by
 unfold leadL;split
 ·exact ex_app h
 ·rfl
theorem rep7 (v:Int) {j:Nat} (h:j<7):ix (List.replicate 7 v) j=v:=by
 rw [ix,getD_at (by rw [List.length_replicate];exact h)];exact List.getElem_replicate _
theorem GN.lead {x:Node} (h:GN x):GN (leadN x):=by
 have hl:=leadL_len x
 have hll:=h.ll
 have h60:(leadL x).length≤60:=by
  unfold leadL;split
  ·simp;omega
  ·omega
 refine ⟨⟨?_,h.sz.Start,h.sz.Votes,by show (List.replicate 7 _).length≤_;simp [M20],by show (List.replicate 7 _).length≤_;simp [M20]⟩,fun e he=>?_,fun j hj hk=>?_,h.st,h.c0,?_,by show (List.replicate 7 _).length=7;simp,by show (List.replicate 7 _).length=7;simp,fun j hj=>?_,h60⟩
 ·show (leadL x).length≤_;simp only [M20];omega
 ·have he:e∈leadL x:=he
  unfold leadL at he
  split at he
  ·rcases List.mem_append.1 he with he | he
   ·exact h.da e he
   ·rw [List.mem_singleton] at he;rw [he];exact Nat.zero_le _
  ·exact h.da e he
 ·have hj:j<(leadL x).length:=hj
  have hk:((ex (leadL x) j).Kind==2)=true:=hk
  show memB (ex (leadL x) j).Data=true
  by_cases hjl:j<x.Log.length
  ·rw [leadL_at hjl] at hk ⊢;exact h.mm j hjl hk
  ·exfalso
   have e:j=x.Log.length:=by omega
   subst e
   unfold leadL at hk hj
   split at hk
   ·rw [ex_last] at hk;cases hk
   ·rename_i h6;rw [if_neg h6] at hj;omega
 ·show x.Commit≤((leadL x).length:Int);have:=h.c1;omega
 ·show 1≤ix (List.replicate 7 ((x.Log.length:Int)+1)) j∧ix (List.replicate 7 ((x.Log.length:Int)+1)) j≤((leadL x).length:Int)+1
  rw [rep7 _ hj];omega
theorem mems_lead (x:Node):mems (leadN x)=mems x:=by
 show memL (leadL x) x.Start (leadL x).length=memL x.Log x.Start x.Log.length
 unfold leadL
 split
 ·rw [List.length_append,List.length_singleton,memL,ex_last]
  simp only [show ((0:Int)==2)=false from rfl,cond_false]
  exact memL_congr _ fun j hj=>ex_app hj
 ·rfl
theorem fill7 {v:Int} {a:List Int} (ha:a.length=7):∀j,j≤7→(List.replicate j v++a.drop j).length=7:=by
 intro j hj;simp;omega
theorem set7 {v:Int} {a:List Int} (ha:a.length=7) {j:Nat} (hj:j<7):(List.replicate j v++a.drop j).set j v=List.replicate (j+1) v++a.drop (j+1):=by
 rw [List.set_append_right _ _ (by simp),List.length_replicate,Nat.sub_self,List.drop_eq_getElem_cons (by omega),List.set_cons_zero,List.replicate_succ',List.append_assoc]
 rfl
theorem leadBoth {N:Nat} (hN:Big N) {x:Node} (h:GN x):∃c,c=advC (leadN x) (mems x) (leadL x).length∧0≤c∧c≤(leadL x).length∧spec_l10Lead.m N x=some (withC (leadN x) c,told (leadN x) (mems x))∧impl_worker_lead_.m N ⟨x,[]⟩=some ⟨withC (leadN x) c,told (leadN x) (mems x)⟩:=by
 have hl:=h.lead
 have hll:=h.ll
 have hms:=hl.ms hN
 rw [mems_lead] at hms
 have hM:=h.M
 have hmi:∀x':Node,x'.Log=(leadN x).Log→x'.Start=(leadN x).Start→impl_Node_members.m N x'=some (mems x):=fun x' e1 e2=>by
  have:=hl.mi' hN e1 e2
  rwa [mems_lead] at this
 obtain ⟨c,a1,a2,a3,a4,a5⟩:=advance hN (leadN x) (mems x) [] hms hmi hM hl.m7 (by have:=hl.ll;omega) hl.c0 hl.c1
 have t1:=specTell hN (leadN x) (mems x) hms hM hl.tells
 have tc:Tells (withC (leadN x) c):=⟨hl.n7,hl.nx,hl.tells.ll⟩
 have t2:=implTellAllC hN (withC (leadN x) c) (mems x) x.Commit (hmi _ rfl rfl) hM tc
 have ew:withC (withC (leadN x) c) x.Commit=leadN x:=rfl
 rw [ew] at t2
 have w1:w64 ((x.Log.length:Int)+1)=(x.Log.length:Int)+1:=w_small (by omega) (by omega)
 refine ⟨c,a5,a3,a4,?_,?_⟩
 ·unfold spec_l10Lead.m spec_l10Lead.m0 spec_l10Lead.lp4
  have:=miter_up (step:=fun rec=>spec_l10Lead.step4 N x rec) (n:=7) (st:=fun j=>((j:Int),(2:Int),(0:Int),List.replicate j ((x.Log.length:Int)+1)++x.Next.drop j,List.replicate j (0:Int)++x.Match.drop j,(0:Int),(0:Int),(0:Int),(0:Int),(0:Int),(0:Int),(0:Int))) (r:=some (withC (leadN x) c,told (leadN x) (mems x))) (fun j hj rec=>by
   have l1:=fill7 (v:=(x.Log.length:Int)+1) h.n7 j (by omega)
   have l2:=fill7 (v:=0) h.m7 j (by omega)
   simp only [spec_l10Lead.step4,decide_eq_true (show (j:Int)<7 by omega),nn_dec,l1,l2,decide_eq_true (show (j:Int)<((7:Nat):Int) by omega),cond_true,Int.toNat_natCast,w1]
   rw [w_up j 7 hj (by omega),set7 h.n7 hj,set7 h.m7 hj]) (fun rec=>by
   have d1:x.Next.drop 7=[]:=List.drop_of_length_le (by rw [h.n7];omega)
   have d2:x.Match.drop 7=[]:=List.drop_of_length_le (by rw [h.m7];omega)
   simp only [spec_l10Lead.step4,d1,d2,List.append_nil]
   rw [decide_eq_false (show ¬ ((7:Nat):Int)<7 by omega),cond_false]
   by_cases h6:x.Log.length<60
   ·rw [decide_eq_true (show (x.Log.length:Int)<60 by omega),cond_true,roomB (by rw [List.length_singleton];omega) (by omega),cond_true]
    have e:Node.mk x.Id x.Term x.Vote (x.Log++[Entry.mk x.Term 0 ByteArray.empty]) x.Start 2 x.Votes (List.replicate 7 ((x.Log.length:Int)+1)) (List.replicate 7 0) x.Commit 0 x.Wait x.Up=leadN x:=by unfold leadN leadL;rw [if_pos h6]
    rw [e,a1,ob_some,t1];rfl
   ·rw [decide_eq_false (show ¬ (x.Log.length:Int)<60 by omega),cond_false]
    have e:Node.mk x.Id x.Term x.Vote x.Log x.Start 2 x.Votes (List.replicate 7 ((x.Log.length:Int)+1)) (List.replicate 7 0) x.Commit 0 x.Wait x.Up=leadN x:=by unfold leadN leadL;rw [if_neg h6]
    rw [e,a1,ob_some,t1];rfl) 7 0 N (by omega) (by omega)
  exact this
 ·unfold impl_worker_lead_.m
  have rp:slices_Repeat_int_int.m N [w64 ((x.Log.length:Int)+1)] 7=some (List.replicate 7 ((x.Log.length:Int)+1)):=by rw [w1];exact repeat7 hN _
  show ob (slices_Repeat_int_int.m N [w64 ((x.Log.length:Int)+1)] 7) _=_
  rw [rp,ob_some,show decide ((0:Int)≤7)=true from rfl,show room 7 8=true from rfl]
  simp only [cond_true]
  by_cases h6:x.Log.length<60
  ·rw [decide_eq_true (show (x.Log.length:Int)<60 by omega),cond_true,roomB (by rw [List.length_singleton];omega) (by omega),cond_true]
   have e:Node.mk x.Id x.Term x.Vote (x.Log++[Entry.mk x.Term 0 ByteArray.empty]) x.Start 2 x.Votes (List.replicate 7 ((x.Log.length:Int)+1)) (List.replicate 7 0) x.Commit 0 x.Wait x.Up=leadN x:=by unfold leadN leadL;rw [if_pos h6]
   rw [e,a2]
   simp only [ob_some,nodeEta,t2]
  ·rw [decide_eq_false (show ¬ (x.Log.length:Int)<60 by omega),cond_false]
   have e:Node.mk x.Id x.Term x.Vote x.Log x.Start 2 x.Votes (List.replicate 7 ((x.Log.length:Int)+1)) (List.replicate 7 0) x.Commit 0 x.Wait x.Up=leadN x:=by unfold leadN leadL;rw [if_neg h6]
   rw [e,a2]
   simp only [ob_some,nodeEta,t2]
end Mir.Y
