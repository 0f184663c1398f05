/- Pure laws: messages; NodePropose. -/
import Derived.Test.YtcgniikapdcfmaaGreatRLRA
namespace Mir.Y
set_option linter.unusedVariables false
set_option linter.unusedSimpArgs false
open Go
theorem getD_set' {α:Type} {l:List α} {i:Nat} (h:i<l.length) (x d:α):(l.set i x).getD i d=x:=by
 rw [List.getD_eq_getElem?_getD,List.getElem?_set_self h];rfl
theorem hasB_iff (a:List Int) (x:Int):hasB a x=true↔x∈a:=by
 unfold hasB
 rw [Bool.not_eq_true',← Bool.not_eq_true,allF_iff]
 constructor
 ·intro h
  apply Classical.byContradiction
  intro hx
  apply h
  intro j _ hj
  have hj:j<a.length:=by omega
  rw [ix,getD_at hj,Bool.not_eq_true',beq_eq_false_iff_ne]
  rintro rfl
  exact hx (List.getElem_mem hj)
 ·intro hx h
  obtain ⟨j,hj,rfl⟩:=List.getElem_of_mem hx
  have:=h j (Nat.zero_le _) (by omega)
  rw [ix,getD_at hj] at this
  simp at this
theorem ids_ge {f:Nat→Int} {n:Nat} (h:idsB f n=true):∀j,j<n→(j:Int)≤f j∧0≤f j∧f j≤6:=by
 unfold idsB at h
 rw [allF_iff] at h
 intro j
 induction j with
 | zero=>
  intro hj
  have:=h 0 (Nat.le_refl _) (by omega)
  unfold inB at this
  simp only [Bool.and_eq_true,decide_eq_true_eq] at this
  omega
 | succ j ih=>
  intro hj
  have h1:=ih (by omega)
  have h2:=h (j+1) (Nat.zero_le _) (by omega)
  unfold inB at h2
  simp only [Bool.and_eq_true,decide_eq_true_eq,Bool.not_eq_true',Bool.and_eq_false_iff,decide_eq_false_iff_not] at h2
  have h3:¬ f (j+1 - 1)≥f (j+1):=by rcases h2.2 with h | h;omega;exact h
  rw [Nat.add_sub_cancel] at h3
  omega
structure Mem (M:List Int):Prop where
 len:M.length≤7
 lo:∀x∈M,0≤x∧x≤6
theorem mem_of {M:List Int} (h:idsB (ix M) M.length=true):Mem M:=by
 have hg:=ids_ge h
 refine ⟨?_,fun x hx=>?_⟩
 ·rcases Nat.eq_zero_or_pos M.length with h0 | h0
  ·omega
  ·have:=hg (M.length - 1) (by omega)
   omega
 ·obtain ⟨j,hj,rfl⟩:=List.getElem_of_mem hx
  have:=hg j hj
  rw [ix,getD_at hj] at this
  omega
theorem memL_ids {a:List Entry} {s:List Int} (hs:idsB (ix s) s.length=true) (ha:allMem a):∀n,n≤a.length→idsB (ix (memL a s n)) (memL a s n).length=true
 | 0,_=>hs
 | n+1,h=>by
  unfold memL
  cases hk:(ex a n).Kind==2 with
  | true=>
   rw [cond_true,bl_length,idsB_congr (g:=fun j=>sb (ex a n).Data (j:Int)) (fun j hj=>bl_ix _ hj)]
   have:=ha n (by omega) hk
   unfold memB at this
   rw [Bool.and_eq_true] at this
   exact this.1
  | false=>exact memL_ids hs ha n (by omega)
theorem memL_congr {a b:List Entry} {s:List Int}:∀n,(∀j,j<n→ex a j=ex b j)→memL a s n=memL b s n
 | 0,_=>rfl
 | n+1,h=>by
  unfold memL
  rw [h n (by omega),memL_congr n fun j hj=>h j (by omega)]
def mostB (p:Int→Bool) (M:List Int):Bool:=decide (2 * ((cnB (fun j=>p (ix M j)) M.length:Nat):Int) > (M.length:Int))
theorem cnB_congr {d e:Nat→Bool}:∀n,(∀j,j<n→d j=e j)→cnB d n=cnB e n
 | 0,_=>rfl
 | n+1,h=>by
  show cnB d n+(d n).toNat=cnB e n+(e n).toNat
  rw [cnB_congr n fun j hj=>h j (by omega),h n (by omega)]
theorem ix_mem {M:List Int} {j:Nat} (h:j<M.length):ix M j∈M:=by rw [ix,getD_at h];exact List.getElem_mem h
theorem mostB_congr {p q:Int→Bool} {M:List Int} (h:∀x∈M,p x=q x):mostB p M=mostB q M:=by
 unfold mostB
 rw [cnB_congr M.length fun j hj=>h _ (ix_mem hj)]
def hasIt (x:Node) (place:Int) (m:Int):Bool:=(m==x.Id)||decide (ix x.Match m.toNat≥place)
theorem workEta (w:worker):worker.mk (Node.mk w.Node.Id w.Node.Term w.Node.Vote w.Node.Log w.Node.Start w.Node.Role w.Node.Votes w.Node.Next w.Node.Match w.Node.Commit w.Node.Elapsed w.Node.Wait w.Node.Up) w.sent=w:=rfl
theorem isMost {N:Nat} (hN:Big N) (w:worker) (place:Int) (M:List Int) (hm:impl_Node_members.m N w.Node=some M) (hM:Mem M) (h7:w.Node.Match.length=7):impl_worker_isMost__impl_worker_commit_1_.m N w w place=some (mostB (hasIt w.Node place) M):=by
 unfold impl_worker_isMost__impl_worker_commit_1_.m impl_worker_isMost__impl_worker_commit_1_.m0
 rw [nodeEta,hm,ob_some]
 unfold impl_worker_isMost__impl_worker_commit_1_.lp3
 have hl:=hM.len
 exact miter_up (step:=fun rec=>impl_worker_isMost__impl_worker_commit_1_.step3 N w w place rec) (n:=M.length) (st:=fun i=>(((cnB (fun j=>hasIt w.Node place (ix M j)) i:Nat):Int),(M.length:Int),(i:Int),M)) (fun i hi' rec=>by
  have hc:=cnB_le (fun j=>hasIt w.Node place (ix M j)) i
  have hx:=hM.lo _ (ix_mem hi')
  have c1:impl_worker_commit_1.m N (ix M i) w place=some (hasIt w.Node place (ix M i)):=by
   unfold impl_worker_commit_1.m hasIt
   rw [decide_eq_true (show 0≤ix M i by omega),decide_eq_true (show ix M i<(w.Node.Match.length:Int) by omega)]
   cases (ix M i==w.Node.Id)<;>rfl
  simp only [impl_worker_isMost__impl_worker_commit_1_.step3,lt_dec hi',nn_dec,cond_true,Int.toNat_natCast,ixe,c1,ob_some]
  rw [w_up i _ hi' (by omega),w_small (x:=((cnB (fun j=>hasIt w.Node place (ix M j)) i:Nat):Int)+1) (by omega) (by omega),show cnB (fun j=>hasIt w.Node place (ix M j)) (i+1)=cnB (fun j=>hasIt w.Node place (ix M j)) i+(hasIt w.Node place (ix M i)).toNat from rfl]
  cases hasIt w.Node place (ix M i)<;>simp) (fun rec=>by
  have hc:=cnB_le (fun j=>hasIt w.Node place (ix M j)) M.length
  simp only [impl_worker_isMost__impl_worker_commit_1_.step3,ge_dec,cond_false]
  rw [w_small (by omega) (by omega)]
  rfl) M.length 0 N (by omega) (by omega)
def withC (x:Node) (c:Int):Node:=⟨x.Id,x.Term,x.Vote,x.Log,x.Start,x.Role,x.Votes,x.Next,x.Match,c,x.Elapsed,x.Wait,x.Up⟩
def advC (x:Node) (M:List Int):Nat→Int
 | 0=>x.Commit
 | k+1=>bif decide (((k+1:Nat):Int) > x.Commit) then (bif (ex x.Log k).Term==x.Term then (bif mostB (hasIt x ((k+1:Nat):Int)) M then ((k+1:Nat):Int) else advC x M k) else x.Commit) else x.Commit
def notId (x:Node) (v:Int):Bool:=!(v==x.Id)
theorem idxFirst {N:Nat} (hN:Big N) (w:worker) (M:List Int) (hl:M.length≤100):∃y:Int,slices_IndexFunc_int_int__impl_worker_others_1.m N M w=some y∧((y = -1∧M.filter (notId w.Node)=M)∨∃i:Nat,y=(i:Int)∧i<M.length∧(M.take i).filter (notId w.Node)=M.take i∧ix M i=w.Node.Id):=by
 unfold slices_IndexFunc_int_int__impl_worker_others_1.m slices_IndexFunc_int_int__impl_worker_others_1.m0 slices_IndexFunc_int_int__impl_worker_others_1.lp2
 have go:∀(k i K:Nat),i+k=M.length→k<K→(M.take i).filter (notId w.Node)=M.take i→∃y:Int,miter (fun rec=>slices_IndexFunc_int_int__impl_worker_others_1.step2 N M w rec) K ((M.length:Int),(i:Int))=some y∧((y = -1∧M.filter (notId w.Node)=M)∨∃i:Nat,y=(i:Int)∧i<M.length∧(M.take i).filter (notId w.Node)=M.take i∧ix M i=w.Node.Id):=by
  intro k
  induction k with
  | zero=>
   intro i K hi hK hf
   obtain ⟨K,rfl⟩:∃j,K=j+1:=⟨K - 1,by omega⟩
   obtain rfl:i=M.length:=by omega
   rw [List.take_length] at hf
   refine ⟨-1,?_,.inl ⟨rfl,hf⟩⟩
   have un:∀(g:(Int×Int→Option Int)→Int×Int→Option Int) (s),miter g (K+1) s=g (miter g K) s:=fun _ _=>rfl
   rw [un]
   simp only [slices_IndexFunc_int_int__impl_worker_others_1.step2,ge_dec,cond_false]
  | succ k ih=>
   intro i K hi hK hf
   obtain ⟨K,rfl⟩:∃j,K=j+1:=⟨K - 1,by omega⟩
   have hil:i<M.length:=by omega
   have un:∀(g:(Int×Int→Option Int)→Int×Int→Option Int) (s),miter g (K+1) s=g (miter g K) s:=fun _ _=>rfl
   rw [un]
   generalize hr:miter (fun rec=>slices_IndexFunc_int_int__impl_worker_others_1.step2 N M w rec) K=rec
   simp only [slices_IndexFunc_int_int__impl_worker_others_1.step2,lt_dec hil,nn_dec,cond_true,Int.toNat_natCast,ixe,impl_worker_others_1.m,ob_some]
   rw [w_up i _ hil (by omega)]
   cases he:ix M i==w.Node.Id with
   | true=>exact ⟨(i:Int),rfl,.inr ⟨i,rfl,hil,hf,by simpa using he⟩⟩
   | false=>
    rw [cond_false,← hr]
    refine ih (i+1) K (by omega) (by omega) ?_
    have ht:M.take (i+1)=M.take i++[ix M i]:=by rw [List.take_add_one,List.getElem?_eq_getElem hil,ix,getD_at hil];rfl
    rw [ht,List.filter_append,hf]
    have:notId w.Node (ix M i)=true:=by unfold notId;rw [he];rfl
    simp [List.filter,this]
 exact go M.length 0 N (by omega) (by omega) rfl
theorem delId {N:Nat} (hN:Big N) (w:worker) (M:List Int) (hl:M.length≤100):slices_DeleteFunc_int_int__impl_worker_others_1.m N M w=some (M.filter (notId w.Node)):=by
 unfold slices_DeleteFunc_int_int__impl_worker_others_1.m slices_DeleteFunc_int_int__impl_worker_others_1.m0
 rw [workEta]
 obtain ⟨y,hy,h⟩:=idxFirst hN w M hl
 rw [hy,ob_some]
 rcases h with ⟨rfl,hf⟩ | ⟨i,rfl,hi,hf,he⟩
 ·rw [hf];rfl
 have e1:((i:Int) == -1)=false:=by rw [beq_eq_false_iff_ne];omega
 rw [e1,cond_false,w_up i _ hi (by omega)]
 unfold slices_DeleteFunc_int_int__impl_worker_others_1.lp5
 have go:∀(k j K v0:Nat) (v2:List Int),j+k=M.length→k<K→v2.length=M.length→v0<j→v2.take v0=(M.take j).filter (notId w.Node)→(∀p,j≤p→ix v2 p=ix M p)→miter (fun rec=>slices_DeleteFunc_int_int__impl_worker_others_1.step5 N M w rec) K ((v0:Int),(j:Int),v2)=some (M.filter (notId w.Node)):=by
  intro k
  induction k with
  | zero=>
   intro j K v0 v2 hj hK h2 h0 ht hp
   obtain ⟨K,rfl⟩:∃j,K=j+1:=⟨K - 1,by omega⟩
   obtain rfl:j=M.length:=by omega
   rw [List.take_length] at ht
   have un:∀(g:(Int×Int×List Int→Option (List Int))→Int×Int×List Int→Option (List Int)) (s),miter g (K+1) s=g (miter g K) s:=fun _ _=>rfl
   rw [un]
   simp only [slices_DeleteFunc_int_int__impl_worker_others_1.step5]
   have d1:decide (((M.length:Nat):Int)<((v2.length:Nat):Int))=false:=decide_eq_false (by omega)
   have d2:decide ((v0:Int)≤((v2.length:Nat):Int))=true:=decide_eq_true (by omega)
   have d3:decide (v0+(v2.length - v0)≤v2.length)=true:=decide_eq_true (by omega)
   have hw:(v2.take v0++(List.replicate (v2.length - v0) (0:Int)++v2.drop (v0+(v2.length - v0)))).length=v2.length:=by simp;omega
   rw [d1,cond_false,nn_dec,Int.toNat_natCast,d2,d3,hw,d2,Nat.zero_add,Nat.sub_zero,decide_eq_true (show v0≤v2.length by omega),List.drop_zero,List.take_append_of_le_length (by rw [List.length_take];omega),List.take_of_length_le (by rw [List.length_take];omega),ht]
   rfl
  | succ k ih=>
   intro j K v0 v2 hj hK h2 h0 ht hp
   obtain ⟨K,rfl⟩:∃j,K=j+1:=⟨K - 1,by omega⟩
   have hjl:j<M.length:=by omega
   have hj2:j<v2.length:=by omega
   have h02:v0<v2.length:=by omega
   have un:∀(g:(Int×Int×List Int→Option (List Int))→Int×Int×List Int→Option (List Int)) (s),miter g (K+1) s=g (miter g K) s:=fun _ _=>rfl
   rw [un]
   generalize hr:miter (fun rec=>slices_DeleteFunc_int_int__impl_worker_others_1.step5 N M w rec) K=rec
   have htk:M.take (j+1)=M.take j++[ix M j]:=by rw [List.take_add_one,List.getElem?_eq_getElem hjl,ix,getD_at hjl];rfl
   simp only [slices_DeleteFunc_int_int__impl_worker_others_1.step5,lt_dec hj2,lt_dec h02,nn_dec,cond_true,Int.toNat_natCast,ixe,hp j (Nat.le_refl _),impl_worker_others_1.m,ob_some]
   rw [w_up j _ hjl (by omega),w_up v0 _ (show v0<M.length by omega) (by omega)]
   cases he:ix M j==w.Node.Id with
   | true=>
    rw [Bool.not_true,cond_false,← hr]
    refine ih (j+1) K v0 v2 (by omega) (by omega) h2 (by omega) ?_ (fun p h=>hp p (by omega))
    have:notId w.Node (ix M j)=false:=by unfold notId;rw [he];rfl
    rw [ht,htk,List.filter_append]
    simp [List.filter,this]
   | false=>
    rw [Bool.not_false,cond_true,← hr]
    refine ih (j+1) K (v0+1) (v2.set v0 (ix M j)) (by omega) (by omega) (by rw [List.length_set];exact h2) (by omega) ?_ (fun p h=>?_)
    ·have:notId w.Node (ix M j)=true:=by unfold notId;rw [he];rfl
     rw [htk,List.filter_append,← ht]
     have hset:(v2.set v0 (ix M j)).take (v0+1)=v2.take v0++[ix M j]:=by
      rw [List.take_add_one,List.getElem?_set_self h02,List.take_set_of_le (Nat.le_refl _)];rfl
     rw [hset]
     simp [List.filter,this]
    ·rw [← hp p (by omega),ix,ix,List.getD_eq_getElem?_getD,List.getElem?_set_ne (by omega),← List.getD_eq_getElem?_getD];rfl
 refine go (M.length - (i+1)) (i+1) N i M (by omega) (by omega) rfl (by omega) ?_ (fun p _=>rfl)
 have htk:M.take (i+1)=M.take i++[ix M i]:=by rw [List.take_add_one,List.getElem?_eq_getElem hi,ix,getD_at hi];rfl
 have:notId w.Node (ix M i)=false:=by unfold notId;rw [he];simp
 rw [htk,List.filter_append,hf]
 simp [List.filter,this]
def tv (x:Node) (a:Int):Int:=bif a==0 then 0 else (ex x.Log (a - 1).toNat).Term
def msgTo (x:Node) (to:Int):Message:=⟨3,x.Id,to,x.Term,ix x.Next to.toNat - 1,tv x (ix x.Next to.toNat - 1),x.Commit,x.Log.drop (ix x.Next to.toNat - 1).toNat,false⟩
structure Tells (x:Node):Prop where
 n7:x.Next.length=7
 nx:∀j,j<7→1≤ix x.Next j∧ix x.Next j≤x.Log.length+1
 ll:x.Log.length≤100
def told (x:Node) (M:List Int):List Message:=(M.filter (notId x)).map (msgTo x)
theorem told_len {x:Node} {M:List Int} (hM:Mem M):(told x M).length≤7:=by
 unfold told
 have:=List.length_filter_le (notId x) M
 have:=hM.len
 rw [List.length_map];omega
theorem told_ent {x:Node} {M:List Int} (h:Tells x):∀m∈told x M,m.Entries.length≤100:=by
 intro m hm
 unfold told at hm
 obtain ⟨v,_,rfl⟩:=List.mem_map.1 hm
 have:=h.ll
 show (x.Log.drop _).length≤100
 rw [List.length_drop];omega
theorem copyN {N:Nat} (x:Node) (h:NodeSz x M20):impl_copyNode.m N x=some x:=by
 unfold impl_copyNode.m
 rw [cloneEnt N _ h.Log,ob_some,cloneInt N _ h.Start,ob_some,cloneInt N _ h.Votes,ob_some,cloneInt N _ h.Next,ob_some,cloneInt N _ h.Match,ob_some]
structure OkN (x:Node):Prop where
 m:allMem x.Log
 s:idsB (ix x.Start) x.Start.length=true
 c0:0≤x.Commit
 c1:x.Commit≤x.Log.length
 n7:x.Next.length=7
 m7:x.Match.length=7
 nx:∀j,j<7→1≤ix x.Next j∧ix x.Next j≤x.Log.length+1
 ll:x.Log.length≤60
theorem okN {x:Node} (h:okB x=true):OkN x:=by
 have hm:=okMem h
 have hc:=okCommit h
 unfold okB at h
 simp only [Bool.and_eq_true,decide_eq_true_eq] at h
 obtain ⟨_,hs,h3,_,_,_,h7,h8,_,_,_,hr,_⟩:=h
 unfold stB at hs
 simp only [Bool.and_eq_true,decide_eq_true_eq] at hs
 have hll:x.Log.length≤60:=by have:=hs.2.2.1;omega
 refine ⟨hm,h3,hc.1,hc.2,h7,h8,fun j hj=>?_,hll⟩
 unfold reachB at hr
 rw [allF_iff] at hr
 have:=hr j (Nat.zero_le _) (by omega)
 unfold reachP inB at this
 simp only [Bool.and_eq_true,decide_eq_true_eq] at this
 rw [w_small (x:=(x.Log.length:Int)+1) (by omega) (by omega)] at this
 exact this.1
theorem ex_app {a:List Entry} {e:Entry} {j:Nat} (h:j<a.length):ex (a++[e]) j=ex a j:=by
 unfold ex
 rw [List.getD_eq_getElem?_getD,List.getElem?_append_left h,← List.getD_eq_getElem?_getD]
theorem ex_last {a:List Entry} {e:Entry}:ex (a++[e]) a.length=e:=by
 unfold ex
 rw [List.getD_eq_getElem?_getD,List.getElem?_append_right (Nat.le_refl _)];simp
def zN:Node:=⟨0,0,0,[],[],0,[],[],[],0,0,0,false⟩
structure GN (x:Node):Prop where
 sz:NodeSz x M20
 da:NodeData x
 mm:allMem x.Log
 st:idsB (ix x.Start) x.Start.length=true
 c0:0≤x.Commit
 c1:x.Commit≤x.Log.length
 n7:x.Next.length=7
 m7:x.Match.length=7
 nx:∀j,j<7→1≤ix x.Next j∧ix x.Next j≤x.Log.length+1
 ll:x.Log.length≤60
theorem GN.of {x:Node} (hs:NodeSz x M20) (hd:NodeData x) (hk:okB x=true):GN x:=by
 have o:=okN hk
 exact ⟨hs,hd,o.m,o.s,o.c0,o.c1,o.n7,o.m7,o.nx,o.ll⟩
def mems (x:Node):List Int:=memL x.Log x.Start x.Log.length
theorem GN.mi {N:Nat} (hN:Big N) {x:Node} (h:GN x):impl_Node_members.m N x=some (mems x):=implMembers hN x h.sz h.da
theorem GN.M {x:Node} (h:GN x):Mem (mems x):=mem_of (memL_ids h.st h.mm _ (Nat.le_refl _))
theorem GN.tells {x:Node} (h:GN x):Tells x:=⟨h.n7,h.nx,by have:=h.ll;omega⟩
theorem GN.mi' {N:Nat} (hN:Big N) {x x':Node} (h:GN x) (e1:x'.Log=x.Log) (e2:x'.Start=x.Start):impl_Node_members.m N x'=some (mems x):=by
 have base:=h.mi hN
 unfold impl_Node_members.m at base ⊢
 rw [e1,e2];exact base
theorem isMostV {N:Nat} (hN:Big N) (w:worker) (M:List Int) (hm:impl_Node_members.m N w.Node=some M) (hM:Mem M) (hv:w.Node.Votes.length≤M20):impl_worker_isMost__impl_worker_leadIf_1_.m N w w=some (mostB (hasB w.Node.Votes) M):=by
 unfold impl_worker_isMost__impl_worker_leadIf_1_.m impl_worker_isMost__impl_worker_leadIf_1_.m0
 rw [nodeEta,hm,ob_some]
 unfold impl_worker_isMost__impl_worker_leadIf_1_.lp3
 have hl:=hM.len
 exact miter_up (step:=fun rec=>impl_worker_isMost__impl_worker_leadIf_1_.step3 N w w rec) (n:=M.length) (st:=fun i=>(((cnB (fun j=>hasB w.Node.Votes (ix M j)) i:Nat):Int),(M.length:Int),(i:Int),M)) (fun i hi' rec=>by
  have hc:=cnB_le (fun j=>hasB w.Node.Votes (ix M j)) i
  have c1:impl_worker_leadIf_1.m N (ix M i) w=some (hasB w.Node.Votes (ix M i)):=by
   unfold impl_worker_leadIf_1.m
   rw [contains hN _ _ hv,ob_some]
  simp only [impl_worker_isMost__impl_worker_leadIf_1_.step3,workEta,lt_dec hi',nn_dec,cond_true,Int.toNat_natCast,ixe,c1,ob_some]
  rw [w_up i _ hi' (by omega),w_small (x:=((cnB (fun j=>hasB w.Node.Votes (ix M j)) i:Nat):Int)+1) (by omega) (by omega),show cnB (fun j=>hasB w.Node.Votes (ix M j)) (i+1)=cnB (fun j=>hasB w.Node.Votes (ix M j)) i+(hasB w.Node.Votes (ix M i)).toNat from rfl]
  cases hasB w.Node.Votes (ix M i)<;>simp) (fun rec=>by
  have hc:=cnB_le (fun j=>hasB w.Node.Votes (ix M j)) M.length
  simp only [impl_worker_isMost__impl_worker_leadIf_1_.step3,ge_dec,cond_false]
  rw [w_small (by omega) (by omega)]
  rfl) M.length 0 N (by omega) (by omega)
theorem mul17' (N:Nat) (v:Int):math_bits_Mul.m N (wu64 (([v]:List Int).length:Int)) (wu64 7)=some (0,7):=by kernel_rfl
theorem repeat7 {N:Nat} (hN:Big N) (v:Int):slices_Repeat_int_int.m N [v] 7=some [v,v,v,v,v,v,v]:=by
 obtain ⟨M,rfl⟩:∃M,N=M+8:=⟨N - 8,by omega⟩
 unfold slices_Repeat_int_int.m slices_Repeat_int_int.m0
 rw [mul17']
 simp only [ob_some]
 unfold slices_Repeat_int_int.lp8
 kernel_rfl
theorem othersI {N:Nat} (hN:Big N) (x:Node) (M:List Int) (sent:List Message) (hmi:impl_Node_members.m N x=some M) (hM:Mem M):impl_worker_others_.m N ⟨x,sent⟩=some (M.filter (notId x)):=by
 unfold impl_worker_others_.m
 have hl:=hM.len
 have hd:=delId hN ⟨x,sent⟩ M (by omega)
 simp only [nodeEta]
 rw [hmi,ob_some,hd,ob_some]
def leadL (x:Node):List Entry:=if x.Log.length<60 then x.Log++[⟨x.Term,0,ByteArray.empty⟩] else x.Log
def leadN (x:Node):Node:=⟨x.Id,x.Term,x.Vote,leadL x,x.Start,2,x.Votes,List.replicate 7 ((x.Log.length:Int)+1),List.replicate 7 0,x.Commit,0,x.Wait,x.Up⟩
theorem leadL_len (x:Node):x.Log.length≤(leadL x).length∧(leadL x).length≤x.Log.length+1:=by
 unfold leadL;split
 ·simp
 ·omega
theorem leadL_at {x:Node} {j:Nat} (h:j<x.Log.length):ex (leadL x) j=ex x.Log j:=by
 unfold leadL;split
 ·exact ex_app h
 ·rfl
theorem rep7 (v:Int) {j:Nat} (h:j<7):ix (List.replicate 7 v) j=v:=by
 rw [ix,getD_at (by rw [List.length_replicate];exact h)];exact List.getElem_replicate _
theorem GN.lead {x:Node} (h:GN x):GN (leadN x):=by
 have hl:=leadL_len x
 have hll:=h.ll
 have h60:(leadL x).length≤60:=by
  unfold leadL;split
  ·simp;omega
  ·omega
 refine ⟨⟨?_,h.sz.Start,h.sz.Votes,by show (List.replicate 7 _).length≤_;simp [M20],by show (List.replicate 7 _).length≤_;simp [M20]⟩,fun e he=>?_,fun j hj hk=>?_,h.st,h.c0,?_,by show (List.replicate 7 _).length=7;simp,by show (List.replicate 7 _).length=7;simp,fun j hj=>?_,h60⟩
 ·show (leadL x).length≤_;simp only [M20];omega
 ·have he:e∈leadL x:=he
  unfold leadL at he
  split at he
  ·rcases List.mem_append.1 he with he | he
   ·exact h.da e he
   ·rw [List.mem_singleton] at he;rw [he];exact Nat.zero_le _
  ·exact h.da e he
 ·have hj:j<(leadL x).length:=hj
  have hk:((ex (leadL x) j).Kind==2)=true:=hk
  show memB (ex (leadL x) j).Data=true
  by_cases hjl:j<x.Log.length
  ·rw [leadL_at hjl] at hk ⊢;exact h.mm j hjl hk
  ·exfalso
   have e:j=x.Log.length:=by omega
   subst e
   unfold leadL at hk hj
   split at hk
   ·rw [ex_last] at hk;cases hk
   ·rename_i h6;rw [if_neg h6] at hj;omega
 ·show x.Commit≤((leadL x).length:Int);have:=h.c1;omega
 ·show 1≤ix (List.replicate 7 ((x.Log.length:Int)+1)) j∧ix (List.replicate 7 ((x.Log.length:Int)+1)) j≤((leadL x).length:Int)+1
  rw [rep7 _ hj];omega
theorem mems_lead (x:Node):mems (leadN x)=mems x:=by
 show memL (leadL x) x.Start (leadL x).length=memL x.Log x.Start x.Log.length
 unfold leadL
 split
 ·rw [List.length_append,List.length_singleton,memL,ex_last]
  simp only [show ((0:Int)==2)=false from rfl,cond_false]
  exact memL_congr _ fun j hj=>ex_app hj
 ·rfl
def electN (x:Node) (d:Int):Node:=⟨x.Id,x.Term+1,x.Id,x.Log,x.Start,1,[x.Id],x.Next,x.Match,x.Commit,0,5+Int.tmod d 8,x.Up⟩
def voteM (y:Node) (to:Int):Message:=⟨1,y.Id,to,y.Term,(y.Log.length:Int),tv y (y.Log.length:Int),0,[],false⟩
def electR (x:Node) (d:Int):Node×List Message:=
 bif mostB (hasB [x.Id]) (mems x) then (withC (leadN (electN x d)) (advC (leadN (electN x d)) (mems x) (leadL (electN x d)).length),told (leadN (electN x d)) (mems x))
 else (electN x d,((mems x).filter (notId (electN x d))).map (voteM (electN x d)))
theorem GN.elect {x:Node} (h:GN x) (d:Int):GN (electN x d):=⟨⟨h.sz.Log,h.sz.Start,by show [x.Id].length≤_;simp [M20],h.sz.Next,h.sz.Match⟩,h.da,h.mm,h.st,h.c0,h.c1,h.n7,h.m7,h.nx,h.ll⟩
def te (x:Node):Int:=if x.Elapsed+1<1000 then x.Elapsed+1 else 1000
def withE (x:Node) (e:Int):Node:=⟨x.Id,x.Term,x.Vote,x.Log,x.Start,x.Role,x.Votes,x.Next,x.Match,x.Commit,e,x.Wait,x.Up⟩
theorem GN.withE {x:Node} (h:GN x) (e:Int):GN (withE x e):=⟨⟨h.sz.Log,h.sz.Start,h.sz.Votes,h.sz.Next,h.sz.Match⟩,h.da,h.mm,h.st,h.c0,h.c1,h.n7,h.m7,h.nx,h.ll⟩
def tickR (x:Node) (d:Int):Node×List Message:=
 bif x.Role==2 then (bif decide (te x<2) then (withE x (te x),[]) else (withE x 0,told (withE x 0) (mems x)))
 else bif decide (te x<x.Wait) then (withE x (te x),[]) else bif !hasB (mems x) x.Id then (withE x (te x),[]) else bif x.Term==1000000 then (withE x (te x),[]) else electR (withE x (te x)) d
theorem okEl {x:Node} (h:okB x=true):0≤x.Term∧x.Term≤1000000∧0≤x.Elapsed∧x.Elapsed≤1000:=by
 unfold okB stB inB at h
 simp only [Bool.and_eq_true,decide_eq_true_eq] at h
 obtain ⟨_,h1,_,_,_,_,_,_,_,h2,_⟩:=h
 exact ⟨h1.1.1,h1.1.2,h2.1,h2.2⟩
theorem electR_ok {x:Node} (h:GN x) (d:Int):NodeSz (electR x d).1 1048576∧(electR x d).2.length≤10∧∀m∈(electR x d).2,m.Entries.length≤100:=by
 have he:=(h.elect d).lead
 have hM:=h.M
 unfold electR
 cases mostB (hasB [x.Id]) (mems x) with
 | true=>
  refine ⟨⟨he.sz.Log,he.sz.Start,he.sz.Votes,he.sz.Next,he.sz.Match⟩,?_,told_ent he.tells⟩
  have:=told_len (x:=leadN (electN x d)) hM
  show (told _ _).length≤10;omega
 | false=>
  refine ⟨(h.elect d).sz,?_,fun m hm=>?_⟩
  ·show (((mems x).filter _).map _).length≤10
   have:=List.length_filter_le (notId (electN x d)) (mems x)
   have:=hM.len
   rw [List.length_map];omega
  ·obtain ⟨v,_,rfl⟩:=List.mem_map.1 hm
   exact Nat.zero_le _
theorem tickR_ok {x:Node} (h:GN x) (d:Int):NodeSz (tickR x d).1 1048576∧(tickR x d).2.length≤10∧∀m∈(tickR x d).2,m.Entries.length≤100:=by
 have e0:∀e,NodeSz (withE x e) 1048576:=fun e=>⟨h.sz.Log,h.sz.Start,h.sz.Votes,h.sz.Next,h.sz.Match⟩
 have same:∀e,NodeSz ((withE x e,([]:List Message)).1) 1048576∧((withE x e,([]:List Message)).2).length≤10∧∀m∈(withE x e,([]:List Message)).2,m.Entries.length≤100:=fun e=>⟨e0 e,Nat.zero_le _,fun m hm=>absurd hm List.not_mem_nil⟩
 unfold tickR
 cases x.Role==2 with
 | true=>
  cases decide (te x<2) with
  | true=>exact same _
  | false=>
   refine ⟨e0 0,?_,told_ent (h.withE 0).tells⟩
   have:=told_len (x:=withE x 0) h.M
   show (told _ _).length≤10;omega
 | false=>
  cases decide (te x<x.Wait) with
  | true=>exact same _
  | false=>
   cases hasB (mems x) x.Id with
   | false=>exact same _
   | true=>
    cases x.Term==1000000 with
    | true=>exact same _
    | false=>exact electR_ok (h.withE (te x)) d
def ntR (x:Node) (d:Int):Node×List Message×Int:=bif okB x then bif inB d 0 1000000 then bif x.Up then ((tickR x d).1,(tickR x d).2,0) else (x,[],5) else (zN,[],4) else (zN,[],1)
end Mir.Y
