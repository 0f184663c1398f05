/- Pure laws: NodePropose. -/
import Derived.Test.YtbbkpgpfppnakaaGreatJTNP1
namespace Mir.Y
set_option linter.unusedVariables false
set_option linter.unusedSimpArgs false
open Go
def notId (x:Node) (v:Int):Bool:=!(v==x.Id)
theorem idxFirst {N:Nat} (hN:Big N) (w:worker) (M:List Int) (hl:M.length≤100):∃y:Int,slices_IndexFunc_int_int__impl_worker_others_1.m N M w=some y∧((y = -1∧M.filter (notId w.Node)=M)∨∃i:Nat,y=(i:Int)∧i<M.length∧(M.take i).filter (notId w.Node)=M.take i∧ix M i=w.Node.Id):=by
 unfold slices_IndexFunc_int_int__impl_worker_others_1.m slices_IndexFunc_int_int__impl_worker_others_1.m0 slices_IndexFunc_int_int__impl_worker_others_1.lp2
 have go:∀(k i K:Nat),i+k=M.length→k<K→(M.take i).filter (notId w.Node)=M.take i→∃y:Int,miter (fun rec=>slices_IndexFunc_int_int__impl_worker_others_1.step2 N M w rec) K ((M.length:Int),(i:Int))=some y∧((y = -1∧M.filter (notId w.Node)=M)∨∃i:Nat,y=(i:Int)∧i<M.length∧(M.take i).filter (notId w.Node)=M.take i∧ix M i=w.Node.Id):=by
  intro k
  induction k with
  | zero=>
   intro i K hi hK hf
   obtain ⟨K,rfl⟩:∃j,K=j+1:=⟨K - 1,by omega⟩
   obtain rfl:i=M.length:=by omega
   rw [List.take_length] at hf
   refine ⟨-1,?_,.inl ⟨rfl,hf⟩⟩
   have un:∀(g:(Int×Int→Option Int)→Int×Int→Option Int) (s),miter g (K+1) s=g (miter g K) s:=fun _ _=>rfl
   rw [un]
   simp only [slices_IndexFunc_int_int__impl_worker_others_1.step2,ge_dec,cond_false]
  | succ k ih=>
   intro i K hi hK hf
   obtain ⟨K,rfl⟩:∃j,K=j+1:=⟨K - 1,by omega⟩
   have hil:i<M.length:=by omega
   have un:∀(g:(Int×Int→Option Int)→Int×Int→Option Int) (s),miter g (K+1) s=g (miter g K) s:=fun _ _=>rfl
   rw [un]
   generalize hr:miter (fun rec=>slices_IndexFunc_int_int__impl_worker_others_1.step2 N M w rec) K=rec
   simp only [slices_IndexFunc_int_int__impl_worker_others_1.step2,lt_dec hil,nn_dec,cond_true,Int.toNat_natCast,ixe,impl_worker_others_1.m,ob_some]
   rw [w_up i _ hil (by omega)]
   cases he:ix M i==w.Node.Id with
   | true=>exact ⟨(i:Int),rfl,.inr ⟨i,rfl,hil,hf,by simpa using he⟩⟩
   | false=>
    rw [cond_false,← hr]
    refine ih (i+1) K (by omega) (by omega) ?_
    have ht:M.take (i+1)=M.take i++[ix M i]:=by rw [List.take_add_one,List.getElem?_eq_getElem hil,ix,getD_at hil];rfl
    rw [ht,List.filter_append,hf]
    have:notId w.Node (ix M i)=true:=by unfold notId;rw [he];rfl
    simp [List.filter,this]
 exact go M.length 0 N (by omega) (by omega) rfl
theorem delId {N:Nat} (hN:Big N) (w:worker) (M:List Int) (hl:M.length≤100):slices_DeleteFunc_int_int__impl_worker_others_1.m N M w=some (M.filter (notId w.Node)):=by
 unfold slices_DeleteFunc_int_int__impl_worker_others_1.m slices_DeleteFunc_int_int__impl_worker_others_1.m0
 rw [workEta]
 obtain ⟨y,hy,h⟩:=idxFirst hN w M hl
 rw [hy,ob_some]
 rcases h with ⟨rfl,hf⟩ | ⟨i,rfl,hi,hf,he⟩
 ·rw [hf];rfl
 have e1:((i:Int) == -1)=false:=by rw [beq_eq_false_iff_ne];omega
 rw [e1,cond_false,w_up i _ hi (by omega)]
 unfold slices_DeleteFunc_int_int__impl_worker_others_1.lp5
 have go:∀(k j K v0:Nat) (v2:List Int),j+k=M.length→k<K→v2.length=M.length→v0<j→v2.take v0=(M.take j).filter (notId w.Node)→(∀p,j≤p→ix v2 p=ix M p)→miter (fun rec=>slices_DeleteFunc_int_int__impl_worker_others_1.step5 N M w rec) K ((v0:Int),(j:Int),v2)=some (M.filter (notId w.Node)):=by
  intro k
  induction k with
  | zero=>
   intro j K v0 v2 hj hK h2 h0 ht hp
   obtain ⟨K,rfl⟩:∃j,K=j+1:=⟨K - 1,by omega⟩
   obtain rfl:j=M.length:=by omega
   rw [List.take_length] at ht
   have un:∀(g:(Int×Int×List Int→Option (List Int))→Int×Int×List Int→Option (List Int)) (s),miter g (K+1) s=g (miter g K) s:=fun _ _=>rfl
   rw [un]
   simp only [slices_DeleteFunc_int_int__impl_worker_others_1.step5]
   have d1:decide (((M.length:Nat):Int)<((v2.length:Nat):Int))=false:=decide_eq_false (by omega)
   have d2:decide ((v0:Int)≤((v2.length:Nat):Int))=true:=decide_eq_true (by omega)
   have d3:decide (v0+(v2.length - v0)≤v2.length)=true:=decide_eq_true (by omega)
   have hw:(v2.take v0++(List.replicate (v2.length - v0) (0:Int)++v2.drop (v0+(v2.length - v0)))).length=v2.length:=by simp;omega
   rw [d1,cond_false,nn_dec,Int.toNat_natCast,d2,d3,hw,d2,Nat.zero_add,Nat.sub_zero,decide_eq_true (show v0≤v2.length by omega),List.drop_zero,List.take_append_of_le_length (by rw [List.length_take];omega),List.take_of_length_le (by rw [List.length_take];omega),ht]
   rfl
  | succ k ih=>
   intro j K v0 v2 hj hK h2 h0 ht hp
   obtain ⟨K,rfl⟩:∃j,K=j+1:=⟨K - 1,by omega⟩
   have hjl:j<M.length:=by omega
   have hj2:j<v2.length:=by omega
   have h02:v0<v2.length:=by omega
   have un:∀(g:(Int×Int×List Int→Option (List Int))→Int×Int×List Int→Option (List Int)) (s),miter g (K+1) s=g (miter g K) s:=fun _ _=>rfl
   rw [un]
   generalize hr:miter (fun rec=>slices_DeleteFunc_int_int__impl_worker_others_1.step5 N M w rec) K=rec
   have htk:M.take (j+1)=M.take j++[ix M j]:=by rw [List.take_add_one,List.getElem?_eq_getElem hjl,ix,getD_at hjl];rfl
   simp only [slices_DeleteFunc_int_int__impl_worker_others_1.step5,lt_dec hj2,lt_dec h02,nn_dec,cond_true,Int.toNat_natCast,ixe,hp j (Nat.le_refl _),impl_worker_others_1.m,ob_some]
   rw [w_up j _ hjl (by omega),w_up v0 _ (show v0<M.length by omega) (by omega)]
   cases he:ix M j==w.Node.Id with
   | true=>
    rw [Bool.not_true,cond_false,← hr]
    refine ih (j+1) K v0 v2 (by omega) (by omega) h2 (by omega) ?_ (fun p h=>hp p (by omega))
    have:notId w.Node (ix M j)=false:=by unfold notId;rw [he];rfl
    rw [ht,htk,List.filter_append]
    simp [List.filter,this]
   | false=>
    rw [Bool.not_false,cond_true,← hr]
    refine ih (j+1) K (v0+1) (v2.set v0 (ix M j)) (by omega) (by omega) (by rw [List.length_set];exact h2) (by omega) ?_ (fun p h=>?_)
    ·have:notId w.Node (ix M j)=true:=by unfold notId;rw [he];rfl
     rw [htk,List.filter_append,← ht]
     have hset:(v2.set v0 (ix M j)).take (v0+1)=v2.take v0++[ix M j]:=by
      rw [List.take_add_one,List.getElem?_set_self h02,List.take_set_of_le (Nat.le_refl _)];rfl
     rw [hset]
     simp [List.filter,this]
    ·rw [← hp p (by omega),ix,ix,List.getD_eq_getElem?_getD,List.getElem?_set_ne (by omega),← List.getD_eq_getElem?_getD];rfl
 refine go (M.length - (i+1)) (i+1) N i M (by omega) (by omega) rfl (by omega) ?_ (fun p _=>rfl)
 have htk:M.take (i+1)=M.take i++[ix M i]:=by rw [List.take_add_one,List.getElem?_eq_getElem hi,ix,getD_at hi];rfl
 have:notId w.Node (ix M i)=false:=by unfold notId;rw [he];simp
 rw [htk,List.filter_append,hf]
 simp [List.filter,this]
def tv (x:Node) (a:Int):Int:=bif a==0 then 0 else (ex x.Log (a - 1).toNat).Term
theorem termV {N:Nat} (x:Node) (a:Int) (h0:0≤a) (h1:a≤x.Log.length) (hl:x.Log.length≤100):spec_l10Term.m N x a=some (tv x a):=by
 unfold spec_l10Term.m tv
 by_cases h:a=0
 ·rw [h];rfl
 ·have e:(a==0)=false:=by rw [beq_eq_false_iff_ne];exact h
  rw [e,w_small (by omega) (by omega),decide_eq_true (show 0≤a - 1 by omega),decide_eq_true (show a - 1<x.Log.length by omega)]
  rfl
def msgTo (x:Node) (to:Int):Message:=⟨3,x.Id,to,x.Term,ix x.Next to.toNat - 1,tv x (ix x.Next to.toNat - 1),x.Commit,x.Log.drop (ix x.Next to.toNat - 1).toNat,false⟩
structure Tells (x:Node):Prop where
 n7:x.Next.length=7
 nx:∀j,j<7→1≤ix x.Next j∧ix x.Next j≤x.Log.length+1
 ll:x.Log.length≤100
theorem specApp {N:Nat} (hN:Big N) (x:Node) (h:Tells x) (to:Int) (h0:0≤to) (h6:to≤6):spec_l10Append.m N x to=some (msgTo x to):=by
 unfold spec_l10Append.m
 have hn:=h.nx to.toNat (by omega)
 have hl:=h.ll
 have e:w64 (ix x.Next to.toNat - 1)=ix x.Next to.toNat - 1:=w_small (by omega) (by omega)
 rw [ixe,e,decide_eq_true h0,decide_eq_true (show to<(x.Next.length:Int) by rw [h.n7];omega),termV x _ (by omega) (by omega) hl,decide_eq_true (show 0≤ix x.Next to.toNat - 1 by omega),decide_eq_true (show ix x.Next to.toNat - 1≤((x.Log.length:Nat):Int) by omega)]
 simp only [cond_true,ob_some]
 rw [roomB (by rw [List.length_drop];simp;omega) (by omega)]
 rfl
theorem implTell {N:Nat} (hN:Big N) (x:Node) (h:Tells x) (sent:List Message) (hs:sent.length≤100) (to:Int) (h0:0≤to) (h6:to≤6):impl_worker_tell_.m N ⟨x,sent⟩ to x.Commit=some ⟨x,sent++[msgTo x to]⟩:=by
 unfold impl_worker_tell_.m impl_worker_send.m
 have hn:=h.nx to.toNat (by omega)
 have hl:=h.ll
 have e:w64 (ix x.Next to.toNat - 1)=ix x.Next to.toNat - 1:=w_small (by omega) (by omega)
 have et:=termV (N:=N) x (ix x.Next to.toNat - 1) (by omega) (by omega) hl
 rw [← term_eq] at et
 simp only [ixe,e,decide_eq_true h0,decide_eq_true (show to<(x.Next.length:Int) by rw [h.n7];omega),et,decide_eq_true (show 0≤ix x.Next to.toNat - 1 by omega),decide_eq_true (show ix x.Next to.toNat - 1≤((x.Log.length:Nat):Int) by omega),cond_true,ob_some]
 have hd:(x.Log.drop (ix x.Next to.toNat - 1).toNat).take (x.Log.length - (ix x.Next to.toNat - 1).toNat)=x.Log.drop (ix x.Next to.toNat - 1).toNat:=List.take_of_length_le (by rw [List.length_drop];omega)
 rw [hd,cloneEnt N _ (by rw [List.length_drop];omega),decide_eq_true (show (ix x.Next to.toNat - 1).toNat+(x.Log.length - (ix x.Next to.toNat - 1).toNat)≤x.Log.length by omega),cond_true,ob_some,roomB (by rw [List.length_singleton];omega) (by omega),cond_true,ob_some]
 rfl
def told (x:Node) (M:List Int):List Message:=(M.filter (notId x)).map (msgTo x)
theorem told_len {x:Node} {M:List Int} (hM:Mem M):(told x M).length≤7:=by
 unfold told
 have:=List.length_filter_le (notId x) M
 have:=hM.len
 rw [List.length_map];omega
theorem told_ent {x:Node} {M:List Int} (h:Tells x):∀m∈told x M,m.Entries.length≤100:=by
 intro m hm
 unfold told at hm
 obtain ⟨v,_,rfl⟩:=List.mem_map.1 hm
 have:=h.ll
 show (x.Log.drop _).length≤100
 rw [List.length_drop];omega
theorem specTell {N:Nat} (hN:Big N) (x:Node) (M:List Int) (hms:spec_l10Members_.m N x=some M) (hM:Mem M) (h:Tells x):spec_l10Tell.m N x=some (told x M):=by
 unfold spec_l10Tell.m spec_l10Tell.m0
 rw [hms,ob_some]
 unfold spec_l10Tell.lp4
 have hl:=hM.len
 have:=miter_up (step:=fun rec=>spec_l10Tell.step4 N x rec) (n:=M.length) (st:=fun i=>(M,(i:Int),((M.take i).filter (notId x)).map (msgTo x))) (r:=some (told x M)) (fun i hi rec=>by
  have hx:=hM.lo _ (ix_mem hi)
  have hle:(((M.take i).filter (notId x)).map (msgTo x)).length≤100:=by
   have:=List.length_filter_le (notId x) (M.take i)
   rw [List.length_take] at this
   rw [List.length_map];omega
  have htk:M.take (i+1)=M.take i++[ix M i]:=by rw [List.take_add_one,List.getElem?_eq_getElem hi,ix,getD_at hi];rfl
  simp only [spec_l10Tell.step4,lt_dec hi,nn_dec,cond_true,Int.toNat_natCast,ixe,specApp hN x h _ hx.1 hx.2,ob_some]
  rw [w_up i _ hi (by omega),roomB (by rw [List.length_singleton];omega) (by omega),cond_true,htk,List.filter_append,List.map_append]
  have hb:(ix M i != x.Id)=notId x (ix M i):=rfl
  rw [hb]
  cases hq:notId x (ix M i)<;>simp [List.filter,hq]) (fun rec=>by
  simp only [spec_l10Tell.step4,ge_dec,cond_false,List.take_length]
  rfl) M.length 0 N (by omega) (by omega)
 exact this
theorem copyN {N:Nat} (x:Node) (h:NodeSz x M20):impl_copyNode.m N x=some x:=by
 unfold impl_copyNode.m
 rw [cloneEnt N _ h.Log,ob_some,cloneInt N _ h.Start,ob_some,cloneInt N _ h.Votes,ob_some,cloneInt N _ h.Next,ob_some,cloneInt N _ h.Match,ob_some]
theorem ownS {N:Nat} (x:Node) (h:NodeSz x M20):spec_l10Own.m N x=some x:=by
 unfold spec_l10Own.m
 have h1:=h.Log;have h2:=h.Start;have h3:=h.Votes;have h4:=h.Next;have h5:=h.Match
 rw [roomB (by simpa using h1) (by omega),roomB (by simpa using h2) (by omega),roomB (by simpa using h3) (by omega),roomB (by simpa using h4) (by omega),roomB (by simpa using h5) (by omega)]
 rfl
structure OkN (x:Node):Prop where
 m:allMem x.Log
 s:idsB (ix x.Start) x.Start.length=true
 c0:0≤x.Commit
 c1:x.Commit≤x.Log.length
 n7:x.Next.length=7
 m7:x.Match.length=7
 nx:∀j,j<7→1≤ix x.Next j∧ix x.Next j≤x.Log.length+1
 ll:x.Log.length≤60
theorem okN {x:Node} (h:okB x=true):OkN x:=by
 have hm:=okMem h
 have hc:=okCommit h
 unfold okB at h
 simp only [Bool.and_eq_true,decide_eq_true_eq] at h
 obtain ⟨_,hs,h3,_,_,_,h7,h8,_,_,_,hr,_⟩:=h
 unfold stB at hs
 simp only [Bool.and_eq_true,decide_eq_true_eq] at hs
 have hll:x.Log.length≤60:=by have:=hs.2.2.1;omega
 refine ⟨hm,h3,hc.1,hc.2,h7,h8,fun j hj=>?_,hll⟩
 unfold reachB at hr
 rw [allF_iff] at hr
 have:=hr j (Nat.zero_le _) (by omega)
 unfold reachP inB at this
 simp only [Bool.and_eq_true,decide_eq_true_eq] at this
 rw [w_small (x:=(x.Log.length:Int)+1) (by omega) (by omega)] at this
 exact this.1
theorem ex_app {a:List Entry} {e:Entry} {j:Nat} (h:j<a.length):ex (a++[e]) j=ex a j:=by
 unfold ex
 rw [List.getD_eq_getElem?_getD,List.getElem?_append_left h,← List.getD_eq_getElem?_getD]
theorem ex_last {a:List Entry} {e:Entry}:ex (a++[e]) a.length=e:=by
 unfold ex
 rw [List.getD_eq_getElem?_getD,List.getElem?_append_right (Nat.le_refl _)];simp
def zN:Node:=⟨0,0,0,[],[],0,[],[],[],0,0,0,false⟩
theorem zN_sz:NodeSz zN 1048576:=⟨Nat.zero_le _,Nat.zero_le _,Nat.zero_le _,Nat.zero_le _,Nat.zero_le _⟩
end Mir.Y
