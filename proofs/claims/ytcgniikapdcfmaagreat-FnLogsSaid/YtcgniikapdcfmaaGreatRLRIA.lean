/- The implementation's half: terms, what is told, what is committed, to lead. -/
import Derived.Test.YtcgniikapdcfmaaGreatRLRFB
namespace Mir.Y
set_option linter.unusedVariables false
set_option linter.unusedSimpArgs false
open Go
theorem termQ {N:Nat} (x:Node) (a:Int) (h0:0≤a) (h1:a≤x.Log.length) (hl:x.Log.length≤100):impl_Node_termAt.m N x a=some (tv x a):=by
 unfold impl_Node_termAt.m tv
 by_cases h:a=0
 ·rw [h];rfl
 ·have e:(a==0)=false:=by rw [beq_eq_false_iff_ne];exact h
  rw [e,w_small (by omega) (by omega),decide_eq_true (show 0≤a - 1 by omega),decide_eq_true (show a - 1<x.Log.length by omega)]
  rfl
theorem tellQ {N:Nat} (hN:Big N) (x:Node) (h:Tells x) (sent:List Message) (hs:sent.length≤100) (c to:Int) (h0:0≤to) (h6:to≤6):impl_worker_tell_.m N ⟨x,sent⟩ to c=some ⟨x,sent++[msgTo (withC x c) to]⟩:=by
 unfold impl_worker_tell_.m impl_worker_send.m
 have hn:=h.nx to.toNat (by omega)
 have hl:=h.ll
 have e:w64 (ix x.Next to.toNat - 1)=ix x.Next to.toNat - 1:=w_small (by omega) (by omega)
 have et:=termQ (N:=N) x (ix x.Next to.toNat - 1) (by omega) (by omega) hl
 simp only [ixe,e,decide_eq_true h0,decide_eq_true (show to<(x.Next.length:Int) by rw [h.n7];omega),et,decide_eq_true (show 0≤ix x.Next to.toNat - 1 by omega),decide_eq_true (show ix x.Next to.toNat - 1≤((x.Log.length:Nat):Int) by omega),cond_true,ob_some]
 have hd:(x.Log.drop (ix x.Next to.toNat - 1).toNat).take (x.Log.length - (ix x.Next to.toNat - 1).toNat)=x.Log.drop (ix x.Next to.toNat - 1).toNat:=List.take_of_length_le (by rw [List.length_drop];omega)
 rw [hd,cloneEnt N _ (by rw [List.length_drop];omega),decide_eq_true (show (ix x.Next to.toNat - 1).toNat+(x.Log.length - (ix x.Next to.toNat - 1).toNat)≤x.Log.length by omega),cond_true,ob_some,roomB (by rw [List.length_singleton];omega) (by omega),cond_true,ob_some]
 rfl
theorem tellAllQ {N:Nat} (hN:Big N) (x:Node) (M:List Int) (c:Int) (hmi:impl_Node_members.m N x=some M) (hM:Mem M) (h:Tells x):impl_worker_tellAll.m N ⟨x,[]⟩ c=some ⟨x,told (withC x c) M⟩:=by
 unfold impl_worker_tellAll.m impl_worker_tellAll.m0
 have hl:=hM.len
 simp only [nodeEta]
 rw [othersI hN x M [] hmi hM,ob_some]
 generalize hO':M.filter (notId x)=O
 have hOl:O.length≤7:=by rw [← hO'];have:=List.length_filter_le (notId x) M;omega
 have hOm:∀v∈O,0≤v∧v≤6:=fun v hv=>by rw [← hO'] at hv;exact hM.lo v (List.mem_filter.1 hv).1
 unfold impl_worker_tellAll.lp1
 have:=miter_up (step:=fun rec=>impl_worker_tellAll.step1 N ⟨x,[]⟩ c rec) (n:=O.length) (st:=fun i=>((O.length:Int),(i:Int),x.Id,x.Term,x.Vote,x.Role,x.Commit,x.Elapsed,x.Wait,x.Up,x.Log,x.Start,x.Votes,x.Next,x.Match,(O.take i).map (msgTo (withC x c)),O)) (r:=some ⟨x,told (withC x c) M⟩) (fun i hi rec=>by
  have hx:=hOm _ (ix_mem hi)
  have hle:((O.take i).map (msgTo (withC x c))).length≤100:=by rw [List.length_map,List.length_take];omega
  have htk:O.take (i+1)=O.take i++[ix O i]:=by rw [List.take_add_one,List.getElem?_eq_getElem hi,ix,getD_at hi];rfl
  have ht:=tellQ hN x h ((O.take i).map (msgTo (withC x c))) hle c (ix O i) hx.1 hx.2
  simp only [impl_worker_tellAll.step1,lt_dec hi,nn_dec,cond_true,Int.toNat_natCast,ixe,nodeEta,ht,ob_some]
  rw [w_up i _ hi (by omega),htk,List.map_append]
  rfl) (fun rec=>by
  have hf:notId (withC x c)=notId x:=rfl
  simp only [impl_worker_tellAll.step1,ge_dec,cond_false,List.take_length,told,hf,hO']) O.length 0 N (by omega) (by omega)
 exact this
theorem advQ {N:Nat} (hN:Big N) (x:Node) (M:List Int) (sent:List Message) (hmi:impl_Node_members.m N x=some M) (hM:Mem M) (h7:x.Match.length=7) (hl:x.Log.length≤100) (hc0:0≤x.Commit) (hc1:x.Commit≤x.Log.length):impl_worker_commit.m N ⟨x,sent⟩=some ⟨withC x (advC x M x.Log.length),sent⟩:=by
 unfold impl_worker_commit.m impl_worker_commit.m0 impl_worker_commit.lp2
 have main:∀(k K:Nat),k<K→k≤x.Log.length→miter (fun rec=>impl_worker_commit.step2 N ⟨x,sent⟩ rec) K (k:Int)=some ⟨withC x (advC x M k),sent⟩:=by
  intro k
  induction k with
  | zero=>
   intro K hK _
   obtain ⟨K,rfl⟩:∃j,K=j+1:=⟨K - 1,by omega⟩
   have un:∀ {α R:Type} (g:(α→Option R)→α→Option R) (s:α),miter g (K+1) s=g (miter g K) s:=fun _ _=>rfl
   rw [un]
   simp only [impl_worker_commit.step2]
   rw [decide_eq_false (show ¬ ((0:Nat):Int) > x.Commit by omega)]
   rfl
  | succ k ih=>
   intro K hK hk
   obtain ⟨K,rfl⟩:∃j,K=j+1:=⟨K - 1,by omega⟩
   have e1:w64 (((k+1:Nat):Int) - 1)=(k:Int):=by rw [w_small (by omega) (by omega)];omega
   have un:∀ {α R:Type} (g:(α→Option R)→α→Option R) (s:α),miter g (K+1) s=g (miter g K) s:=fun _ _=>rfl
   rw [un]
   simp only [impl_worker_commit.step2,e1]
   rw [ih K (by omega) (by omega)]
   by_cases hc:((k+1:Nat):Int) > x.Commit
   ·have tk:impl_Node_termAt.m N x ((k+1:Nat):Int)=some (ex x.Log k).Term:=by
     rw [termQ x _ (by omega) (by omega) hl,tv_tm x (by omega),Int.toNat_natCast,tm_succ]
    have im:=isMost hN ⟨x,sent⟩ ((k+1:Nat):Int) M hmi hM h7
    rw [advC,decide_eq_true hc,nodeEta,tk]
    simp only [cond_true,ob_some]
    cases ht:(ex x.Log k).Term==x.Term with
    | false=>rfl
    | true=>
     simp only [cond_true,workEta]
     rw [im,ob_some]
     cases mostB (hasIt x ((k+1:Nat):Int)) M<;>rfl
   ·rw [advC,decide_eq_false hc];rfl
 exact main x.Log.length N (by omega) (Nat.le_refl _)
theorem leadQ {N:Nat} (hN:Big N) {x:Node} (h:GN x):impl_worker_lead_.m N ⟨x,[]⟩=some ⟨withC (leadN x) (advC (leadN x) (mems x) (leadL x).length),told (leadN x) (mems x)⟩:=by
 have hl:=h.lead
 have hll:=h.ll
 have hM:=h.M
 have hmi:∀x':Node,x'.Log=(leadN x).Log→x'.Start=(leadN x).Start→impl_Node_members.m N x'=some (mems x):=fun x' e1 e2=>by
  have:=hl.mi' hN e1 e2
  rwa [mems_lead] at this
 have a2:=advQ hN (leadN x) (mems x) [] (hmi _ rfl rfl) hM hl.m7 (by have:=hl.ll;omega) hl.c0 hl.c1
 have tc:Tells (withC (leadN x) (advC (leadN x) (mems x) (leadL x).length)):=⟨hl.n7,hl.nx,hl.tells.ll⟩
 have t2:=tellAllQ hN (withC (leadN x) (advC (leadN x) (mems x) (leadL x).length)) (mems x) x.Commit (hmi _ rfl rfl) hM tc
 have ew:withC (withC (leadN x) (advC (leadN x) (mems x) (leadL x).length)) x.Commit=leadN x:=rfl
 rw [ew] at t2
 have a2:impl_worker_commit.m N ⟨leadN x,[]⟩=some ⟨withC (leadN x) (advC (leadN x) (mems x) (leadL x).length),[]⟩:=a2
 have w1:w64 ((x.Log.length:Int)+1)=(x.Log.length:Int)+1:=w_small (by omega) (by omega)
 unfold impl_worker_lead_.m
 have rp:slices_Repeat_int_int.m N [w64 ((x.Log.length:Int)+1)] 7=some (List.replicate 7 ((x.Log.length:Int)+1)):=by rw [w1];exact repeat7 hN _
 show ob (slices_Repeat_int_int.m N [w64 ((x.Log.length:Int)+1)] 7) _=_
 rw [rp,ob_some,show decide ((0:Int)≤7)=true from rfl,show room 7 8=true from rfl]
 simp only [cond_true]
 by_cases h6:x.Log.length<60
 ·rw [decide_eq_true (show (x.Log.length:Int)<60 by omega),cond_true,roomB (by rw [List.length_singleton];omega) (by omega),cond_true]
  have e:Node.mk x.Id x.Term x.Vote (x.Log++[Entry.mk x.Term 0 ByteArray.empty]) x.Start 2 x.Votes (List.replicate 7 ((x.Log.length:Int)+1)) (List.replicate 7 0) x.Commit 0 x.Wait x.Up=leadN x:=by unfold leadN leadL;rw [if_pos h6]
  rw [e,a2]
  simp only [ob_some,nodeEta,t2]
 ·rw [decide_eq_false (show ¬ (x.Log.length:Int)<60 by omega),cond_false]
  have e:Node.mk x.Id x.Term x.Vote x.Log x.Start 2 x.Votes (List.replicate 7 ((x.Log.length:Int)+1)) (List.replicate 7 0) x.Commit 0 x.Wait x.Up=leadN x:=by unfold leadN leadL;rw [if_neg h6]
  rw [e,a2]
  simp only [ob_some,nodeEta,t2]
theorem winQ {N:Nat} (hN:Big N) {z:Node} (h:GN z) (hv:z.Votes.length≤100):impl_worker_leadIf.m N ⟨z,[]⟩=some (mostB (hasB z.Votes) (mems z),⟨(winR z).1,(winR z).2⟩):=by
 have hM:=h.M
 unfold impl_worker_leadIf.m
 simp only [nodeEta]
 rw [isMostV hN ⟨z,[]⟩ (mems z) (h.mi hN) hM (by show z.Votes.length≤M20;simp only [M20];omega),ob_some]
 unfold winR
 show (bif mostB (hasB z.Votes) (mems z) then _ else _)=_
 cases mostB (hasB z.Votes) (mems z) with
 | false=>rfl
 | true=>rw [cond_true,cond_true,leadQ hN h,ob_some]
theorem upQ {N:Nat} (y:Node) (hl:y.Log.length≤100) (i t:Int):impl_Node_upToDate.m N y i t=some (upB y i t):=by
 unfold impl_Node_upToDate.m upB
 rw [termQ y _ (by omega) (Int.le_refl _) hl,ob_some]
 cases decide (t > tv y (y.Log.length:Int)) with
 | true=>rfl
 | false=>cases t==tv y (y.Log.length:Int)<;>rfl
theorem voteQ {N:Nat} (y:Node) (hl:y.Log.length≤100) (m:Message):impl_worker_vote.m N ⟨y,[]⟩ m=some ⟨(voteR y m).1,(voteR y m).2⟩:=by
 unfold impl_worker_vote.m voteR grB
 simp only [nodeEta,upQ y hl,implSend _ [] (Nat.zero_le _),ob_some,cond_true,cond_false]
 cases m.Term==y.Term with
 | false=>rfl
 | true=>
 cases y.Vote == -1 with
 | true=>cases upB y m.Index m.LogTerm<;>rfl
 | false=>
 cases y.Vote==m.From with
 | false=>rfl
 | true=>cases upB y m.Index m.LogTerm<;>rfl
theorem votedQ {N:Nat} (hN:Big N) {y:Node} (h:GT y) (m:Message):impl_worker_voted.m N ⟨y,[]⟩ m=some ⟨(votedR y m).1,(votedR y m).2⟩:=by
 have h7:y.Votes.length≤7:=(mem_of h.vt).len
 have hp:=pos_le m.From y.Votes
 have hi:=insV_len y.Votes m.From
 have hz:=h.g.withV (v:=insV y.Votes m.From) (by rw [hi];simp only [M20];omega)
 unfold impl_worker_voted.m votedR
 simp only [nodeEta,cond_false]
 cases y.Role != 1 with
 | true=>rfl
 | false=>
 cases m.Term != y.Term with
 | true=>rfl
 | false=>
 cases m.Ok with
 | false=>rfl
 | true=>
 simp only [Bool.not_true,cond_false]
 rw [searchI hN h.vt (by omega) m.From,ob_some]
 cases hasB y.Votes m.From with
 | true=>
  simp only [Bool.not_true,cond_false]
  rw [winQ hN h.g (by omega),ob_some]
 | false=>
  simp only [Bool.not_false,cond_true]
  have ins:slices_Insert_int.m N y.Votes (posV m.From y.Votes:Int) [m.From]=some (insV y.Votes m.From):=by
   unfold slices_Insert_int.m insM
   rw [nn_dec,decide_eq_true (show (posV m.From y.Votes:Int)≤(y.Votes.length:Int) by omega),show Nat.beq ([m.From]:List Int).length 1=true from rfl,roomB (by omega) (by omega),Int.toNat_natCast]
   unfold insV
   rw [List.append_assoc];rfl
  simp only [ins,ob_some]
  show ob (impl_worker_leadIf.m N ⟨withV y (insV y.Votes m.From),[]⟩) _=_
  rw [winQ hN hz (by show (insV y.Votes m.From).length≤100;omega),ob_some]
theorem storeQ {N:Nat} (hN:Big N) (z:Node) (sent:List Message) (m:Message) {k:Nat} (hk:m.Index=(k:Int)) (h60:m.Index≤60) (hz:z.Log.length≤60) (hkl:k≤z.Log.length) (he:m.Entries.length≤60):impl_worker_store.m N ⟨z,sent⟩ m=some ⟨withLC z (stoL z.Log k m.Entries) z.Commit,sent⟩:=by
 unfold impl_worker_store.m impl_worker_store.m0 impl_worker_store.lp2
 have hd:=sto_len (es:=m.Entries) hkl
 obtain ⟨_,hle,hs,hn⟩:=stoD_all z.Log k m.Entries m.Entries.length 0
 have el:stoL z.Log k m.Entries=if stoD z.Log k m.Entries m.Entries.length 0<m.Entries.length then z.Log.take (k+stoD z.Log k m.Entries m.Entries.length 0)++m.Entries.drop (stoD z.Log k m.Entries m.Entries.length 0) else z.Log:=rfl
 generalize stoD z.Log k m.Entries m.Entries.length 0=d at hd hle hs hn el
 have e1:∀i:Nat,i≤60→w64 ((w64 (m.Index+(i:Int)))+1)=((k+i+1:Nat):Int):=fun i hi=>by
  rw [w_small (x:=m.Index+(i:Int)) (by omega) (by omega),w_small (by omega) (by omega)];omega
 have e2:∀i:Nat,i≤60→w64 (((k+i+1:Nat):Int) - 1)=((k+i:Nat):Int):=fun i hi=>by rw [w_small (by omega) (by omega)];omega
 have tk:∀i:Nat,k+i<z.Log.length→impl_Node_termAt.m N z ((k+i+1:Nat):Int)=some (ex z.Log (k+i)).Term:=fun i hi=>by
  rw [termQ z _ (by omega) (by omega) (by omega)]
  unfold tv
  rw [show (((k+i+1:Nat):Int)==0)=false by rw [beq_eq_false_iff_ne];omega,cond_false,show (((k+i+1:Nat):Int) - 1).toNat=k+i by omega]
 have:=miter_up (step:=fun rec=>impl_worker_store.step2 N ⟨z,sent⟩ m rec) (n:=d) (st:=fun i=>((m.Entries.length:Int),(i:Int))) (r:=some ⟨withLC z (stoL z.Log k m.Entries) z.Commit,sent⟩) (fun i hi rec=>by
  obtain ⟨s1,s2⟩:=stay_len (hs i (Nat.zero_le _) hi)
  have hne:((ex z.Log (k+i)).Term != (ex m.Entries i).Term)=false:=by unfold bne;rw [s2];rfl
  simp only [impl_worker_store.step2,lt_dec (show i<m.Entries.length by omega),nn_dec,cond_true,Int.toNat_natCast,nodeEta,exe,e1 i (by omega),tk i s1,ob_some,hne,cond_false]
  rw [decide_eq_false (show ¬ ((k+i+1:Nat):Int) > (z.Log.length:Int) by omega),cond_false,w_up i _ hi (by omega)]) (fun rec=>by
  rw [el]
  by_cases hdl:d<m.Entries.length
  ·have r1:room (((k+d) - 0)+(m.Entries.drop d).length) 32=true:=roomB (by rw [List.length_drop];omega) (by omega)
   have r2:decide (((k+d:Nat):Int)≤((z.Log.length:Nat):Int))=true:=decide_eq_true (by omega)
   have r3:decide ((d:Int)≤((m.Entries.length:Nat):Int))=true:=decide_eq_true (by omega)
   rw [if_pos hdl]
   simp only [impl_worker_store.step2,lt_dec hdl,nn_dec,cond_true,Int.toNat_natCast,nodeEta,exe,e1 d (by omega),e2 d (by omega),r1,r2,r3]
   by_cases hin:k+d<z.Log.length
   ·have hst:=hn (by omega)
    unfold stay at hst
    rw [decide_eq_true hin,Bool.true_and] at hst
    have hne:((ex z.Log (k+d)).Term != (ex m.Entries d).Term)=true:=by unfold bne;rw [hst];rfl
    rw [decide_eq_false (show ¬ ((k+d+1:Nat):Int) > (z.Log.length:Int) by omega),cond_false,tk d hin,ob_some,cond_false,hne,cond_true]
    rfl
   ·rw [decide_eq_true (show ((k+d+1:Nat):Int) > (z.Log.length:Int) by omega),cond_true]
    rfl
  ·rw [if_neg hdl]
   simp only [impl_worker_store.step2,decide_eq_false (show ¬ (d:Int)<(m.Entries.length:Int) by omega),cond_false,nodeEta]
   rfl) d 0 N (by omega) (by omega)
 exact this
theorem entQ {N:Nat} (hN:Big N) {y:Node} (h:GN y) (m:Message) (h0:0≤m.Index) (h1:m.Index≤60) (he:m.Entries.length≤60):impl_worker_takeAppend.m N ⟨y,[]⟩ m=some ⟨(entR y m).1,(entR y m).2⟩:=by
 have hl:=h.ll
 have w1:w64 (m.Index - 1)=m.Index - 1:=w_small (by omega) (by omega)
 have w2:w64 (m.Index+(m.Entries.length:Int))=m.Index+(m.Entries.length:Int):=w_small (by omega) (by omega)
 have ef:Node.mk y.Id y.Term y.Vote y.Log y.Start 0 [] (List.replicate 7 1) (List.replicate 7 0) y.Commit 0 y.Wait y.Up=fresh y:=rfl
 unfold impl_worker_takeAppend.m entR
 simp only [nodeEta,w1,w2,hint_eq h0 h1,implSend _ [] (Nat.zero_le _),ob_some,followW hN,downN,ef,cond_false]
 cases decide (m.Term<y.Term) with
 | true=>rfl
 | false=>
 simp only [cond_false]
 by_cases hi:m.Index > (y.Log.length:Int)
 ·rw [decide_eq_true hi];rfl
 rw [decide_eq_false hi,Bool.false_or]
 simp only [cond_false]
 have et:impl_Node_termAt.m N (fresh y) m.Index=some (tv y m.Index):=termQ (fresh y) _ h0 (by show m.Index≤(y.Log.length:Int);omega) (by show y.Log.length≤100;omega)
 rw [et,ob_some]
 cases tv y m.Index != m.LogTerm with
 | true=>rfl
 | false=>
 simp only [cond_false]
 obtain ⟨k,hk⟩:∃k:Nat,m.Index=(k:Int):=⟨m.Index.toNat,by omega⟩
 have hkl:k≤y.Log.length:=by omega
 have etn:m.Index.toNat=k:=by omega
 rw [etn]
 rw [storeQ hN (fresh y) [] m hk h1 hl hkl he]
 simp only [ob_some]
 have:=implSend (N:=N) (withLC (fresh y) (stoL y.Log k m.Entries) (comN y.Commit (m.Index+m.Entries.length) m.Commit)) [] (Nat.zero_le _) (Message.mk 4 0 m.From 0 (m.Index+(m.Entries.length:Int)) 0 0 [] true)
 show ob (impl_worker_send.m N ⟨withLC (fresh y) (stoL y.Log k m.Entries) (comN y.Commit (m.Index+m.Entries.length) m.Commit),[]⟩ _) _=_
 rw [this,ob_some]
 rfl
theorem ansQ {N:Nat} (hN:Big N) {y:Node} (h:GT y) (m:Message) (f0:0≤m.From) (f6:m.From≤6) (h0:0≤m.Index) (h1:m.Index≤60):impl_worker_appended.m N ⟨y,[]⟩ m=some ⟨(ansR y m).1,(ansR y m).2⟩:=by
 have hl:=h.g.ll
 have hm:=h.mt m.From.toNat (by omega)
 have hn:=h.g.nx m.From.toNat (by omega)
 obtain ⟨b0,b1,ga⟩:=h.okAns f0 f6 h0
 have gb:=h.bkAns f0 f6 h0
 have dn:decide (m.From<(y.Next.length:Int))=true:=decide_eq_true (by rw [h.g.n7];omega)
 have dm:decide (m.From<(y.Match.length:Int))=true:=decide_eq_true (by rw [h.g.m7];omega)
 have dm2:∀v,decide (m.From<((y.Match.set m.From.toNat v).length:Int))=true:=fun v=>decide_eq_true (by rw [List.length_set,h.g.m7];omega)
 have gs:∀v,(y.Match.set m.From.toNat v).getD m.From.toNat 0=v:=fun v=>getD_set' (by rw [h.g.m7];omega) v 0
 have em:(if y.Match.getD m.From.toNat 0<(if (y.Log.length:Int)<m.Index then (y.Log.length:Int) else m.Index) then (if (y.Log.length:Int)<m.Index then (y.Log.length:Int) else m.Index) else y.Match.getD m.From.toNat 0)=mtV y m:=rfl
 have en:(if y.Next.getD m.From.toNat 0<mtV y m+1 then mtV y m+1 else y.Next.getD m.From.toNat 0)=nxV y m:=rfl
 have eb:(if y.Match.getD m.From.toNat 0+1<(if m.Index+1<y.Next.getD m.From.toNat 0 - 1 then m.Index+1 else y.Next.getD m.From.toNat 0 - 1) then (if m.Index+1<y.Next.getD m.From.toNat 0 - 1 then m.Index+1 else y.Next.getD m.From.toNat 0 - 1) else y.Match.getD m.From.toNat 0+1)=bkV y m:=rfl
 have w1:w64 (mtV y m+1)=mtV y m+1:=w_small (by omega) (by omega)
 have w2:w64 (m.Index+1)=m.Index+1:=w_small (by omega) (by omega)
 have w3:w64 (y.Next.getD m.From.toNat 0 - 1)=y.Next.getD m.From.toNat 0 - 1:=w_small (by rw [ixe];omega) (by rw [ixe];omega)
 have w4:w64 (y.Match.getD m.From.toNat 0+1)=y.Match.getD m.From.toNat 0+1:=w_small (by rw [ixe];omega) (by rw [ixe];omega)
 unfold impl_worker_appended.m ansR
 simp only [nodeEta,cond_false]
 cases y.Role != 2 with
 | true=>rfl
 | false=>
 cases m.Term != y.Term with
 | true=>rfl
 | false=>
 simp only [cond_false,decide_eq_true f0,dn,dm,cond_true]
 cases m.Ok with
 | true=>
  simp only [cond_true,cond_false,Bool.not_true]
  rw [em]
  simp only [dm2,gs,cond_true,w1]
  rw [en]
  have a2:=advQ hN (okAns y m) (mems y) [] (ga.mi' hN rfl rfl) h.g.M ga.m7 (by have:=ga.ll;omega) ga.c0 ga.c1
  show ob (impl_worker_commit.m N ⟨okAns y m,[]⟩) _=_
  rw [a2,ob_some];rfl
 | false=>
  simp only [cond_true,cond_false,Bool.not_false,w2,w3,w4]
  rw [eb]
  have tl:Tells (bkAns y m):=gb.tells
  show ob (impl_worker_tell_.m N ⟨bkAns y m,[]⟩ m.From (bkAns y m).Commit) _=_
  rw [tellQ hN _ tl [] (Nat.zero_le _) _ _ f0 f6,ob_some];rfl
theorem kindQ {N:Nat} (hN:Big N) {y:Node} (h:GT y) {m:Message} (hm:MsgOk m):(bif m.Kind==1 then ob (impl_worker_vote.m N ⟨y,[]⟩ m) (fun r=>some r) else bif m.Kind==2 then ob (impl_worker_voted.m N ⟨y,[]⟩ m) (fun r=>some r) else bif m.Kind==3 then ob (impl_worker_takeAppend.m N ⟨y,[]⟩ m) (fun r=>some r) else bif m.Kind==4 then ob (impl_worker_appended.m N ⟨y,[]⟩ m) (fun r=>some r) else some ⟨y,[]⟩)=some ⟨(kindR y m).1,(kindR y m).2⟩:=by
 have hl:=h.g.ll
 have he:=hm.ents
 have:=hm.i0
 rw [voteQ y (by omega) m,votedQ hN h m,entQ hN h.g m hm.i0 hm.i60 (by omega),ansQ hN h m hm.f0 hm.f6 hm.i0 hm.i60]
 unfold kindR
 rcases hm.kind with e | e | e | e<;>rw [e]<;>rfl
theorem takeQ {N:Nat} (hN:Big N) {x:Node} (h:GT x) {m:Message} (hm:MsgOk m):impl_worker_take.m N ⟨x,[]⟩ m=some ⟨(takeR x m).1,(takeR x m).2⟩:=by
 have hy:=h.atTerm m
 have ki:=kindQ hN hy hm
 have di:=followW hN ⟨bumpN x m.Term,[]⟩
 have eb:Node.mk x.Id m.Term (-1) x.Log x.Start x.Role x.Votes x.Next x.Match x.Commit x.Elapsed x.Wait x.Up=bumpN x m.Term:=rfl
 unfold takeR
 unfold impl_worker_take.m
 unfold atTerm at ki ⊢
 simp only [ob_some,nodeEta,workEta,eb]
 cases hq:decide (m.Term > x.Term) with
 | true=>
  rw [hq,cond_true] at ki
  simp only [cond_true]
  rw [di,ob_some]
  exact ki
 | false=>
  rw [hq,cond_false] at ki
  simp only [cond_false]
  exact ki
theorem standQ {N:Nat} (hN:Big N) {x:Node} (h:GN x) (t0:0≤x.Term) (t1:x.Term<1000000) {d:Int} (d0:0≤d) (d1:d≤1000000):impl_worker_stand.m N ⟨x,[]⟩ d=some ⟨(electR x d).1,(electR x d).2⟩:=by
 have he:=h.elect d
 have hm:mems (electN x d)=mems x:=rfl
 have hM:=h.M
 have hl:=hM.len
 have hll:=h.ll
 have w1:w64 (x.Term+1)=x.Term+1:=w_small (by omega) (by omega)
 have m0:=Int.tmod_nonneg 8 d0
 have m1:=Int.tmod_lt_of_pos d (show (0:Int)<8 by omega)
 have w2:w64 (5+Int.tmod d 8)=5+Int.tmod d 8:=w_small (by omega) (by omega)
 obtain ⟨c,e1,e5⟩:∃c,c=advC (leadN (electN x d)) (mems x) (leadL (electN x d)).length∧impl_worker_lead_.m N ⟨electN x d,[]⟩=some ⟨withC (leadN (electN x d)) c,told (leadN (electN x d)) (mems x)⟩:=⟨_,rfl,leadQ hN he⟩
 have most2:impl_worker_isMost__impl_worker_leadIf_1_.m N ⟨electN x d,[]⟩ ⟨electN x d,[]⟩=some (mostB (hasB [x.Id]) (mems x)):=isMostV hN ⟨electN x d,[]⟩ (mems x) (by have:=he.mi hN;rwa [hm] at this) hM (by show [x.Id].length≤_;simp [M20])
 have ty:impl_Node_termAt.m N (electN x d) (x.Log.length:Int)=some (tv (electN x d) (x.Log.length:Int)):=termQ (electN x d) _ (by omega) (Int.le_refl _) (by show x.Log.length≤100;omega)
 unfold impl_worker_stand.m impl_worker_stand.m0
 simp only []
 rw [w1,w2,show (!decide ((8:Int)=0))=true from rfl,cond_true]
 have li:impl_worker_leadIf.m N ⟨electN x d,[]⟩=some (bif mostB (hasB [x.Id]) (mems x) then (true,⟨withC (leadN (electN x d)) c,told (leadN (electN x d)) (mems x)⟩) else (false,⟨electN x d,[]⟩)):=by
  unfold impl_worker_leadIf.m
  simp only [nodeEta]
  rw [most2,ob_some]
  cases mostB (hasB [x.Id]) (mems x) with
  | true=>rw [cond_true,cond_true,e5,ob_some]
  | false=>rfl
 show ob (impl_worker_leadIf.m N ⟨electN x d,[]⟩) _=_
 rw [li,ob_some]
 unfold electR
 cases mostB (hasB [x.Id]) (mems x) with
 | true=>simp only [cond_true,nodeEta];rw [e1]
 | false=>
  simp only [cond_false,nodeEta]
  rw [othersI hN (electN x d) (mems x) [] (by have:=he.mi hN;rwa [hm] at this) hM,ob_some]
  generalize hO':(mems x).filter (notId (electN x d))=O
  have hOl:O.length≤7:=by rw [← hO'];have:=List.length_filter_le (notId (electN x d)) (mems x);omega
  unfold impl_worker_stand.lp4
  have:=miter_up (step:=fun rec=>impl_worker_stand.step4 N ⟨x,[]⟩ d rec) (n:=O.length) (st:=fun i=>((O.length:Int),(i:Int),x.Id,x.Term+1,x.Id,(1:Int),x.Commit,(0:Int),5+Int.tmod d 8,x.Up,x.Log,x.Start,[x.Id],x.Next,x.Match,(O.take i).map (voteM (electN x d)),O)) (r:=some ⟨electN x d,O.map (voteM (electN x d))⟩) (fun i hi rec=>by
   have hle:((O.take i).map (voteM (electN x d))).length≤100:=by rw [List.length_map,List.length_take];omega
   have htk:O.take (i+1)=O.take i++[ix O i]:=by rw [List.take_add_one,List.getElem?_eq_getElem hi,ix,getD_at hi];rfl
   have ty':impl_Node_termAt.m N (Node.mk x.Id (x.Term+1) x.Id x.Log x.Start 1 [x.Id] x.Next x.Match x.Commit 0 (5+Int.tmod d 8) x.Up) (x.Log.length:Int)=some (tv (electN x d) (x.Log.length:Int)):=ty
   simp only [impl_worker_stand.step4,lt_dec hi,nn_dec,cond_true,Int.toNat_natCast,ixe,ty',ob_some]
   unfold impl_worker_send.m
   simp only [nodeEta]
   rw [roomB (by rw [List.length_singleton];omega) (by omega),cond_true,ob_some,w_up i _ hi (by omega),htk,List.map_append]
   rfl) (fun rec=>by
   simp only [impl_worker_stand.step4,ge_dec,cond_false,List.take_length]
   rfl) O.length 0 N (by omega) (by omega)
  exact this
theorem tickQ {N:Nat} (hN:Big N) {x:Node} (h:GN x) (hk:okB x=true) {d:Int} (d0:0≤d) (d1:d≤1000000):impl_worker_tick.m N ⟨x,[]⟩ d=some ⟨(tickR x d).1,(tickR x d).2⟩:=by
 obtain ⟨t0,t1,q0,q1⟩:=okEl hk
 have w1:w64 (x.Elapsed+1)=x.Elapsed+1:=w_small (by omega) (by omega)
 have ete:(if x.Elapsed+1<(1000:Int) then x.Elapsed+1 else (1000:Int))=te x:=rfl
 have hM:=h.M
 have hl:=hM.len
 have h0:=h.withE 0
 have h1:=h.withE (te x)
 have hmi0:impl_Node_members.m N (withE x 0)=some (mems x):=h0.mi hN
 have hmi1:impl_Node_members.m N (withE x (te x))=some (mems x):=h1.mi hN
 have ti:=tellAllQ hN (withE x 0) (mems x) x.Commit hmi0 hM h0.tells
 have ew:withC (withE x 0) x.Commit=withE x 0:=rfl
 rw [ew] at ti
 have hc:=contains hN (mems x) x.Id (by simp only [M20];omega)
 unfold impl_worker_tick.m tickR
 simp only []
 rw [w1,ete]
 have hne2:(x.Role != 2) = !(x.Role==2):=rfl
 rw [hne2]
 cases hr:x.Role==2 with
 | true=>
  rw [cond_true,cond_true,cond_true]
  by_cases h2:te x<2
  ·rw [decide_eq_false (show ¬ te x≥2 by omega),decide_eq_true h2];rfl
  ·rw [decide_eq_true (show te x≥2 by omega),decide_eq_false h2,cond_true,cond_false]
   show ob (impl_worker_tellAll.m N ⟨withE x 0,[]⟩ x.Commit) _=_
   rw [ti];rfl
 | false=>
  rw [cond_false,Bool.not_false,cond_true,cond_false,cond_true]
  by_cases h2:te x<x.Wait
  ·rw [decide_eq_false (show ¬ te x≥x.Wait by omega),decide_eq_true h2];rfl
  ·rw [decide_eq_true (show te x≥x.Wait by omega),decide_eq_false h2,cond_true,cond_false,cond_true]
   by_cases ht:x.Term<1000000
   ·rw [decide_eq_true ht,cond_true]
    show ob (impl_Node_members.m N (withE x (te x))) _=_
    rw [hmi1,ob_some,hc,ob_some,cond_true]
    cases hasB (mems x) x.Id with
    | false=>rfl
    | true=>
     rw [cond_true,Bool.not_true,cond_false,show (x.Term==1000000)=false by rw [beq_eq_false_iff_ne];omega,cond_false]
     show ob (impl_worker_stand.m N ⟨withE x (te x),[]⟩ d) _=_
     rw [standQ hN h1 t0 ht d0 d1];rfl
   ·rw [decide_eq_false ht,cond_false,show (x.Term==1000000)=true by rw [beq_iff_eq];omega]
    cases hasB (mems x) x.Id<;>rfl
theorem nodeTakeQ {N:Nat} (hN:Big N) (x:Node) (m:Message) (hs:NodeSz x M20) (hd:NodeData x) (hm:MsgSz m):impl_NodeTake.m N x m=some (nkR x m):=by
 unfold impl_NodeTake.m nkR
 simp only [nodeEta]
 rw [implOK hN x hs hd,implMsg hN m hm]
 simp only [ob_some,cond_false]
 cases hk:okB x with
 | false=>rfl
 | true=>
 cases hb:msgB m with
 | false=>rfl
 | true=>
 cases m.To != x.Id with
 | true=>rfl
 | false=>
 rw [copyN x hs]
 cases x.Up with
 | false=>rfl
 | true=>
 have h:=GT.of hs hd hk
 have ho:=MsgOk.of hb
 have t2:=takeQ hN h ho
 obtain ⟨o1,o2,o3,o4⟩:=take_small h ho hm
 simp only [Bool.not_true,cond_false,cond_true,ob_some,t2,nodeEta]
 rw [implOK hN _ o1 o2,ob_some]
 unfold impl_worker_asNode.m
 simp only [nodeEta,copyN _ o1,ob_some]
 cases okB (takeR x m).1<;>rfl
theorem nodeTickQ {N:Nat} (hN:Big N) (x:Node) (d:Int) (hs:NodeSz x M20) (hd:NodeData x):impl_NodeTick.m N x d=some (ntR x d):=by
 unfold impl_NodeTick.m ntR
 simp only [nodeEta]
 rw [implOK hN x hs hd,within]
 simp only [ob_some]
 cases hk:okB x with
 | false=>rfl
 | true=>
 cases hi:inB d 0 1000000 with
 | false=>rfl
 | true=>
 cases hu:x.Up with
 | false=>
  rw [copyN x hs]
  rfl
 | true=>
 have h:=GN.of hs hd hk
 unfold inB at hi
 simp only [Bool.and_eq_true,decide_eq_true_eq] at hi
 have t2:=tickQ hN h hk hi.1 hi.2
 obtain ⟨o1,o2,o3⟩:=tickR_ok h d
 rw [copyN x hs]
 simp only [ob_some,Bool.not_true,cond_false,nodeEta]
 rw [t2,ob_some]
 unfold impl_worker_asNode.m
 simp only [nodeEta]
 rw [copyN _ o1];rfl
theorem GN.prop {x:Node} (h:GN x) (hl:x.Log.length<60) {k:Int} {d:ByteArray} (hd:d.size≤M20) (hm:(k==2)=true→memB d=true):GN (propN x k d):=by
 have hlen:(propN x k d).Log.length=x.Log.length+1:=by show (x.Log++[_]).length=_;simp
 refine ⟨⟨by rw [hlen];simp only [M20];omega,h.sz.Start,h.sz.Votes,h.sz.Next,h.sz.Match⟩,fun e he=>?_,fun j hj hk=>?_,h.st,h.c0,?_,h.n7,h.m7,fun j hj=>?_,by omega⟩
 ·have he:e∈x.Log++[_]:=he
  rcases List.mem_append.1 he with he | he
  ·exact h.da e he
  ·rw [List.mem_singleton.1 he];exact hd
 ·have hj:j<x.Log.length+1:=by rw [← hlen];exact hj
  have hk:((ex (x.Log++[_]) j).Kind==2)=true:=hk
  show memB (ex (x.Log++[_]) j).Data=true
  by_cases hjl:j<x.Log.length
  ·rw [ex_app hjl] at hk ⊢;exact h.mm j hjl hk
  ·have e:j=x.Log.length:=by omega
   subst e
   rw [ex_last] at hk ⊢;exact hm hk
 ·show x.Commit≤((propN x k d).Log.length:Int)
  have:=h.c1;rw [hlen];omega
 ·have:=h.nx j hj
  show 1≤ix x.Next j∧ix x.Next j≤((propN x k d).Log.length:Int)+1
  rw [hlen];omega
theorem proposeQ {N:Nat} (hN:Big N) {x:Node} (h:GN x) (k:Int) (d:ByteArray) (hg:x.Log.length<60→GN (propN x k d)):impl_propose.m N x k d=some (bif !x.Up then (x,[],5) else bif x.Role != 2 then (x,[],14) else bif (x.Log.length:Int)==60 then (x,[],7) else ((propR x k d).1,(propR x k d).2,0)):=by
 unfold impl_propose.m
 rw [copyN x h.sz]
 simp only [ob_some]
 cases !x.Up with
 | true=>rfl
 | false=>
 cases x.Role != 2 with
 | true=>rfl
 | false=>
 cases hl:(x.Log.length:Int)==60 with
 | true=>rfl
 | false=>
 simp only [cond_false]
 rw [beq_eq_false_iff_ne] at hl
 have hll:=h.ll
 have g:=hg (by omega)
 have hM:=g.M
 rw [roomB (by rw [List.length_singleton];omega) (by omega),cond_true]
 have a:=advQ hN (propN x k d) (mems (propN x k d)) [] (g.mi hN) hM g.m7 (by have:=g.ll;omega) g.c0 g.c1
 have t:=tellAllQ hN (propR x k d).1 (mems (propN x k d)) (propR x k d).1.Commit (g.mi' hN rfl rfl) hM ⟨g.n7,g.nx,g.tells.ll⟩
 show ob (impl_worker_commit.m N ⟨propN x k d,[]⟩) _=_
 rw [a,ob_some]
 show ob (impl_worker_tellAll.m N ⟨(propR x k d).1,[]⟩ (propR x k d).1.Commit) _=_
 rw [t,ob_some]
 unfold impl_worker_asNode.m
 simp only [nodeEta]
 rw [copyN (propR x k d).1 ⟨g.sz.Log,g.sz.Start,g.sz.Votes,g.sz.Next,g.sz.Match⟩]
 rfl
end Mir.Y
