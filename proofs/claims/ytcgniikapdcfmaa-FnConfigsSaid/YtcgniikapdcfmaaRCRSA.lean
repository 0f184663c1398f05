/- The reference's half: what is committed, to lead, to stand, to tick, votes. -/
import Derived.Test.YtcgniikapdcfmaaRCRFB
import Derived.Laws.Strings
namespace Mir.Y
set_option linter.unusedVariables false
set_option linter.unusedSimpArgs false
open Go
theorem advC_lim (x:Node) (M:List Int) {L:Int} (h0:0≤x.Commit) (h1:x.Commit≤L):∀k:Nat,(k:Int)≤L→0≤advC x M k∧advC x M k≤L:=by
 intro k
 induction k with
 | zero=>intro _;exact ⟨h0,h1⟩
 | succ k ih=>
  intro hk
  rw [advC]
  cases decide (((k+1:Nat):Int) > x.Commit) with
  | false=>exact ⟨h0,h1⟩
  | true=>
  cases (ex x.Log k).Term==x.Term with
  | false=>exact ⟨h0,h1⟩
  | true=>
  cases mostB (hasIt x ((k+1:Nat):Int)) M with
  | false=>exact ih (by omega)
  | true=>exact ⟨by show (0:Int)≤((k+1:Nat):Int);omega,hk⟩
theorem advZ {N:Nat} (hN:Big N) (x:Node) (M:List Int) (hms:spec_l10Members_.m N x=some M) (hM:Mem M) (h7:x.Match.length=7) (hl:x.Log.length≤100) (hc0:0≤x.Commit) (hc1:x.Commit≤x.Log.length):spec_l10Advance.m N x=some (withC x (advC x M x.Log.length)):=by
 unfold spec_l10Advance.m spec_l10Advance.m0
 rw [hms,ob_some]
 unfold spec_l10Advance.lp3
 have main:∀(k K:Nat),k<K→k≤x.Log.length→miter (fun rec=>spec_l10Advance.step3 N x (spec_l10Advance.lp7 N x rec) rec) K (M,(k:Int),x.Id,x.Term,x.Vote,x.Log,x.Start,x.Role,x.Votes,x.Next,x.Match,x.Commit,x.Elapsed,x.Wait,x.Up,(0:Int),(0:Int),(0:Int),(0:Int),(0:Int),(0:Int),(0:Int))=some (withC x (advC x M k)):=by
  intro k
  induction k with
  | zero=>
   intro K hK _
   obtain ⟨K,rfl⟩:∃j,K=j+1:=⟨K - 1,by omega⟩
   have un:∀ {α R:Type} (g:(α→Option R)→α→Option R) (s:α),miter g (K+1) s=g (miter g K) s:=fun _ _=>rfl
   rw [un]
   generalize hr1:miter (fun rec=>spec_l10Advance.step3 N x (spec_l10Advance.lp7 N x rec) rec) K=rec1
   simp only [spec_l10Advance.step3]
   rw [decide_eq_false (show ¬ ((0:Nat):Int) > x.Commit by omega)]
   rfl
  | succ k ih=>
   intro K hK hk
   obtain ⟨K,rfl⟩:∃j,K=j+1:=⟨K - 1,by omega⟩
   have e1:w64 (((k+1:Nat):Int) - 1)=(k:Int):=by rw [w_small (by omega) (by omega)];omega
   have un:∀ {α R:Type} (g:(α→Option R)→α→Option R) (s:α),miter g (K+1) s=g (miter g K) s:=fun _ _=>rfl
   rw [un]
   generalize hr1:miter (fun rec=>spec_l10Advance.step3 N x (spec_l10Advance.lp7 N x rec) rec) K=rec1
   simp only [spec_l10Advance.step3,e1]
   by_cases hc:((k+1:Nat):Int) > x.Commit
   ·have kd:decide ((k:Int)<(x.Log.length:Int))=true:=lt_dec (by omega)
    rw [decide_eq_true hc,nn_dec,kd]
    simp only [cond_true,ob_some,Int.toNat_natCast,exe]
    cases ht:(ex x.Log k).Term==x.Term with
    | false=>
     have ac:advC x M (k+1)=x.Commit:=by rw [advC,decide_eq_true hc,ht];rfl
     rw [ac];rfl
    | true=>
     simp only [cond_true]
     have inner:∀r3,spec_l10Advance.lp7 N x r3 (M,((k+1:Nat):Int),(0:Int),x.Id,x.Term,x.Vote,x.Log,x.Start,x.Role,x.Votes,x.Next,x.Match,x.Commit,x.Elapsed,x.Wait,x.Up,(0:Int),(0:Int),(0:Int),(0:Int),(0:Int),(0:Int),(0:Int),[x.Id])=bif mostB (hasIt x ((k+1:Nat):Int)) M then some (withC x ((k+1:Nat):Int)) else r3 (M,(k:Int),x.Id,x.Term,x.Vote,x.Log,x.Start,x.Role,x.Votes,x.Next,x.Match,x.Commit,x.Elapsed,x.Wait,x.Up,(0:Int),(0:Int),(0:Int),(0:Int),(0:Int),(0:Int),(0:Int)):=by
      intro r3
      unfold spec_l10Advance.lp7
      exact miter_up (step:=fun rec=>spec_l10Advance.step7 N x r3 rec) (n:=7) (st:=fun j=>(M,((k+1:Nat):Int),(j:Int),x.Id,x.Term,x.Vote,x.Log,x.Start,x.Role,x.Votes,x.Next,x.Match,x.Commit,x.Elapsed,x.Wait,x.Up,(0:Int),(0:Int),(0:Int),(0:Int),(0:Int),(0:Int),(0:Int),idl x ((k+1:Nat):Int) j)) (fun j hj rec=>by
       have hlj:=idl_len x ((k+1:Nat):Int) j
       simp only [spec_l10Advance.step7,decide_eq_true (show (j:Int)<7 by omega),nn_dec,decide_eq_true (show (j:Int)<(x.Match.length:Int) by omega),cond_true,Int.toNat_natCast,ixe]
       rw [w_up j 7 hj (by omega),roomB (by rw [List.length_singleton];omega) (by omega),cond_true,idl_succ]
       by_cases hq:ix x.Match j≥((k+1:Nat):Int)
       ·simp only [hq,decide_true,cond_true,Bool.true_and];cases ((j:Int) != x.Id)<;>rfl
       ·simp only [hq,decide_false,cond_false,Bool.false_and]) (fun rec=>by
       have hlj:=idl_len x ((k+1:Nat):Int) 7
       simp only [spec_l10Advance.step7]
       rw [decide_eq_false (show ¬ ((7:Nat):Int)<7 by omega),cond_false,l10Most hN _ _ (by omega) (by have:=hM.len;omega),ob_some,e1,mostB_congr (q:=hasIt x ((k+1:Nat):Int)) fun m hm=>has_idl x _ (hM.lo m hm).1 (hM.lo m hm).2]
       rfl) 7 0 N (by omega) (by omega)
     have ac:advC x M (k+1)=bif mostB (hasIt x ((k+1:Nat):Int)) M then ((k+1:Nat):Int) else advC x M k:=by rw [advC,decide_eq_true hc,ht];rfl
     rw [inner,ac]
     cases mostB (hasIt x ((k+1:Nat):Int)) M with
     | true=>rfl
     | false=>
      have i1:=ih K (by omega) (by omega)
      rw [hr1] at i1
      exact i1
   ·have ac:advC x M (k+1)=x.Commit:=by rw [advC,decide_eq_false hc];rfl
    rw [decide_eq_false hc,ac];rfl
 exact main x.Log.length N (by omega) (Nat.le_refl _)
theorem leadZ {N:Nat} (hN:Big N) {x:Node} (h:GN x):spec_l10Lead.m N x=some (withC (leadN x) (advC (leadN x) (mems x) (leadL x).length),told (leadN x) (mems x)):=by
 have hl:=h.lead
 have hll:=h.ll
 have hms:=hl.ms hN
 rw [mems_lead] at hms
 have hM:=h.M
 have a1:spec_l10Advance.m N (leadN x)=some (withC (leadN x) (advC (leadN x) (mems x) (leadL x).length)):=advZ hN (leadN x) (mems x) hms hM hl.m7 (by have:=hl.ll;omega) hl.c0 hl.c1
 have t1:=specTell hN (leadN x) (mems x) hms hM hl.tells
 have w1:w64 ((x.Log.length:Int)+1)=(x.Log.length:Int)+1:=w_small (by omega) (by omega)
 unfold spec_l10Lead.m spec_l10Lead.m0 spec_l10Lead.lp4
 have:=miter_up (step:=fun rec=>spec_l10Lead.step4 N x rec) (n:=7) (st:=fun j=>((j:Int),(2:Int),(0:Int),List.replicate j ((x.Log.length:Int)+1)++x.Next.drop j,List.replicate j (0:Int)++x.Match.drop j,(0:Int),(0:Int),(0:Int),(0:Int),(0:Int),(0:Int),(0:Int))) (r:=some (withC (leadN x) (advC (leadN x) (mems x) (leadL x).length),told (leadN x) (mems x))) (fun j hj rec=>by
  have l1:=fill7 (v:=(x.Log.length:Int)+1) h.n7 j (by omega)
  have l2:=fill7 (v:=0) h.m7 j (by omega)
  simp only [spec_l10Lead.step4,decide_eq_true (show (j:Int)<7 by omega),nn_dec,l1,l2,decide_eq_true (show (j:Int)<((7:Nat):Int) by omega),cond_true,Int.toNat_natCast,w1]
  rw [w_up j 7 hj (by omega),set7 h.n7 hj,set7 h.m7 hj]) (fun rec=>by
  have d1:x.Next.drop 7=[]:=List.drop_of_length_le (by rw [h.n7];omega)
  have d2:x.Match.drop 7=[]:=List.drop_of_length_le (by rw [h.m7];omega)
  simp only [spec_l10Lead.step4,d1,d2,List.append_nil]
  rw [decide_eq_false (show ¬ ((7:Nat):Int)<7 by omega),cond_false]
  by_cases h6:x.Log.length<60
  ·rw [decide_eq_true (show (x.Log.length:Int)<60 by omega),cond_true,roomB (by rw [List.length_singleton];omega) (by omega),cond_true]
   have e:Node.mk x.Id x.Term x.Vote (x.Log++[Entry.mk x.Term 0 ByteArray.empty]) x.Start 2 x.Votes (List.replicate 7 ((x.Log.length:Int)+1)) (List.replicate 7 0) x.Commit 0 x.Wait x.Up=leadN x:=by unfold leadN leadL;rw [if_pos h6]
   rw [e,a1,ob_some,t1];rfl
  ·rw [decide_eq_false (show ¬ (x.Log.length:Int)<60 by omega),cond_false]
   have e:Node.mk x.Id x.Term x.Vote x.Log x.Start 2 x.Votes (List.replicate 7 ((x.Log.length:Int)+1)) (List.replicate 7 0) x.Commit 0 x.Wait x.Up=leadN x:=by unfold leadN leadL;rw [if_neg h6]
   rw [e,a1,ob_some,t1];rfl) 7 0 N (by omega) (by omega)
 exact this
theorem electZ {N:Nat} (hN:Big N) {x:Node} (h:GN x) (t0:0≤x.Term) (t1:x.Term<1000000) {d:Int} (d0:0≤d) (d1:d≤1000000):spec_l10Elect.m N x d=some (electR x d):=by
 have he:=h.elect d
 have hm:mems (electN x d)=mems x:=rfl
 have hms:=he.ms hN
 rw [hm] at hms
 have hM:=h.M
 have hl:=hM.len
 have hll:=h.ll
 have w1:w64 (x.Term+1)=x.Term+1:=w_small (by omega) (by omega)
 have m0:=Int.tmod_nonneg 8 d0
 have m1:=Int.tmod_lt_of_pos d (show (0:Int)<8 by omega)
 have w2:w64 (5+Int.tmod d 8)=5+Int.tmod d 8:=w_small (by omega) (by omega)
 have e4:=leadZ hN he
 rw [hm] at e4
 have most:=l10Most hN [x.Id] (mems x) (by simp) (by omega)
 have ty:spec_l10Term.m N (electN x d) (x.Log.length:Int)=some (tv (electN x d) (x.Log.length:Int)):=termV (electN x d) _ (by omega) (Int.le_refl _) (by show x.Log.length≤100;omega)
 unfold spec_l10Elect.m spec_l10Elect.m0
 rw [w1,w2,show (!decide ((8:Int)=0))=true from rfl,cond_true]
 show ob (spec_l10Members.m N (electN x d)) _=_
 rw [mem_ hN hms,ob_some]
 show ob (spec_l10Most.m N [x.Id] (mems x)) _=_
 rw [most,ob_some]
 unfold electR
 cases mostB (hasB [x.Id]) (mems x) with
 | true=>
  simp only [cond_true]
  show ob (spec_l10Lead.m N (electN x d)) _=_
  rw [e4,ob_some]
 | false=>
  simp only [cond_false]
  unfold spec_l10Elect.lp12
  have:=miter_up (step:=fun rec=>spec_l10Elect.step12 N x d rec) (n:=(mems x).length) (st:=fun i=>(mems x,(i:Int),x.Term+1,(1:Int),(0:Int),5+Int.tmod d 8,x.Log,[x.Id],x.Next,x.Match,(0:Int),(0:Int),(0:Int),(0:Int),(0:Int),(0:Int),(0:Int),(((mems x).take i).filter (notId (electN x d))).map (voteM (electN x d)))) (r:=some (electN x d,((mems x).filter (notId (electN x d))).map (voteM (electN x d)))) (fun i hi rec=>by
   have hle:((((mems x).take i).filter (notId (electN x d))).map (voteM (electN x d))).length≤100:=by
    have:=List.length_filter_le (notId (electN x d)) ((mems x).take i)
    rw [List.length_take] at this
    rw [List.length_map];omega
   have htk:(mems x).take (i+1)=(mems x).take i++[ix (mems x) i]:=by rw [List.take_add_one,List.getElem?_eq_getElem hi,ix,getD_at hi];rfl
   have hb:(ix (mems x) i != x.Id)=notId (electN x d) (ix (mems x) i):=rfl
   have ty':spec_l10Term.m N (Node.mk x.Id (x.Term+1) x.Id x.Log x.Start 1 [x.Id] x.Next x.Match x.Commit 0 (5+Int.tmod d 8) x.Up) (x.Log.length:Int)=some (tv (electN x d) (x.Log.length:Int)):=ty
   simp only [spec_l10Elect.step12,lt_dec hi,nn_dec,cond_true,Int.toNat_natCast,ixe,ty',ob_some]
   rw [w_up i _ hi (by omega),roomB (by rw [List.length_singleton];omega) (by omega),cond_true,htk,List.filter_append,List.map_append,hb]
   cases hq:notId (electN x d) (ix (mems x) i)
   ·simp [List.filter,hq]
   ·simp only [List.filter,hq,cond_true,List.map_cons,List.map_nil];rfl) (fun rec=>by
   simp only [spec_l10Elect.step12,ge_dec,cond_false,List.take_length]
   rfl) (mems x).length 0 N (by omega) (by omega)
  exact this
theorem tickZ {N:Nat} (hN:Big N) {x:Node} (h:GN x) (t0:0≤x.Term) (t1:x.Term≤1000000) (q0:0≤x.Elapsed) (q1:x.Elapsed≤1000) {d:Int} (d0:0≤d) (d1:d≤1000000):spec_l10Tick.m N x d=some (tickR x d):=by
 have w1:w64 (x.Elapsed+1)=x.Elapsed+1:=w_small (by omega) (by omega)
 have ete:(if x.Elapsed+1<(1000:Int) then x.Elapsed+1 else (1000:Int))=te x:=rfl
 have hM:=h.M
 have hl:=hM.len
 have h0:=h.withE 0
 have h1:=h.withE (te x)
 have hms0:spec_l10Members_.m N (withE x 0)=some (mems x):=h0.ms hN
 have hms1:spec_l10Members_.m N (withE x (te x))=some (mems x):=h1.ms hN
 have ts:=specTell hN (withE x 0) (mems x) hms0 hM h0.tells
 have hh:=l10Has hN (mems x) x.Id (by simp only [M20];omega)
 unfold spec_l10Tick.m tickR
 rw [ownS x h.sz,ob_some,w1,ete]
 cases x.Role==2 with
 | true=>
  rw [cond_true,cond_true]
  cases decide (te x<2) with
  | true=>rfl
  | false=>
   rw [cond_false,cond_false]
   show ob (spec_l10Tell.m N (withE x 0)) _=_
   rw [ts];rfl
 | false=>
  rw [cond_false,cond_false]
  cases decide (te x<x.Wait) with
  | true=>rfl
  | false=>
   rw [cond_false,cond_false]
   show ob (spec_l10Members.m N (withE x (te x))) _=_
   rw [mem_ hN hms1,ob_some,hh,ob_some,cond_false]
   cases hasB (mems x) x.Id with
   | false=>rfl
   | true=>
    rw [Bool.not_true,cond_false,cond_false,cond_false]
    cases ht:x.Term==1000000 with
    | true=>rfl
    | false=>
     rw [cond_false,cond_false]
     have hne:x.Term≠1000000:=by rwa [beq_eq_false_iff_ne] at ht
     show ob (spec_l10Elect.m N (withE x (te x)) d) _=_
     rw [electZ hN h1 t0 (by show x.Term<1000000;omega) d0 d1];rfl
theorem voteZ {N:Nat} (y:Node) (hl:y.Log.length≤100) (m:Message):spec_l10Vote.m N y m=some (voteR y m):=by
 unfold spec_l10Vote.m voteR grB
 simp only [nodeEta,upS y hl,ob_some,cond_true,cond_false]
 cases m.Term==y.Term with
 | false=>rfl
 | true=>
 cases y.Vote == -1 with
 | true=>cases upB y m.Index m.LogTerm<;>rfl
 | false=>
 cases y.Vote==m.From with
 | false=>rfl
 | true=>cases upB y m.Index m.LogTerm<;>rfl
theorem winZ {N:Nat} (hN:Big N) {z:Node} (h:GN z) (hv:z.Votes.length≤100):ob (spec_l10Members.m N z) (fun y=>ob (spec_l10Most.m N y.2.Votes y.1) fun y7=>bif y7 then ob (spec_l10Lead.m N (Node.mk z.Id z.Term z.Vote y.2.Log z.Start z.Role y.2.Votes y.2.Next y.2.Match z.Commit z.Elapsed z.Wait z.Up)) (fun y8=>some (y8.1,y8.2)) else some ((Node.mk z.Id z.Term z.Vote y.2.Log z.Start z.Role y.2.Votes y.2.Next y.2.Match z.Commit z.Elapsed z.Wait z.Up),([]:List Message)))=some (winR z):=by
 have hM:=h.M
 have hl:=hM.len
 rw [mem_ hN (h.ms hN),ob_some]
 show ob (spec_l10Most.m N z.Votes (mems z)) _=_
 rw [l10Most hN z.Votes (mems z) hv (by omega),ob_some]
 unfold winR
 cases mostB (hasB z.Votes) (mems z) with
 | false=>rfl
 | true=>
  rw [cond_true,cond_true]
  show ob (spec_l10Lead.m N z) _=_
  rw [leadZ hN h,ob_some]
theorem votedZ {N:Nat} (hN:Big N) {y:Node} (h:GT y) (m:Message):spec_l10Voted.m N y m=some (votedR y m):=by
 have h7:y.Votes.length≤7:=(mem_of h.vt).len
 have hp:=pos_le m.From y.Votes
 have hi:=insV_len y.Votes m.From
 have hz:=h.g.withV (v:=insV y.Votes m.From) (by rw [hi];simp only [M20];omega)
 unfold spec_l10Voted.m spec_l10Voted.m0 votedR
 simp only [nodeEta,cond_false]
 cases y.Role != 1 with
 | true=>rfl
 | false=>
 cases m.Term != y.Term with
 | true=>rfl
 | false=>
 cases m.Ok with
 | false=>rfl
 | true=>
 simp only [Bool.not_true,cond_false]
 rw [l10Has hN y.Votes m.From (by simp only [M20];omega),ob_some]
 cases hasB y.Votes m.From with
 | true=>exact winZ hN h.g (by omega)
 | false=>
  simp only [Bool.not_false,cond_true]
  unfold spec_l10Voted.lp5
  have ed:(y.Votes.drop 0).take (posV m.From y.Votes - 0)=y.Votes.take (posV m.From y.Votes):=rfl
  have et:(y.Votes.drop (posV m.From y.Votes)).take (y.Votes.length - posV m.From y.Votes)=y.Votes.drop (posV m.From y.Votes):=List.take_of_length_le (by rw [List.length_drop];omega)
  have ei:([]++y.Votes.take (posV m.From y.Votes))++[m.From]++y.Votes.drop (posV m.From y.Votes)=insV y.Votes m.From:=rfl
  have win:=winZ hN hz (by show (insV y.Votes m.From).length≤100;omega)
  have l1:(y.Votes.take (posV m.From y.Votes)).length≤7:=by rw [List.length_take];omega
  have l2:(y.Votes.drop (posV m.From y.Votes)).length≤7:=by rw [List.length_drop];omega
  have r1:room (([]:List Int).length+(y.Votes.take (posV m.From y.Votes)).length) 8=true:=roomB (by simp only [List.length_nil];omega) (by omega)
  have r2:room ((([]:List Int)++y.Votes.take (posV m.From y.Votes)).length+([m.From]).length) 8=true:=roomB (by simp only [List.nil_append,List.length_singleton];omega) (by omega)
  have r3:room (((([]:List Int)++y.Votes.take (posV m.From y.Votes))++[m.From]).length+(y.Votes.drop (posV m.From y.Votes)).length) 8=true:=roomB (by simp only [List.nil_append,List.length_append,List.length_singleton];omega) (by omega)
  have:=miter_up (step:=fun rec=>spec_l10Voted.step5 N y m rec) (n:=posV m.From y.Votes) (st:=fun i=>((i:Int),(0:Int),(0:Int),(0:Int),(0:Int),(0:Int),(0:Int),(0:Int))) (r:=some (winR (withV y (insV y.Votes m.From)))) (fun i hi' rec=>by
   have hlt:=pos_lt m.From y.Votes i hi'
   have hlt':decide (y.Votes.getD i 0<m.From)=true:=decide_eq_true hlt
   simp only [spec_l10Voted.step5,lt_dec (show i<y.Votes.length by omega),nn_dec,cond_true,Int.toNat_natCast,hlt']
   rw [w_up i _ hi' (by omega)]) (fun rec=>by
   have q1:decide ((posV m.From y.Votes:Int)≤((y.Votes.length:Nat):Int))=true:=decide_eq_true (by omega)
   have q2:decide (0+(posV m.From y.Votes - 0)≤y.Votes.length)=true:=decide_eq_true (by omega)
   have q3:decide (posV m.From y.Votes+(y.Votes.length - posV m.From y.Votes)≤y.Votes.length)=true:=decide_eq_true (by omega)
   simp only [spec_l10Voted.step5]
   by_cases hL:posV m.From y.Votes<y.Votes.length
   ·have hge:=pos_at m.From y.Votes hL
    have hge':decide (y.Votes.getD (posV m.From y.Votes) 0<m.From)=false:=decide_eq_false (show ¬ ix y.Votes (posV m.From y.Votes)<m.From by omega)
    simp only [lt_dec hL,nn_dec,cond_true,Int.toNat_natCast,hge',cond_false,q1,q2,q3,ed,et,r1,r2,r3,ei]
    exact win
   ·simp only [decide_eq_false (show ¬ ((posV m.From y.Votes:Int)<(y.Votes.length:Int)) by omega),nn_dec,cond_true,Int.toNat_natCast,cond_false,q1,q2,q3,ed,et,r1,r2,r3,ei]
    exact win) (posV m.From y.Votes) 0 N (by omega) (by omega)
  exact this
theorem entZ {N:Nat} (hN:Big N) {y:Node} (h:GN y) (m:Message) (h0:0≤m.Index) (h1:m.Index≤60) (he:m.Entries.length≤60):spec_l10Entries.m N y m=some (entR y m):=by
 have hl:=h.ll
 have w1:w64 (m.Index - 1)=m.Index - 1:=w_small (by omega) (by omega)
 have w2:w64 (m.Index+(m.Entries.length:Int))=m.Index+(m.Entries.length:Int):=w_small (by omega) (by omega)
 have ef:Node.mk y.Id y.Term y.Vote y.Log y.Start 0 [] (List.replicate 7 1) (List.replicate 7 0) y.Commit 0 y.Wait y.Up=fresh y:=rfl
 unfold spec_l10Entries.m spec_l10Entries.m0 entR
 simp only [nodeEta,w1,w2,ob_some,downS hN y h.n7 h.m7,downN,ef,cond_false]
 cases decide (m.Term<y.Term) with
 | true=>rfl
 | false=>
 simp only [cond_false]
 by_cases hi:m.Index > (y.Log.length:Int)
 ·rw [decide_eq_true hi];rfl
 rw [decide_eq_false hi,Bool.false_or]
 simp only [cond_false]
 have et:spec_l10Term.m N (fresh y) m.Index=some (tv y m.Index):=termV (fresh y) _ h0 (by show m.Index≤(y.Log.length:Int);omega) (by show y.Log.length≤100;omega)
 rw [et,ob_some]
 cases tv y m.Index != m.LogTerm with
 | true=>rfl
 | false=>
 simp only [cond_false]
 obtain ⟨k,hk⟩:∃k:Nat,m.Index=(k:Int):=⟨m.Index.toNat,by omega⟩
 have hkl:k≤y.Log.length:=by omega
 have etn:m.Index.toNat=k:=by omega
 rw [etn]
 unfold spec_l10Entries.lp9
 have hd:=sto_len (es:=m.Entries) hkl
 obtain ⟨_,hle,hs,hn⟩:=stoD_all y.Log k m.Entries m.Entries.length 0
 have el:stoL y.Log k m.Entries=if stoD y.Log k m.Entries m.Entries.length 0<m.Entries.length then y.Log.take (k+stoD y.Log k m.Entries m.Entries.length 0)++m.Entries.drop (stoD y.Log k m.Entries m.Entries.length 0) else y.Log:=rfl
 generalize stoD y.Log k m.Entries m.Entries.length 0=d at hd hle hs hn el
 have e1:∀i:Nat,i≤60→w64 (m.Index+(i:Int))=((k+i:Nat):Int):=fun i hi=>by
  rw [w_small (x:=m.Index+(i:Int)) (by omega) (by omega)];omega
 have:=miter_up (step:=fun rec=>spec_l10Entries.step9 N y m rec) (n:=d) (st:=fun i=>((i:Int),y.Id,y.Term,y.Vote,(0:Int),y.Commit,(0:Int),y.Wait,y.Up,y.Log,y.Start,([]:List Int),List.replicate 7 (1:Int),List.replicate 7 (0:Int),(0:Int),(0:Int),(0:Int),(0:Int),(0:Int),(0:Int),(0:Int))) (r:=some (withLC (fresh y) (stoL y.Log k m.Entries) (comN y.Commit (m.Index+m.Entries.length) m.Commit),[goodM y m])) (fun i hi rec=>by
  obtain ⟨s1,s2⟩:=stay_len (hs i (Nat.zero_le _) hi)
  simp only [spec_l10Entries.step9,lt_dec (show i<m.Entries.length by omega),lt_dec s1,nn_dec,cond_true,Int.toNat_natCast,exe,e1 i (by omega),s2]
  rw [w_up i _ hi (by omega)]) (fun rec=>by
  rw [el]
  by_cases hdl:d<m.Entries.length
  ·have r1:room (([]:List Entry).length+((y.Log.drop 0).take ((k+d) - 0)).length) 32=true:=roomB (by rw [List.length_take,List.length_drop];simp only [List.length_nil];omega) (by omega)
   have r2:decide (((k+d:Nat):Int)≤((y.Log.length:Nat):Int))=true:=decide_eq_true (by omega)
   have r3:decide ((d:Int)≤((m.Entries.length:Nat):Int))=true:=decide_eq_true (by omega)
   have r4:decide (0+((k+d) - 0)≤y.Log.length)=true:=decide_eq_true (by omega)
   have r5:room ((([]:List Entry)++((y.Log.drop 0).take ((k+d) - 0))).length+(m.Entries.drop d).length) 32=true:=roomB (by rw [List.nil_append,List.length_take,List.length_drop,List.length_drop];omega) (by omega)
   rw [if_pos hdl]
   simp only [spec_l10Entries.step9,lt_dec hdl,nn_dec,cond_true,Int.toNat_natCast,exe,e1 d (by omega),r1,r2,r3,r4,r5,w2]
   by_cases hin:k+d<y.Log.length
   ·have hst:=hn (by omega)
    unfold stay at hst
    rw [decide_eq_true hin,Bool.true_and] at hst
    rw [lt_dec hin,cond_true,hst]
    rfl
   ·rw [decide_eq_false (show ¬ ((k+d:Nat):Int)<(y.Log.length:Int) by omega),cond_false]
    rfl
  ·rw [if_neg hdl]
   simp only [spec_l10Entries.step9,decide_eq_false (show ¬ (d:Int)<(m.Entries.length:Int) by omega),cond_false,w2]
   rfl) d 0 N (by omega) (by omega)
 exact this
theorem ansZ {N:Nat} (hN:Big N) {y:Node} (h:GT y) (m:Message) (f0:0≤m.From) (f6:m.From≤6) (h0:0≤m.Index) (h1:m.Index≤60):spec_l10Answer.m N y m=some (ansR y m):=by
 have hl:=h.g.ll
 have hm:=h.mt m.From.toNat (by omega)
 have hn:=h.g.nx m.From.toNat (by omega)
 obtain ⟨b0,b1,ga⟩:=h.okAns f0 f6 h0
 have gb:=h.bkAns f0 f6 h0
 have dn:decide (m.From<(y.Next.length:Int))=true:=decide_eq_true (by rw [h.g.n7];omega)
 have dm:decide (m.From<(y.Match.length:Int))=true:=decide_eq_true (by rw [h.g.m7];omega)
 have dm2:∀v,decide (m.From<((y.Match.set m.From.toNat v).length:Int))=true:=fun v=>decide_eq_true (by rw [List.length_set,h.g.m7];omega)
 have gs:∀v,(y.Match.set m.From.toNat v).getD m.From.toNat 0=v:=fun v=>getD_set' (by rw [h.g.m7];omega) v 0
 have em:(if y.Match.getD m.From.toNat 0<(if (y.Log.length:Int)<m.Index then (y.Log.length:Int) else m.Index) then (if (y.Log.length:Int)<m.Index then (y.Log.length:Int) else m.Index) else y.Match.getD m.From.toNat 0)=mtV y m:=rfl
 have en:(if y.Next.getD m.From.toNat 0<mtV y m+1 then mtV y m+1 else y.Next.getD m.From.toNat 0)=nxV y m:=rfl
 have eb:(if y.Match.getD m.From.toNat 0+1<(if m.Index+1<y.Next.getD m.From.toNat 0 - 1 then m.Index+1 else y.Next.getD m.From.toNat 0 - 1) then (if m.Index+1<y.Next.getD m.From.toNat 0 - 1 then m.Index+1 else y.Next.getD m.From.toNat 0 - 1) else y.Match.getD m.From.toNat 0+1)=bkV y m:=rfl
 have w1:w64 (mtV y m+1)=mtV y m+1:=w_small (by omega) (by omega)
 have w2:w64 (m.Index+1)=m.Index+1:=w_small (by omega) (by omega)
 have w3:w64 (y.Next.getD m.From.toNat 0 - 1)=y.Next.getD m.From.toNat 0 - 1:=w_small (by rw [ixe];omega) (by rw [ixe];omega)
 have w4:w64 (y.Match.getD m.From.toNat 0+1)=y.Match.getD m.From.toNat 0+1:=w_small (by rw [ixe];omega) (by rw [ixe];omega)
 unfold spec_l10Answer.m ansR
 simp only [nodeEta,cond_false]
 cases y.Role != 2 with
 | true=>rfl
 | false=>
 cases m.Term != y.Term with
 | true=>rfl
 | false=>
 simp only [cond_false,decide_eq_true f0,dn,dm,cond_true]
 cases m.Ok with
 | true=>
  simp only [cond_true,cond_false,Bool.not_true]
  rw [em]
  simp only [dm2,gs,cond_true,w1]
  rw [en]
  have hms:spec_l10Members_.m N (okAns y m)=some (mems y):=ga.ms hN
  have a1:=advZ hN (okAns y m) (mems y) hms h.g.M ga.m7 (by have:=ga.ll;omega) ga.c0 ga.c1
  show ob (spec_l10Advance.m N (okAns y m)) _=_
  rw [a1,ob_some];rfl
 | false=>
  simp only [cond_true,cond_false,Bool.not_false,w2,w3,w4]
  rw [eb]
  have tl:Tells (bkAns y m):=gb.tells
  show ob (spec_l10Append.m N (bkAns y m) m.From) _=_
  rw [specApp hN _ tl _ f0 f6,ob_some];rfl
theorem kindZ {N:Nat} (hN:Big N) {y:Node} (h:GT y) {m:Message} (hm:MsgOk m):(bif m.Kind==1 then ob (spec_l10Vote.m N y m) (fun r=>some (r.1,r.2)) else bif m.Kind==2 then ob (spec_l10Voted.m N y m) (fun r=>some (r.1,r.2)) else bif m.Kind==3 then ob (spec_l10Entries.m N y m) (fun r=>some (r.1,r.2)) else ob (spec_l10Answer.m N y m) (fun r=>some (r.1,r.2)))=some (kindR y m):=by
 have hl:=h.g.ll
 have he:=hm.ents
 have:=hm.i0
 rw [voteZ y (by omega) m,votedZ hN h m,entZ hN h.g m hm.i0 hm.i60 (by omega),ansZ hN h m hm.f0 hm.f6 hm.i0 hm.i60]
 unfold kindR
 cases m.Kind==1<;>cases m.Kind==2<;>cases m.Kind==3<;>rfl
theorem takeZ {N:Nat} (hN:Big N) {x:Node} (h:GT x) {m:Message} (hm:MsgOk m):spec_l10Take.m N x m=some (takeR x m):=by
 have hy:=h.atTerm m
 have hb:=h.bump m.Term
 have ks:=kindZ hN hy hm
 have ds:=downS hN (bumpN x m.Term) hb.g.n7 hb.g.m7
 have eb:Node.mk x.Id m.Term (-1) x.Log x.Start x.Role x.Votes x.Next x.Match x.Commit x.Elapsed x.Wait x.Up=bumpN x m.Term:=rfl
 unfold takeR
 unfold spec_l10Take.m
 unfold atTerm at ks ⊢
 rw [ownS x h.g.sz]
 simp only [ob_some,nodeEta,eb]
 cases hq:decide (m.Term > x.Term) with
 | true=>
  rw [hq,cond_true] at ks
  simp only [cond_true]
  rw [ds,ob_some]
  exact ks
 | false=>
  rw [hq,cond_false] at ks
  simp only [cond_false]
  exact ks
theorem GN.prop {x:Node} (h:GN x) (hl:x.Log.length<60) {k:Int} {d:ByteArray} (hd:d.size≤M20) (hm:(k==2)=true→memB d=true):GN (propN x k d):=by
 have hlen:(propN x k d).Log.length=x.Log.length+1:=by show (x.Log++[_]).length=_;simp
 refine ⟨⟨by rw [hlen];simp only [M20];omega,h.sz.Start,h.sz.Votes,h.sz.Next,h.sz.Match⟩,fun e he=>?_,fun j hj hk=>?_,h.st,h.c0,?_,h.n7,h.m7,fun j hj=>?_,by omega⟩
 ·have he:e∈x.Log++[_]:=he
  rcases List.mem_append.1 he with he | he
  ·exact h.da e he
  ·rw [List.mem_singleton.1 he];exact hd
 ·have hj:j<x.Log.length+1:=by rw [← hlen];exact hj
  have hk:((ex (x.Log++[_]) j).Kind==2)=true:=hk
  show memB (ex (x.Log++[_]) j).Data=true
  by_cases hjl:j<x.Log.length
  ·rw [ex_app hjl] at hk ⊢;exact h.mm j hjl hk
  ·have e:j=x.Log.length:=by omega
   subst e
   rw [ex_last] at hk ⊢;exact hm hk
 ·show x.Commit≤((propN x k d).Log.length:Int)
  have:=h.c1;rw [hlen];omega
 ·have:=h.nx j hj
  show 1≤ix x.Next j∧ix x.Next j≤((propN x k d).Log.length:Int)+1
  rw [hlen];omega
theorem propZ {N:Nat} (hN:Big N) {x:Node} (h:GN x) (k:Int) (d:ByteArray) (hg:x.Log.length<60→GN (propN x k d)) (t:Int):spec_l10Propose.m N x ⟨t,k,d⟩=some (bif !x.Up then (x,[],5) else bif x.Role != 2 then (x,[],14) else bif (x.Log.length:Int)==60 then (x,[],7) else ((propR x k d).1,(propR x k d).2,0)):=by
 unfold spec_l10Propose.m
 rw [ownS x h.sz]
 simp only [ob_some]
 cases !x.Up with
 | true=>rfl
 | false=>
 cases x.Role != 2 with
 | true=>rfl
 | false=>
 cases hl:(x.Log.length:Int)==60 with
 | true=>rfl
 | false=>
 simp only [cond_false]
 rw [beq_eq_false_iff_ne] at hl
 have hll:=h.ll
 have g:=hg (by omega)
 have hM:=g.M
 rw [roomB (by rw [List.length_singleton];omega) (by omega),cond_true]
 have a:=advZ hN (propN x k d) (mems (propN x k d)) (g.ms hN) hM g.m7 (by have:=g.ll;omega) g.c0 g.c1
 have ga:GN (propR x k d).1:=⟨⟨g.sz.Log,g.sz.Start,g.sz.Votes,g.sz.Next,g.sz.Match⟩,g.da,g.mm,g.st,(advC_lim (propN x k d) (mems (propN x k d)) g.c0 g.c1 _ (Int.le_refl _)).1,(advC_lim (propN x k d) (mems (propN x k d)) g.c0 g.c1 _ (Int.le_refl _)).2,g.n7,g.m7,g.nx,g.ll⟩
 have t:=specTell hN (propR x k d).1 (mems (propN x k d)) (ga.ms hN) hM ga.tells
 show ob (spec_l10Advance.m N (propN x k d)) _=_
 rw [a,ob_some]
 show ob (spec_l10Tell.m N (propR x k d).1) _=_
 rw [t,ob_some]
 rfl
def datB (e:Entry):Bool:=bif e.Kind==0 then seq e.Data ByteArray.empty else bif e.Kind==1 then decide ((e.Data.size:Int)≥1)&&decide ((e.Data.size:Int)≤100) else bif e.Kind==2 then memB e.Data else false
theorem memB_size {d:ByteArray} (h:memB d=true):d.size≤7:=by
 unfold memB at h
 rw [Bool.and_eq_true] at h
 rcases Nat.lt_or_ge 7 d.size with q | q
 ·have:=ids_ge h.1 7 q;omega
 ·exact q
theorem datB_size {e:Entry} (h:datB e=true):e.Data.size≤100:=by
 unfold datB at h
 cases h0:e.Kind==0 with
 | true=>
  rw [h0,cond_true] at h
  unfold seq at h
  rw [beq_iff_eq] at h
  have:e.Data.toList.length=ByteArray.empty.toList.length:=by rw [h]
  rw [ByteArray.toList_eq,ByteArray.toList_eq] at this
  have e2:e.Data.data.toList.length=e.Data.size:=by simp
  rw [e2] at this
  have e3:ByteArray.empty.data.toList.length=0:=rfl
  omega
 | false=>
 rw [h0,cond_false] at h
 cases h1:e.Kind==1 with
 | true=>
  rw [h1,cond_true,Bool.and_eq_true,decide_eq_true_eq,decide_eq_true_eq] at h
  omega
 | false=>
 rw [h1,cond_false] at h
 cases h2:e.Kind==2 with
 | true=>
  rw [h2,cond_true] at h
  have:=memB_size h;omega
 | false=>rw [h2] at h;cases h
theorem datB_two {e:Entry} (h:datB e=true) (h2:(e.Kind==2)=true):memB e.Data=true:=by
 unfold datB at h
 have e2:e.Kind=2:=beq_iff_eq.1 h2
 rw [e2] at h
 exact h
structure KL (x:Node):Prop where
 id0:0≤x.Id
 id6:x.Id≤6
 t0:0≤x.Term
 t1:x.Term≤1000000
 v0 : -1≤x.Vote
 v1:x.Vote≤6
 dl:∀e∈x.Log,datB e=true
 ll:x.Log.length≤60
 ss:idsB (ix x.Start) x.Start.length=true
 s0:0<x.Start.length
 vt:idsB (ix x.Votes) x.Votes.length=true
 r0:0≤x.Role
 r1:x.Role≤2
 n7:x.Next.length=7
 m7:x.Match.length=7
 c0:0≤x.Commit
 c1:x.Commit≤x.Log.length
 e0:0≤x.Elapsed
 e1:x.Elapsed≤1000
 w0:5≤x.Wait
 w1:x.Wait≤100
 nx:∀j,j<7→1≤ix x.Next j∧ix x.Next j≤x.Log.length+1
 mt:∀j,j<7→0≤ix x.Match j∧ix x.Match j≤ix x.Next j - 1
 up:x.Up=true∨x.Role=0
 rt:x.Role=0∨1≤x.Term
theorem KL.gt {x:Node} (h:KL x):GT x:=by
 have a:=(mem_of h.ss).len
 have b:=(mem_of h.vt).len
 have l:=h.ll
 refine ⟨⟨⟨by simp only [M20];omega,by simp only [M20];omega,by simp only [M20];omega,by rw [h.n7];simp [M20],by rw [h.m7];simp [M20]⟩,fun e he=>?_,fun j hj hk=>?_,h.ss,h.c0,h.c1,h.n7,h.m7,h.nx,h.ll⟩,h.vt,h.mt⟩
 ·have:=datB_size (h.dl e he)
  simp only [M20];omega
 ·have m:ex x.Log j∈x.Log:=by unfold ex;rw [getD_at hj];exact List.getElem_mem hj
  exact datB_two (h.dl _ m) hk
theorem KL.withE {x:Node} (h:KL x) {e:Int} (e0:0≤e) (e1:e≤1000):KL (withE x e):={ h with e0:=e0,e1:=e1 }
theorem te_rng {x:Node} (h:KL x):0≤te x∧te x≤1000:=by
 have:=h.e0
 unfold te
 split<;>omega
theorem KL.teE {x:Node} (h:KL x):KL (Mir.Y.withE x (Mir.Y.te x)):=h.withE (te_rng h).1 (te_rng h).2
theorem idsB_one {a:Int} (h0:0≤a) (h6:a≤6):idsB (ix [a]) [a].length=true:=by
 unfold idsB
 rw [allF_iff]
 intro j _ hj
 have:j=0:=by simp at hj;omega
 subst this
 show (inB a 0 6&&_)=true
 rw [inB_iff.2 ⟨h0,h6⟩];rfl
theorem KL.elect {x:Node} (h:KL x) (hu:x.Up=true) (ht:x.Term<1000000) {d:Int} (d0:0≤d):KL (electN x d):=by
 have m0:=Int.tmod_nonneg 8 d0
 have m1:=Int.tmod_lt_of_pos d (show (0:Int)<8 by omega)
 have a:=h.t0
 have b:=h.id0
 exact { h with t0:=(by show 0≤x.Term+1;omega),t1:=(by show x.Term+1≤1000000;omega),v0:=(by show -1≤x.Id;omega),v1:=h.id6,vt:=idsB_one h.id0 h.id6,r0:=(by show (0:Int)≤1;decide),r1:=(by show (1:Int)≤2;decide),e0:=Int.le_refl _,e1:=(by show (0:Int)≤1000;decide),w0:=(by show 5≤5+Int.tmod d 8;omega),w1:=(by show 5+Int.tmod d 8≤100;omega),up:=.inl hu,rt:=.inr (by show 1≤x.Term+1;omega) }
theorem KL.lead {x:Node} (h:KL x) (hu:x.Up=true) (ht:1≤x.Term):KL (leadN x):=by
 have g:=h.gt.g.lead
 refine { h with dl:=fun e he=>?_,ll:=g.ll,n7:=g.n7,m7:=g.m7,c1:=g.c1,r0:=(by show (0:Int)≤2;decide),r1:=Int.le_refl _,e0:=Int.le_refl _,e1:=(by show (0:Int)≤1000;decide),nx:=g.nx,mt:=fun j hj=>?_,up:=.inl hu,rt:=.inr ht }
 ·have he:e∈leadL x:=he
  unfold leadL at he
  split at he
  ·rcases List.mem_append.1 he with he | he
   ·exact h.dl e he
   ·rw [List.mem_singleton.1 he];exact seq_self _
  ·exact h.dl e he
 ·show 0≤ix (List.replicate 7 0) j∧ix (List.replicate 7 0) j≤ix (List.replicate 7 ((x.Log.length:Int)+1)) j - 1
  rw [rep7 _ hj,rep7 _ hj];omega
theorem KL.adv {x:Node} (h:KL x) (M:List Int):KL (withC x (advC x M x.Log.length)):=by
 have a:=advC_lim x M h.c0 h.c1 x.Log.length (Int.le_refl _)
 exact { h with c0:=a.1,c1:=a.2 }
theorem rep_nx (n:Nat) (j:Nat) (hj:j<7):1≤ix (List.replicate 7 1) j∧ix (List.replicate 7 1) j≤(n:Int)+1:=by
 rw [rep7 _ hj];omega
theorem rep_mt (j:Nat) (hj:j<7):0≤ix (List.replicate 7 0) j∧ix (List.replicate 7 0) j≤ix (List.replicate 7 1) j - 1:=by
 rw [rep7 _ hj,rep7 _ hj];omega
theorem KL.down {x:Node} (h:KL x):KL (downN x):={ h with vt:=rfl,r0:=Int.le_refl _,r1:=(by show (0:Int)≤2;decide),n7:=(by show (List.replicate 7 _).length=7;simp),m7:=(by show (List.replicate 7 _).length=7;simp),nx:=rep_nx x.Log.length,mt:=rep_mt,up:=.inr rfl,rt:=.inl rfl }
theorem KL.bump {x:Node} (h:KL x) {t:Int} (t0:1≤t) (t1:t≤1000000):KL (bumpN x t):={ h with t0:=(by show 0≤t;omega),t1:=t1,v0:=(by show (-1:Int)≤-1;decide),v1:=(by show (-1:Int)≤6;decide),rt:=.inr t0 }
theorem KL.fresh {x:Node} (h:KL x):KL (fresh x):=(h.down).withE (Int.le_refl 0) (by decide)
theorem KL.vote {x:Node} (h:KL x) {c:Int} (c0:0≤c) (c6:c≤6):KL (voteN x c):={ h with v0:=(by show -1≤c;omega),v1:=c6,e0:=Int.le_refl _,e1:=(by show (0:Int)≤1000;decide) }
theorem insV_at {a:List Int} (f:Int) (j:Nat):ix (insV a f) j=if j<posV f a then ix a j else if j=posV f a then f else ix a (j - 1):=by
 have hp:=pos_le f a
 have lt:(a.take (posV f a)).length=posV f a:=by rw [List.length_take];omega
 unfold insV ix
 rw [List.getD_eq_getElem?_getD,List.getD_eq_getElem?_getD,List.getD_eq_getElem?_getD]
 by_cases h1:j<posV f a
 ·rw [if_pos h1,List.append_assoc,List.getElem?_append_left (by omega),List.getElem?_take,if_pos h1]
 ·rw [if_neg h1]
  by_cases h2:j=posV f a
  ·rw [if_pos h2,List.append_assoc,List.getElem?_append_right (by omega),lt,h2];simp
  ·rw [if_neg h2,List.getElem?_append_right (by rw [List.length_append,List.length_singleton];omega),List.length_append,List.length_singleton,lt,List.getElem?_drop]
   rw [show posV f a+(j - (posV f a+1))=j - 1 by omega]
theorem insV_ids {a:List Int} (h:idsB (ix a) a.length=true) {f:Int} (f0:0≤f) (f6:f≤6) (hn:hasB a f=false):idsB (ix (insV a f)) (insV a f).length=true:=by
 have hp:=pos_le f a
 have hi:=insV_len a f
 have hh:=has_pos h f
 rw [hn] at hh
 have ne:posV f a<a.length→f<ix a (posV f a):=fun q=>by
  have g:=pos_at f a q
  rw [decide_eq_true q,Bool.true_and] at hh
  have:¬ ix a (posV f a)=f:=by have:=hh.symm;rwa [beq_eq_false_iff_ne] at this
  omega
 unfold idsB
 rw [allF_iff,hi]
 intro j _ hj
 have hj:j<a.length+1:=by omega
 rw [Bool.and_eq_true,inB_iff]
 have at_:=insV_at (a:=a) f j
 have ap:=insV_at (a:=a) f (j - 1)
 constructor
 ·rw [at_]
  split
  ·exact (ids_ge h j (by omega)).2
  ·split
   ·exact ⟨f0,f6⟩
   ·exact (ids_ge h (j - 1) (by omega)).2
 ·rw [Bool.not_eq_true',Bool.and_eq_false_iff,decide_eq_false_iff_not,decide_eq_false_iff_not]
  by_cases j0:0<j
  ·right
   rw [at_,ap]
   by_cases h1:j<posV f a
   ·rw [if_pos h1,if_pos (by omega)]
    have:=ids_lt h (j - 1) j (by omega) (by omega)
    omega
   ·rw [if_neg h1]
    by_cases h2:j=posV f a
    ·rw [if_pos h2,if_pos (by omega)]
     have:=pos_lt f a (j - 1) (by omega)
     omega
    ·rw [if_neg h2,if_neg (by omega)]
     by_cases h3:j - 1=posV f a
     ·rw [if_pos h3,h3]
      have:=ne (by omega)
      omega
     ·rw [if_neg h3]
      have:=ids_lt h (j - 1 - 1) (j - 1) (by omega) (by omega)
      omega
  ·left;exact j0
theorem KL.withV {x:Node} (h:KL x) {v:List Int} (hv:idsB (ix v) v.length=true):KL (withV x v):={ h with vt:=hv }
theorem KL.nm {x:Node} (h:KL x) {a b:List Int} (n7:a.length=7) (m7:b.length=7) (nx:∀j,j<7→1≤ix a j∧ix a j≤x.Log.length+1) (mt:∀j,j<7→0≤ix b j∧ix b j≤ix a j - 1):KL (withNM x a b):={ h with n7:=n7,m7:=m7,nx:=nx,mt:=mt }
theorem KL.okAns {y:Node} (h:KL y) {m:Message} (f0:0≤m.From) (f6:m.From≤6) (i0:0≤m.Index):KL (okAns y m):=by
 obtain ⟨b0,b1,ga⟩:=h.gt.okAns f0 f6 i0
 refine h.nm ga.n7 ga.m7 ga.nx fun j hj=>?_
 rw [ix_set (by rw [h.m7];omega),ix_set (by rw [h.n7];omega)]
 have a:=h.mt j hj
 by_cases e:j=m.From.toNat
 ·rw [if_pos e,if_pos e]
  refine ⟨b0,?_⟩
  unfold nxV;split<;>omega
 ·rw [if_neg e,if_neg e];exact a
theorem KL.bkAns {y:Node} (h:KL y) {m:Message} (f0:0≤m.From) (f6:m.From≤6) (i0:0≤m.Index):KL (bkAns y m):=by
 have gb:=h.gt.bkAns (m:=m) f0 f6 i0
 refine h.nm gb.n7 h.m7 gb.nx fun j hj=>?_
 rw [ix_set (by rw [h.n7];omega)]
 have a:=h.mt j hj
 by_cases e:j=m.From.toNat
 ·rw [if_pos e]
  refine ⟨a.1,?_⟩
  rw [e]
  unfold bkV;split<;>omega
 ·rw [if_neg e];exact a
theorem KL.prop {x:Node} (h:KL x) (hr:x.Role=2) (hl:x.Log.length<60) {k:Int} {d:ByteArray} (hd:datB ⟨x.Term,k,d⟩=true):KL (propN x k d):=by
 have hlen:(propN x k d).Log.length=x.Log.length+1:=by show (x.Log++[_]).length=_;simp
 have c1:=h.c1
 refine { h with dl:=fun e he=>?_,ll:=by rw [hlen];omega,c1:=(by show x.Commit≤_;rw [hlen];omega),nx:=fun j hj=>?_ }
 ·have he:e∈x.Log++[_]:=he
  rcases List.mem_append.1 he with he | he
  ·exact h.dl e he
  ·rw [List.mem_singleton.1 he];exact hd
 ·have:=h.nx j hj
  show 1≤ix x.Next j∧ix x.Next j≤((propN x k d).Log.length:Int)+1
  rw [hlen];omega
theorem KL.crash {x:Node} (h:KL x):KL (crashN x):={ h with vt:=rfl,r0:=Int.le_refl _,r1:=(by show (0:Int)≤2;decide),n7:=rfl,m7:=rfl,c0:=Int.le_refl _,c1:=(by show (0:Int)≤x.Log.length;omega),e0:=Int.le_refl _,e1:=(by show (0:Int)≤1000;decide),nx:=rep_nx x.Log.length,mt:=rep_mt,up:=.inr rfl,rt:=.inl rfl }
theorem KL.start {x:Node} (h:KL x):KL (startN x):={ h with up:=.inl rfl }
structure MK (m:Message):Prop where
 kind:m.Kind=1∨m.Kind=2∨m.Kind=3∨m.Kind=4
 f0:0≤m.From
 f6:m.From≤6
 t0:0≤m.To
 t6:m.To≤6
 ne:m.From≠m.To
 u0:1≤m.Term
 u1:m.Term≤1000000
 i0:0≤m.Index
 i60:(m.Entries.length:Int)≤60 - m.Index
 dl:∀e∈m.Entries,datB e=true
theorem MK.ok {m:Message} (h:MK m):MsgOk m:=⟨h.kind,h.f0,h.f6,h.i0,by have:=h.i60;omega,h.i60⟩
theorem MK.to {x:Node} (h:KL x) (ht:1≤x.Term) {to:Int} (a0:0≤to) (a6:to≤6) (ne:x.Id≠to):MK (msgTo x to):=by
 have n:=h.nx to.toNat (by omega)
 have l:=h.ll
 exact ⟨.inr (.inr (.inl rfl)),h.id0,h.id6,a0,a6,ne,ht,h.t1,by show 0≤ix x.Next to.toNat - 1;omega,by show ((x.Log.drop (ix x.Next to.toNat - 1).toNat).length:Int)≤60 - (ix x.Next to.toNat - 1);rw [List.length_drop];omega,fun e he=>h.dl e (List.mem_of_mem_drop he)⟩
theorem MK.told {x:Node} (h:KL x) (ht:1≤x.Term) {M:List Int} (hM:Mem M):∀m∈told x M,MK m:=fun m hm=>by
 obtain ⟨to,q,rfl⟩:=List.mem_map.1 hm
 obtain ⟨a,b⟩:=List.mem_filter.1 q
 obtain ⟨c,d⟩:=hM.lo to a
 exact MK.to h ht c d fun e=>by
  unfold notId at b
  rw [e] at b
  simp at b
theorem MK.plain {k f t u i:Int} {l:Int} {o:Bool} (hk:k=1∨k=2∨k=3∨k=4) (f0:0≤f) (f6:f≤6) (t0:0≤t) (t6:t≤6) (ne:f≠t) (u0:1≤u) (u1:u≤1000000) (i0:0≤i) (i60:i≤60):MK ⟨k,f,t,u,i,l,0,[],o⟩:=⟨hk,f0,f6,t0,t6,ne,u0,u1,i0,by show ((0:Nat):Int)≤60 - i;omega,fun e he=>absurd he List.not_mem_nil⟩
structure RK (r:Node×List Message):Prop where
 n:KL r.1
 m:∀m∈r.2,MK m
 l:r.2.length≤10
theorem RK.nil {x:Node} (h:KL x):RK (x,[]):=⟨h,fun m hm=>absurd hm List.not_mem_nil,Nat.zero_le _⟩
theorem RK.one {x:Node} (h:KL x) {m:Message} (hm:MK m):RK (x,[m]):=⟨h,fun m' q=>by rw [List.mem_singleton.1 q];exact hm,by show 1≤10;omega⟩
theorem lead_RK {z:Node} (h:KL z) (hu:z.Up=true) (ht:1≤z.Term):RK (withC (leadN z) (advC (leadN z) (mems z) (leadL z).length),told (leadN z) (mems z)):=by
 have hl:=h.lead hu ht
 have hM:=h.gt.g.M
 have tl:=told_len (x:=leadN z) hM
 exact ⟨hl.adv (mems z),MK.told hl ht hM,by show (Mir.Y.told _ _).length≤10;omega⟩
theorem win_RK {z:Node} (h:KL z) (hu:z.Up=true) (ht:1≤z.Term):RK (winR z):=by
 unfold winR
 cases mostB (hasB z.Votes) (mems z) with
 | true=>exact lead_RK h hu ht
 | false=>exact RK.nil h
theorem tick_RK {x:Node} (h:KL x) (hu:x.Up=true) {d:Int} (d0:0≤d):RK (tickR x d):=by
 unfold tickR
 have hM:=h.gt.g.M
 cases hr:x.Role==2 with
 | true=>
  have r2:x.Role=2:=beq_iff_eq.1 hr
  cases decide (te x<2) with
  | true=>exact RK.nil h.teE
  | false=>
   have h0:=h.withE (Int.le_refl 0) (by decide)
   have t1:1≤x.Term:=by
    rcases h.rt with q | q
    ·rw [q] at r2;cases r2
    ·exact q
   have tl:=told_len (x:=Mir.Y.withE x 0) hM
   exact ⟨h0,MK.told h0 t1 hM,by show (Mir.Y.told _ _).length≤10;omega⟩
 | false=>
  cases decide (te x<x.Wait) with
  | true=>exact RK.nil h.teE
  | false=>
  cases !hasB (mems x) x.Id with
  | true=>exact RK.nil h.teE
  | false=>
  cases ht:x.Term==1000000 with
  | true=>exact RK.nil h.teE
  | false=>
  have ht:¬ x.Term=1000000:=by simpa using ht
  have t1:=h.t1
  have t0:=h.t0
  have he:=h.teE.elect (d:=d) hu (by show x.Term<1000000;omega) d0
  show RK (electR (Mir.Y.withE x (te x)) d)
  unfold electR
  cases mostB (hasB [(Mir.Y.withE x (te x)).Id]) (mems (Mir.Y.withE x (te x))) with
  | true=>exact lead_RK he hu (by show 1≤x.Term+1;omega)
  | false=>
   refine ⟨he,fun m hm=>?_,?_⟩
   ·obtain ⟨to,q,rfl⟩:=List.mem_map.1 hm
    obtain ⟨a,b⟩:=List.mem_filter.1 q
    obtain ⟨c,d'⟩:=hM.lo to a
    have ll:=h.ll
    refine MK.plain (.inl rfl) h.id0 h.id6 c d' (fun e=>?_) (by show 1≤x.Term+1;omega) (by show x.Term+1≤1000000;omega) (by omega) (by show (x.Log.length:Int)≤60;omega)
    have b:(!(to==x.Id))=true:=b
    have e:x.Id=to:=e
    rw [e] at b
    simp at b
   ·show (((mems x).filter _).map _).length≤10
    have:=List.length_filter_le (notId (electN (Mir.Y.withE x (te x)) d)) (mems x)
    have:=hM.len
    rw [List.length_map];omega
theorem atTerm_KL {x:Node} (h:KL x) {m:Message} (hm:MK m):KL (atTerm x m)∧m.Term≤(atTerm x m).Term∧(atTerm x m).Id=x.Id∧(atTerm x m).Up=x.Up:=by
 unfold atTerm
 by_cases q:m.Term > x.Term
 ·rw [decide_eq_true q,cond_true]
  exact ⟨(h.bump hm.u0 hm.u1).down,Int.le_refl _,rfl,rfl⟩
 ·rw [decide_eq_false q,cond_false]
  exact ⟨h,by omega,rfl,rfl⟩
theorem stoL_KL {L es:List Entry} {k:Nat} (hL:L.length≤60) (he:k+es.length≤60) (hk:k≤L.length) (dL:∀e∈L,datB e=true) (de:∀e∈es,datB e=true):(stoL L k es).length≤60∧∀e∈stoL L k es,datB e=true:=by
 have hd:=sto_len (es:=es) hk
 unfold stoL
 split
 ·refine ⟨by rw [List.length_append,List.length_take,List.length_drop];omega,fun e h=>?_⟩
  rcases List.mem_append.1 h with h | h
  ·exact dL e (List.mem_of_mem_take h)
  ·exact de e (List.mem_of_mem_drop h)
 ·exact ⟨hL,dL⟩
theorem take_RK {x:Node} (h:KL x) (hu:x.Up=true) {m:Message} (hm:MK m) (hto:m.To=x.Id) (hc:m.Kind=3→m.Index≤(x.Log.length:Int)→tv (atTerm x m) m.Index=m.LogTerm→¬ m.Term<(atTerm x m).Term→comN x.Commit (m.Index+m.Entries.length) m.Commit≤(stoL x.Log m.Index.toNat m.Entries).length):RK (takeR x m):=by
 obtain ⟨hy,ty,iy,uy⟩:=atTerm_KL h hm
 have ly:(atTerm x m).Log=x.Log∧(atTerm x m).Commit=x.Commit:=by
  unfold atTerm
  cases decide (m.Term > x.Term)<;>exact ⟨rfl,rfl⟩
 unfold takeR
 rw [← ly.1,← ly.2] at hc
 generalize atTerm x m=y at hy ty iy uy ly hc
 rw [hu] at uy
 have u0:=hm.u0
 have hl:=hy.ll
 have ne:y.Id≠m.From:=by rw [iy,← hto];exact fun e=>hm.ne e.symm
 have pl:∀(k i:Int) (o:Bool),(k=1∨k=2∨k=3∨k=4)→0≤i→i≤60→MK ⟨k,y.Id,m.From,y.Term,i,0,0,[],o⟩:=fun k i o hk a b=>MK.plain hk hy.id0 hy.id6 hm.f0 hm.f6 ne (by omega) hy.t1 a b
 unfold kindR
 cases m.Kind==1 with
 | true=>
  rw [cond_true]
  unfold voteR
  refine RK.one ?_ (pl 2 0 _ (.inr (.inl rfl)) (Int.le_refl _) (by decide))
  cases grB y m with
  | true=>exact hy.vote hm.f0 hm.f6
  | false=>exact hy
 | false=>
 cases m.Kind==2 with
 | true=>
  rw [cond_false,cond_true]
  unfold votedR
  cases y.Role != 1 with
  | true=>exact RK.nil hy
  | false=>
  cases m.Term != y.Term with
  | true=>exact RK.nil hy
  | false=>
  cases !m.Ok with
  | true=>exact RK.nil hy
  | false=>
  cases hh:hasB y.Votes m.From with
  | false=>exact win_RK (hy.withV (insV_ids hy.vt hm.f0 hm.f6 hh)) uy (by show 1≤y.Term;omega)
  | true=>exact win_RK hy uy (by omega)
 | false=>
 cases h3:m.Kind==3 with
 | true=>
  rw [cond_false,cond_false,cond_true]
  unfold entR
  have i0:=hm.i0
  have i6:=hm.i60
  have hint:MK (backM y m):=by
   refine pl 4 (hintV y m) false (.inr (.inr (.inr rfl))) ?_ ?_
   ·unfold hintV;repeat' split
    all_goals omega
   ·unfold hintV;repeat' split
    all_goals omega
  by_cases q:m.Term<y.Term
  ·rw [decide_eq_true q];exact RK.one hy hint
  rw [decide_eq_false q,cond_false]
  cases hb:decide (m.Index > (y.Log.length:Int))||(tv y m.Index != m.LogTerm) with
  | true=>exact RK.one hy.fresh hint
  | false=>
   rw [Bool.or_eq_false_iff,decide_eq_false_iff_not] at hb
   have ht:tv y m.Index=m.LogTerm:=by simpa using hb.2
   have hcc:=hc (beq_iff_eq.1 h3) (by omega) ht q
   obtain ⟨a,b⟩:=stoL_KL (L:=y.Log) (es:=m.Entries) (k:=m.Index.toNat) hl (by omega) (by omega) hy.dl hm.dl
   refine RK.one ?_ (pl 4 (m.Index+m.Entries.length) true (.inr (.inr (.inr rfl))) (by omega) (by omega))
   have f:=hy.fresh
   have c0:=hy.c0
   have k0:0≤comN y.Commit (m.Index+m.Entries.length) m.Commit:=by
    unfold comN
    repeat' split
    all_goals omega
   exact { f with dl:=b,ll:=a,c0:=k0,c1:=hcc,nx:=rep_nx (stoL y.Log m.Index.toNat m.Entries).length }
 | false=>
  rw [cond_false,cond_false,cond_false]
  unfold ansR
  cases y.Role != 2 with
  | true=>exact RK.nil hy
  | false=>
  cases m.Term != y.Term with
  | true=>exact RK.nil hy
  | false=>
  cases m.Ok with
  | true=>exact RK.nil ((hy.okAns hm.f0 hm.f6 hm.i0).adv (mems y))
  | false=>exact RK.one (hy.bkAns hm.f0 hm.f6 hm.i0) (MK.to (hy.bkAns hm.f0 hm.f6 hm.i0) (by show 1≤y.Term;omega) hm.f0 hm.f6 ne)
theorem prop_RK {x:Node} (h:KL x) (hr:x.Role=2) (hl:x.Log.length<60) {k:Int} {d:ByteArray} (hd:datB ⟨x.Term,k,d⟩=true):RK (propR x k d):=by
 have hp:=h.prop hr hl hd
 have ha:=hp.adv (mems (propN x k d))
 have hM:=hp.gt.g.M
 have t1:1≤x.Term:=by
  rcases h.rt with q | q
  ·rw [q] at hr;cases hr
  ·exact q
 have tl:=told_len (x:=withC (propN x k d) (advC (propN x k d) (mems (propN x k d)) (propN x k d).Log.length)) hM
 exact ⟨ha,MK.told ha t1 hM,by show (Mir.Y.told _ _).length≤10;omega⟩
def NC (st:List Int) (g:Gh) (x:Node):Prop:=x.Commit≤0∨∃s k n,Cm st g s k n∧x.Commit≤(k:Int)∧s≤x.Term∧agree x.Log (g.T s) x.Commit.toNat
def MC (st:List Int) (g:Gh) (m:Message):Prop:=m.Commit≤0∨∃s k n,Cm st g s k n∧m.Commit≤(k:Int)∧s≤m.Term
theorem NC.ext {st:List Int} {g g':Gh} (e:Ext g g') {x:Node} (h:NC st g x):NC st g' x:=by
 rcases h with h | ⟨s,k,n,a,b,c,d⟩
 ·exact .inl h
 ·exact .inr ⟨s,k,n,a.ext e,b,c,e.agT a.l d⟩
theorem MC.ext {st:List Int} {g g':Gh} (e:Ext g g') {m:Message} (h:MC st g m):MC st g' m:=by
 rcases h with h | ⟨s,k,n,a,b,c⟩
 ·exact .inl h
 ·exact .inr ⟨s,k,n,a.ext e,b,c⟩
theorem NC.mono {st:List Int} {g:Gh} {x y:Node} (h:NC st g x) (hc:y.Commit=x.Commit) (ht:x.Term≤y.Term) (hl:agree y.Log x.Log x.Commit.toNat):NC st g y:=by
 rcases h with h | ⟨s,k,n,a,b,c,d⟩
 ·exact .inl (by omega)
 ·exact .inr ⟨s,k,n,a,by omega,by omega,by rw [hc];exact hl.trans d⟩
theorem NC.keep {st:List Int} {g:Gh} {x y:Node} (h:NC st g x) (c1:x.Commit≤x.Log.length) (hc:y.Commit=x.Commit) (ht:x.Term≤y.Term) (hl:y.Log=x.Log):NC st g y:=h.mono hc ht (by rw [hl];exact agree.self (by omega))
theorem NC.msg {st:List Int} {g:Gh} {x:Node} (h:NC st g x) {m:Message} (hc:m.Commit=x.Commit) (ht:x.Term≤m.Term):MC st g m:=by
 rcases h with h | ⟨s,k,n,a,b,c,d⟩
 ·exact .inl (by omega)
 ·exact .inr ⟨s,k,n,a,by omega,by omega⟩
theorem MC.zero {st:List Int} {g:Gh} {m:Message} (h:m.Commit=0):MC st g m:=.inl (by omega)
theorem NC.led {st:List Int} {g:Gh} {nd:Int→Node} (I:Inv st g nd) {v:Int} {y:Node} (hv:nd v=y) (hr:y.Role=2) (c0:0<y.Commit) (c1:y.Commit≤y.Log.length) (ht:tm y.Log y.Commit.toNat=y.Term):NC st g y:=by
 have n:=I.ni v
 rw [hv] at n
 obtain ⟨k,hk⟩:=n.com hr c0 ht
 obtain ⟨_,l2⟩:=n.lead hr
 exact .inr ⟨y.Term,y.Commit.toNat,k,hk,by omega,Int.le_refl _,by rw [l2];exact agree.self (by omega)⟩
theorem adv_or (x:Node) (M:List Int) (h0:0≤x.Commit):∀k:Nat,advC x M k=x.Commit∨(0<advC x M k∧tm x.Log (advC x M k).toNat=x.Term):=by
 intro k
 induction k with
 | zero=>exact .inl rfl
 | succ k ih=>
  rw [advC]
  cases h1:decide (((k+1:Nat):Int) > x.Commit) with
  | false=>exact .inl rfl
  | true=>
  cases h2:(ex x.Log k).Term==x.Term with
  | false=>exact .inl rfl
  | true=>
  cases mostB (hasIt x ((k+1:Nat):Int)) M with
  | false=>exact ih
  | true=>
   refine .inr ⟨by show (0:Int)<((k+1:Nat):Int);omega,?_⟩
   show tm x.Log (((k+1:Nat):Int)).toNat=x.Term
   rw [Int.toNat_natCast,tm_succ];exact beq_iff_eq.1 h2
theorem NC.adv {st:List Int} {g:Gh} {nd:Int→Node} (I:Inv st g nd) {v:Int} {x:Node} {M:List Int} {k:Nat} (hv:nd v=withC x (advC x M k)) (hr:x.Role=2) (c0:0≤x.Commit) (c1:x.Commit≤x.Log.length) (hk:k≤x.Log.length) (h:NC st g x):NC st g (withC x (advC x M k)):=by
 have l:=advC_lim x M c0 c1 k (by omega)
 rcases adv_or x M c0 k with e | ⟨a,b⟩
 ·exact h.keep c1 e (Int.le_refl _) rfl
 ·exact NC.led I hv hr a l.2 b
theorem lcT {st:List Int} {g:Gh} (h:Hist st g) {t s c:Int} {k n:Nat} (hl:g.lead t=some c) (hc:Cm st g s k n) (hs:s≤t):agree (g.T t) (g.T s) k:=by
 have kn:=hc.kn
 have n1:=hc.n1
 by_cases e:s=t
 ·rw [e] at n1 ⊢;exact agree.self (by omega)
 ·obtain ⟨q,hq⟩:=h.el t c hl
  have a:=lc h hc t.toNat t c (g.B t) q (Nat.le_refl _) (by omega) hq
  exact ((h.base t ⟨c,hl⟩).mono a.1).symm.trans a
theorem same_tm {st:List Int} {g:Gh} (h:Hist st g) {t:Int} (hl:g.led t) {L:List Entry} (hL:GL g L) {k:Nat} (h1:k≤L.length) (h2:k≤(g.T t).length) (ht:tm L k=tm (g.T t) k):agree L (g.T t) k:=by
 cases k with
 | zero=>exact ⟨Nat.zero_le _,Nat.zero_le _,by simp⟩
 | succ k=>
  rw [tm_succ,tm_succ] at ht
  obtain ⟨_,a⟩:=hL k h1
  obtain ⟨_,b⟩:=h.gl t hl k h2
  rw [← ht] at b
  exact a.trans b.symm
theorem ent_NC {st:List Int} {g:Gh} (h:Hist st g) {y:Node} (gl:GL g y.Log) (nc:NC st g y) (c0:0≤y.Commit) {m:Message} (mc:MC st g m) (te:m.Term=y.Term) (i0:0≤m.Index) (il:m.Index≤(y.Log.length:Int)) (ht:tv y m.Index=m.LogTerm) (mi:g.lead m.Term=some m.From∧m.From≠m.To∧∃k:Nat,m.Index=(k:Int)∧k+m.Entries.length≤(g.T m.Term).length∧m.Entries=((g.T m.Term).drop k).take m.Entries.length∧m.LogTerm=tm (g.T m.Term) k):comN y.Commit (m.Index+m.Entries.length) m.Commit≤(stoL y.Log m.Index.toNat m.Entries).length∧∀z:Node,z.Log=stoL y.Log m.Index.toNat m.Entries→z.Commit=comN y.Commit (m.Index+m.Entries.length) m.Commit→z.Term=y.Term→NC st g z:=by
 obtain ⟨a,_,k,k1,k2,k3,k4⟩:=mi
 have hl:g.led m.Term:=⟨_,a⟩
 have ek:m.Index.toNat=k:=by omega
 rw [tv_tm _ i0,k4,ek] at ht
 rw [ek]
 have ag:=same_tm h hl gl (show k≤y.Log.length by omega) (by omega) ht
 obtain ⟨s1,s2,_,_⟩:=sto h hl gl ag k2 k3
 have old:y.Commit≤0∨∃s kk n,Cm st g s kk n∧y.Commit≤(kk:Int)∧s≤y.Term∧agree (stoL y.Log k m.Entries) (g.T s) y.Commit.toNat:=by
  rcases nc with q | ⟨s,kk,n,b,c,d,e⟩
  ·exact .inl q
  ·have f:=lcT h a b (by omega)
   have f2:=f.mono (show y.Commit.toNat≤kk by omega)
   exact .inr ⟨s,kk,n,b,c,d,(s2 _ (e.trans f2.symm)).trans f2⟩
 have hlen:=s1.1
 have ol:y.Commit≤((stoL y.Log k m.Entries).length:Int):=by
  rcases old with q | ⟨s,kk,n,b,c,d,e⟩
  ·omega
  ·have:=e.1;omega
 have cm:comN y.Commit (m.Index+m.Entries.length) m.Commit=y.Commit∨(comN y.Commit (m.Index+m.Entries.length) m.Commit≤m.Index+m.Entries.length∧comN y.Commit (m.Index+m.Entries.length) m.Commit≤m.Commit∧0<comN y.Commit (m.Index+m.Entries.length) m.Commit):=by
  unfold comN
  by_cases q:y.Commit<(if m.Index+(m.Entries.length:Int)<m.Commit then m.Index+(m.Entries.length:Int) else m.Commit)
  ·rw [if_pos q]
   right
   split at q
   ·rw [if_pos (by assumption)];omega
   ·rw [if_neg (by assumption)];omega
  ·rw [if_neg q];exact .inl rfl
 rcases cm with e | ⟨e1,e2,e3⟩
 ·refine ⟨by omega,fun z zl zc zt=>?_⟩
  rcases old with q | ⟨s,kk,n,b,c,d,f⟩
  ·exact .inl (by omega)
  ·exact .inr ⟨s,kk,n,b,by omega,by omega,by rw [zl,zc,e];exact f⟩
 ·refine ⟨by omega,fun z zl zc zt=>?_⟩
  rcases mc with q | ⟨s,kk,n,b,c,d⟩
  ·omega
  ·have f:=lcT h a b d
   refine .inr ⟨s,kk,n,b,by omega,by omega,?_⟩
   rw [zl,zc]
   exact (s1.mono (by omega)).trans (f.mono (by omega))
structure RN (st:List Int) (g:Gh) (r:Node×List Message):Prop where
 n:NC st g r.1
 m:∀m∈r.2,MC st g m
theorem RN.nil {st:List Int} {g:Gh} {x:Node} (h:NC st g x):RN st g (x,[]):=⟨h,fun m hm=>absurd hm List.not_mem_nil⟩
theorem RN.zero {st:List Int} {g:Gh} {x:Node} {m:Message} (h:NC st g x) (hm:m.Commit=0):RN st g (x,[m]):=⟨h,fun m' q=>by rw [List.mem_singleton.1 q];exact MC.zero hm⟩
theorem told_MC {st:List Int} {g:Gh} {x:Node} (h:NC st g x) (M:List Int):∀m∈told x M,MC st g m:=fun m hm=>by
 obtain ⟨to,_,rfl⟩:=List.mem_map.1 hm
 exact h.msg rfl (Int.le_refl _)
theorem lead_RN {st:List Int} {g g':Gh} (e:Ext g g') {nd:Int→Node} (I:Inv st g' nd) {v:Int} {z:Node} (hv:nd v=withC (leadN z) (advC (leadN z) (mems z) (leadL z).length)) (h:NC st g z) (c0:0≤z.Commit) (c1:z.Commit≤z.Log.length):RN st g' (withC (leadN z) (advC (leadN z) (mems z) (leadL z).length),told (leadN z) (mems z)):=by
 have hl:=leadL_len z
 have ln:NC st g' (leadN z):=(h.ext e).mono rfl (Int.le_refl _) (by
  show agree (leadL z) z.Log z.Commit.toNat
  unfold leadL
  split
  ·exact ((agree.self (by omega)).app _).symm
  ·exact agree.self (by omega))
 exact ⟨NC.adv I hv rfl c0 (by show z.Commit≤((leadL z).length:Int);omega) (Nat.le_refl _) ln,told_MC ln _⟩
theorem win_RN {st:List Int} {g g':Gh} (e:Ext g g') {nd:Int→Node} (I:Inv st g' nd) {v:Int} {z:Node} (hv:nd v=(winR z).1) (h:NC st g z) (c0:0≤z.Commit) (c1:z.Commit≤z.Log.length):RN st g' (winR z):=by
 unfold winR at hv ⊢
 cases hm:mostB (hasB z.Votes) (mems z) with
 | true=>rw [hm] at hv;exact lead_RN e I hv h c0 c1
 | false=>exact RN.nil (h.ext e)
theorem tick_RN {st:List Int} {g g':Gh} (e:Ext g g') {nd:Int→Node} (I:Inv st g' nd) {v:Int} {x:Node} {d:Int} (hv:nd v=(tickR x d).1) (h:NC st g x) (c0:0≤x.Commit) (c1:x.Commit≤x.Log.length):RN st g' (tickR x d):=by
 have hE:∀a,NC st g (withE x a):=fun a=>h.keep c1 rfl (Int.le_refl _) rfl
 have same:∀a,RN st g' (withE x a,[]):=fun a=>RN.nil ((hE a).ext e)
 unfold tickR at hv ⊢
 cases hr:x.Role==2 with
 | true=>
  rw [hr] at hv
  cases hq:decide (te x<2) with
  | true=>exact same _
  | false=>exact ⟨(hE 0).ext e,told_MC ((hE 0).ext e) _⟩
 | false=>
  rw [hr] at hv
  cases h1:decide (te x<x.Wait) with
  | true=>exact same _
  | false=>
  rw [h1] at hv
  cases h2 : !hasB (mems x) x.Id with
  | true=>exact same _
  | false=>
  rw [h2] at hv
  cases h3:x.Term==1000000 with
  | true=>exact same _
  | false=>
  rw [h3] at hv
  have hv:nd v=(electR (withE x (te x)) d).1:=hv
  show RN st g' (electR (withE x (te x)) d)
  have hn:NC st g (electN (withE x (te x)) d):=h.keep c1 rfl (by show x.Term≤x.Term+1;omega) rfl
  unfold electR at hv ⊢
  cases hm:mostB (hasB [(withE x (te x)).Id]) (mems (withE x (te x))) with
  | true=>rw [hm] at hv;exact lead_RN e I hv hn c0 c1
  | false=>
   refine ⟨hn.ext e,fun m q=>?_⟩
   obtain ⟨to,_,rfl⟩:=List.mem_map.1 q
   exact MC.zero rfl
theorem prop_RN {st:List Int} {g g':Gh} (e:Ext g g') {nd:Int→Node} (I:Inv st g' nd) {v:Int} {x:Node} {k:Int} {d:ByteArray} (hv:nd v=(propR x k d).1) (hr:x.Role=2) (h:NC st g x) (c0:0≤x.Commit) (c1:x.Commit≤x.Log.length):RN st g' (propR x k d):=by
 have hlen:(propN x k d).Log.length=x.Log.length+1:=by show (x.Log++[_]).length=_;simp
 have hp:NC st g' (propN x k d):=(h.ext e).mono rfl (Int.le_refl _) ((agree.self (by omega)).app _).symm
 have ha:NC st g' (propR x k d).1:=NC.adv I hv hr c0 (by show x.Commit≤_;rw [hlen];omega) (Nat.le_refl _) hp
 exact ⟨ha,told_MC ha _⟩
theorem at_NC {st:List Int} {g:Gh} {x:Node} (m:Message) (h:NC st g x) (c0:0≤x.Commit) (c1:x.Commit≤x.Log.length):NC st g (atTerm x m):=by
 unfold atTerm
 by_cases q:m.Term > x.Term
 ·rw [decide_eq_true q]
  exact h.keep c1 rfl (by show x.Term≤m.Term;omega) rfl
 ·rw [decide_eq_false q];exact h
theorem take_RN {st:List Int} {g g':Gh} (e:Ext g g') (hh:Hist st g) {nd:Int→Node} (I:Inv st g' nd) {v:Int} {x:Node} {m:Message} (hv:nd v=(takeR x m).1) (gl:GL g x.Log) (h:NC st g x) (c0:0≤x.Commit) (c1:x.Commit≤x.Log.length) (mc:MC st g m) (mi:MI g m) (i0:0≤m.Index) (hk4:m.Kind=1∨m.Kind=2∨m.Kind=3∨m.Kind=4):RN st g' (takeR x m):=by
 have hy:=at_NC m h c0 c1
 have ly:(atTerm x m).Log=x.Log∧(atTerm x m).Commit=x.Commit∧m.Term≤(atTerm x m).Term:=by
  unfold atTerm
  by_cases q:m.Term > x.Term
  ·rw [decide_eq_true q];exact ⟨rfl,rfl,Int.le_refl _⟩
  ·rw [decide_eq_false q];exact ⟨rfl,rfl,by show m.Term≤x.Term;omega⟩
 unfold takeR at hv ⊢
 rw [← ly.1] at gl c1
 rw [← ly.2.1] at c0 c1
 have ty:=ly.2.2
 generalize atTerm x m=y at hv hy gl c0 c1 ty
 have same:=hy.ext e
 unfold kindR at hv ⊢
 cases k1:m.Kind==1 with
 | true=>
  rw [cond_true]
  unfold voteR
  refine RN.zero ?_ rfl
  cases grB y m with
  | true=>exact same.keep c1 rfl (Int.le_refl _) rfl
  | false=>exact same
 | false=>
 rw [k1] at hv
 cases k2:m.Kind==2 with
 | true=>
  rw [k2] at hv
  have hv:nd v=(votedR y m).1:=hv
  show RN st g' (votedR y m)
  unfold votedR at hv ⊢
  cases h1:y.Role != 1 with
  | true=>exact RN.nil same
  | false=>
  rw [h1] at hv
  cases h2:m.Term != y.Term with
  | true=>exact RN.nil same
  | false=>
  rw [h2] at hv
  cases h3 : !m.Ok with
  | true=>exact RN.nil same
  | false=>
  rw [h3] at hv
  cases h4 : !hasB y.Votes m.From with
  | true=>rw [h4] at hv;exact win_RN e I hv (hy.keep c1 rfl (Int.le_refl _) rfl) c0 c1
  | false=>rw [h4] at hv;exact win_RN e I hv hy c0 c1
 | false=>
 rw [k2] at hv
 cases k3:m.Kind==3 with
 | true=>
  rw [k3] at hv
  have hv:nd v=(entR y m).1:=hv
  show RN st g' (entR y m)
  unfold entR
  have fr:NC st g' (fresh y):=same.keep c1 rfl (Int.le_refl _) rfl
  by_cases q:m.Term<y.Term
  ·rw [decide_eq_true q];exact RN.zero same rfl
  rw [decide_eq_false q,cond_false]
  cases hb:decide (m.Index > (y.Log.length:Int))||(tv y m.Index != m.LogTerm) with
  | true=>exact RN.zero fr rfl
  | false=>
   rw [Bool.or_eq_false_iff,decide_eq_false_iff_not] at hb
   have ht:tv y m.Index=m.LogTerm:=by simpa using hb.2
   have en:=ent_NC hh gl hy c0 mc (by omega) i0 (by omega) ht (mi.k3 (beq_iff_eq.1 k3))
   exact RN.zero ((en.2 (withLC (fresh y) (stoL y.Log m.Index.toNat m.Entries) (comN y.Commit (m.Index+m.Entries.length) m.Commit)) rfl rfl rfl).ext e) rfl
 | false=>
  rw [k3] at hv
  have hv:nd v=(ansR y m).1:=hv
  show RN st g' (ansR y m)
  unfold ansR at hv ⊢
  cases h1:y.Role != 2 with
  | true=>exact RN.nil same
  | false=>
  rw [h1] at hv
  have r2:y.Role=2:=by simpa using h1
  cases h2:m.Term != y.Term with
  | true=>exact RN.nil same
  | false=>
  rw [h2] at hv
  cases h3:m.Ok with
  | true=>
   rw [h3] at hv
   exact RN.nil (NC.adv I hv r2 c0 c1 (Nat.le_refl _) (same.keep c1 rfl (Int.le_refl _) rfl))
  | false=>
   have bk:NC st g' (bkAns y m):=same.keep c1 rfl (Int.le_refl _) rfl
   refine ⟨bk,fun m' q=>?_⟩
   rw [List.mem_singleton.1 q]
   exact bk.msg rfl (Int.le_refl _)
end Mir.Y
