/- Raft: a candidate wins, a leader appends, a node takes entries. -/
import Derived.Test.YtcgniikapdcfmaaRCRFA
namespace Mir.Y
set_option linter.unusedVariables false
set_option linter.unusedSimpArgs false
open Go
theorem agree.app' {L M:List Entry} {k:Nat} (h:agree L M k) (X:List Entry):agree (L++X) M k:=(h.symm.app X).symm
theorem GL.snoc {g:Gh} {L:List Entry} {e:Entry} {t:Int} (hL:GL g L) (hl:g.led t) (he:e.Term=t) (hT:g.T t=L++[e]):GL g (L++[e]):=fun i hi=>by
 rw [List.length_append,List.length_singleton] at hi
 by_cases h:i<L.length
 ·rw [ex_app h]
  obtain ⟨a,b⟩:=hL i h
  exact ⟨a,b.app' _⟩
 ·have:i=L.length:=by omega
  subst this
  rw [ex_last,he,hT]
  exact ⟨hl,agree.self (by simp)⟩
theorem Inv.win {st:List Int} {g:Gh} {nd:Int→Node} (I:Inv st g nd) {v:Int} {x:Node} (hr:(nd v).Role=1) (most:mostB (hasB (nd v).Votes) (memL (nd v).Log st (nd v).Log.length)=true) (h1:x.Id=(nd v).Id) (h2:x.Start=(nd v).Start) (h3:x.Term=(nd v).Term) (h4:x.Vote=(nd v).Vote) (h6:x.Role=2) (hl:x.Log=(nd v).Log∨∃e,x.Log=(nd v).Log++[e]∧e.Term=x.Term∧(e.Kind==2)=false) (hm:∀j:Nat,j<7→ix x.Match j≤0) (hc:x.Commit=(nd v).Commit) (c1:(nd v).Commit≤(nd v).Log.length):∃g',Ext g g'∧Inv st g' (upd nd v x):=by
 have n:=I.ni v
 obtain ⟨k1,k2,k3⟩:=n.cand hr
 have w:=I.vi v _ v k1
 have glo:=w.gl
 rw [k2] at glo
 have lo:=w.lo
 rw [k2] at lo
 have ew:Elec st g x.Term x.Term v (nd v).Log (hasB (nd v).Votes):=by
  rw [h3]
  refine ⟨glo,lo,most,fun j hj=>I.hist.okc glo hj,fun u hu=>?_⟩
  have hv:=k3 u ((hasB_iff _ _).1 hu)
  have wu:=I.vi u _ v hv
  refine ⟨hv,wu.glv,by have:=wu.up;rwa [k2] at this,fun s hs=>wu.kept s hs⟩
 have none:∀c,g.lead x.Term≠some c:=fun c hcl=>by
  obtain ⟨q,hq⟩:=I.hist.el _ c hcl
  have e:=one I.hist (hq.weak (by omega)) ew
  subst e
  exact (I.ld _ c hcl).2 h3 hr
 have es:Elec st g x.Term (x.Term - 1) v (nd v).Log (hasB (nd v).Votes):=by
  refine ⟨ew.gl,ew.lo,ew.most,ew.cs,fun u hu=>⟨(ew.v u hu).1,(ew.v u hu).2.1,(ew.v u hu).2.2.1,fun s hs k hk=>?_⟩⟩
  rcases (ew.v u hu).2.2.2 s hs k hk with a | ⟨u',a,b,c,d⟩
  ·exact .inl a
  ·refine .inr ⟨u',a,?_,c,d⟩
   rcases Int.lt_or_le u' x.Term with q | q
   ·omega
   ·exfalso
    obtain ⟨c',hc'⟩:=c
    rw [show u'=x.Term by omega] at hc'
    exact none c' hc'
 have lo':∀i,i<(nd v).Log.length→(ex (nd v).Log i).Term<x.Term:=by rw [h3];exact lo
 have hp:agree (nd v).Log x.Log (nd v).Log.length:=by
  rcases hl with e | ⟨e,he,_⟩
  ·rw [e];exact agree.self (Nat.le_refl _)
  ·rw [he];exact (agree.self (Nat.le_refl _)).app _
 have hf:Fresh g v x.Term (nd v).Log x.Log:=.inl none
 have e:=win_ext I h3.symm hf
 have own:∀i,(nd v).Log.length≤i→i<x.Log.length→(ex x.Log i).Term=x.Term∧((ex x.Log i).Kind==2)=false:=fun i i1 i2=>by
  rcases hl with e | ⟨e,he,ht,hk⟩
  ·rw [e] at i2;omega
  ·rw [he,List.length_append,List.length_singleton] at i2
   rw [he,show i=(nd v).Log.length by omega,ex_last];exact ⟨ht,hk⟩
 have gl:GL (g.win v x.Term (nd v).Log x.Log) x.Log:=by
  rcases hl with q | ⟨e',he,ht,hk⟩
  ·have:=glo.ext e
   rw [← q] at this ⊢;exact this
  ·rw [he]
   have e2:=e
   rw [he] at e2
   exact (glo.ext e2).snoc ⟨v,win_lead ..⟩ ht (win_T ..)
 refine ⟨_,I.grow hf h1 h2 h3 h4 h6 hp (fun j hj=>by have:=hm j hj;omega) (fun c0 ct=>?_) (by rw [h3];exact w.pos) gl hp lo' (fun i i1 i2=>(own i i1 i2).1) ⟨_,es⟩ (fun i i1 i2 i3=>by rw [(own i i1 i2).2] at i3;cases i3) (fun j hj=>?_)⟩
 ·exfalso
  rw [hc] at c0 ct
  have hk:(nd v).Commit.toNat≤(nd v).Log.length:=by omega
  rw [← (hp.mono hk).tm] at ct
  unfold tm at ct
  rw [if_neg (by omega)] at ct
  have:=lo' ((nd v).Commit.toNat - 1) (by omega)
  omega
 ·by_cases hj':j≤(nd v).Log.length
  ·rw [← (hp.mono hj').cfg];exact I.hist.okc glo hj'
  ·rcases hl with q | ⟨e',he,ht,hk⟩
   ·rw [q] at hj;omega
   ·rw [he,List.length_append,List.length_singleton] at hj
    have:j=(nd v).Log.length+1:=by omega
    have hk':=(own (nd v).Log.length (Nat.le_refl _) (by rw [he];simp)).2
    rw [this,memL,hk',cond_false,← hp.cfg]
    exact I.hist.okc glo (Nat.le_refl _)
theorem Inv.append {st:List Int} {g:Gh} {nd:Int→Node} (I:Inv st g nd) {v:Int} {x:Node} {e:Entry} (hr:(nd v).Role=2) (h1:x.Id=(nd v).Id) (h2:x.Start=(nd v).Start) (h3:x.Term=(nd v).Term) (h4:x.Vote=(nd v).Vote) (h6:x.Role=2) (hl:x.Log=(nd v).Log++[e]) (he:e.Term=x.Term) (hm:x.Match=(nd v).Match) (hc:x.Commit=(nd v).Commit) (c1:(nd v).Commit≤(nd v).Log.length)
  (hk:(e.Kind==2)=true→Okc st (bl e.Data e.Data.size)∧adj (memL (nd v).Log st (nd v).Log.length) (bl e.Data e.Data.size)∧∃k n,k≤n∧n≤(nd v).Log.length∧Cm st g x.Term k n∧∀j,k≤j→j≤(nd v).Log.length→memL (nd v).Log st j=memL (nd v).Log st (nd v).Log.length):∃g',Ext g g'∧Inv st g' (upd nd v x):=by
 have n:=I.ni v
 obtain ⟨l1,l2⟩:=n.lead hr
 rw [← h3] at l1 l2
 have hled:g.led x.Term:=⟨v,l1⟩
 have hf:Fresh g v x.Term (g.B x.Term) x.Log:=.inr ⟨l1,rfl,[e],by rw [l2,hl]⟩
 have ext:=win_ext I h3.symm hf
 have hp:agree (nd v).Log x.Log (nd v).Log.length:=by rw [hl];exact (agree.self (Nat.le_refl _)).app _
 have hb:=I.hist.base _ hled
 rw [l2] at hb
 have hlen:x.Log.length=(nd v).Log.length+1:=by rw [hl];simp
 have gl:GL (g.win v x.Term (g.B x.Term) x.Log) x.Log:=by
  have:=n.gl.ext ext
  have e2:=this.snoc ⟨v,win_lead ..⟩ he ((win_T ..).trans hl)
  rw [← hl] at e2;exact e2
 refine ⟨_,I.grow hf h1 h2 h3 h4 h6 hp (fun j hj=>by rw [hm,h3];exact n.mt hr j hj) (fun c0 ct=>?_) (I.hist.pos _ hled) gl (by have:=hb.app [e];rwa [← hl] at this) (I.hist.low _ hled) (fun i i1 i2=>?_) (I.hist.el _ v l1) (fun i i1 i2 i3=>?_) (fun j hj=>?_)⟩
 ·rw [hc] at c0 ct ⊢
  have hk':(nd v).Commit.toNat≤(nd v).Log.length:=by omega
  rw [← (hp.mono hk').tm,h3] at ct
  obtain ⟨k,q⟩:=n.com hr c0 ct
  rw [← h3] at q
  exact ⟨k,q.ext ext⟩
 ·by_cases hi:i<(nd v).Log.length
  ·have:=I.hist.own _ hled i i1 (by rw [l2];exact hi)
   rw [l2] at this
   rw [← hp.at hi];exact this
  ·rw [hl,show i=(nd v).Log.length by omega,ex_last];exact he
 ·by_cases hi:i<(nd v).Log.length
  ·rw [← hp.at hi] at i3
   obtain ⟨⟨k,n',a,b,c,d⟩,ad⟩:=I.hist.cf _ hled i i1 (by rw [l2];exact hi) (by rw [l2];exact i3)
   rw [l2] at d ad
   have cg:∀j,j≤i+1→memL ((g.win v x.Term (g.B x.Term) x.Log).T x.Term) st j=memL (nd v).Log st j:=fun j hj=>by rw [win_T,(hp.mono (show j≤_ by omega)).cfg]
   exact ⟨⟨k,n',a,b,c.ext ext,fun j j1 j2=>by rw [cg j (by omega),cg i (by omega)];exact d j j1 j2⟩,by rw [cg i (by omega),cg (i+1) (by omega)];exact ad⟩
  ·have hi':i=(nd v).Log.length:=by omega
   subst hi'
   have i3':(e.Kind==2)=true:=by rw [hl,ex_last] at i3;exact i3
   obtain ⟨_,ad,k,n',a,b,c,d⟩:=hk i3'
   have cg:∀j,j≤(nd v).Log.length→memL ((g.win v x.Term (g.B x.Term) x.Log).T x.Term) st j=memL (nd v).Log st j:=fun j hj=>by rw [win_T,(hp.mono hj).cfg]
   refine ⟨⟨k,n',a,b,c.ext ext,fun j j1 j2=>by rw [cg j j2,cg _ (Nat.le_refl _)];exact d j j1 j2⟩,?_⟩
   rw [cg _ (Nat.le_refl _),win_T,memL,i3,cond_true,hl,ex_last];exact ad
 ·by_cases hj':j≤(nd v).Log.length
  ·rw [← (hp.mono hj').cfg];exact I.hist.okc n.gl hj'
  ·have:j=(nd v).Log.length+1:=by omega
   rw [this,memL,hl,ex_last]
   cases hk2:e.Kind==2 with
   | true=>exact (hk hk2).1
   | false=>
    rw [cond_false]
    have:=I.hist.okc n.gl (Nat.le_refl _)
    rw [hp.cfg,hl] at this;exact this
theorem take_drop {T:List Entry} {k n d:Nat} (hd:d≤n):T.take (k+d)++(((T.drop k).take n).drop d)=T.take (k+n):=by
 rw [List.drop_take,List.drop_drop,show k+n=(k+d)+(n - d) by omega]
 exact List.take_add.symm
theorem sto {st:List Int} {g:Gh} (h:Hist st g) {t:Int} (hl:g.led t) {L es:List Entry} {k:Nat} (hL:GL g L) (hk:agree L (g.T t) k) (hn:k+es.length≤(g.T t).length) (he:es=((g.T t).drop k).take es.length):agree (stoL L k es) (g.T t) (k+es.length)∧(∀j,agree L (g.T t) j→agree (stoL L k es) (g.T t) j)∧GL g (stoL L k es)∧((∀i,i<L.length→(ex L i).Term≤t)→∀i,i<(stoL L k es).length→(ex (stoL L k es) i).Term≤t):=by
 obtain ⟨_,hle,hs,hst⟩:=stoD_all L k es es.length 0
 have el:stoL L k es=if stoD L k es es.length 0<es.length then L.take (k+stoD L k es es.length 0)++es.drop (stoD L k es es.length 0) else L:=rfl
 generalize stoD L k es es.length 0=d at hle hs hst el
 have ee:∀i,i<es.length→ex es i=ex (g.T t) (k+i):=fun i hi=>by
  have:ex es i=ex (((g.T t).drop k).take es.length) i:=by rw [← he]
  rw [this]
  unfold ex
  rw [List.getD_eq_getElem?_getD,List.getD_eq_getElem?_getD,List.getElem?_take,if_pos hi,List.getElem?_drop]
 have same:∀i,i<es.length→k+i<L.length→(ex L (k+i)).Term=(ex es i).Term→agree L (g.T t) (k+i+1):=fun i i1 i2 i3=>by
  obtain ⟨_,a⟩:=hL (k+i) i2
  obtain ⟨_,b⟩:=h.gl t hl (k+i) (by omega)
  rw [← ee i i1,← i3] at b
  exact a.trans b.symm
 have pre:∀i,i≤d→agree L (g.T t) (k+i):=fun i hi=>by
  cases i with
  | zero=>exact hk
  | succ i=>
   obtain ⟨s1,s2⟩:=stay_len (hs i (Nat.zero_le _) (by omega))
   rw [beq_iff_eq] at s2
   exact same i (by omega) s1 s2
 by_cases hd:d<es.length
 ·have e2:stoL L k es=(g.T t).take (k+es.length):=by
   rw [el,if_pos hd,(pre d (Nat.le_refl _)).2.2]
   have:es.drop d=((g.T t).drop k |>.take es.length).drop d:=by rw [← he]
   rw [this]
   exact take_drop (by omega)
  have tl:((g.T t).take (k+es.length)).length=k+es.length:=by rw [List.length_take];omega
  have tg:∀j,j≤k+es.length→agree ((g.T t).take (k+es.length)) (g.T t) j:=fun j hj=>agree.take hj hn
  rw [e2]
  refine ⟨tg _ (Nat.le_refl _),fun j hj=>?_,fun i hi=>?_,fun _ i hi=>?_⟩
  ·refine tg j ?_
   have hst:=hst (by omega)
   rcases Nat.lt_or_ge (k+d) L.length with hx | hx
   ·rcases Nat.lt_or_ge (k+d) j with hy | hy
    ·exfalso
     have:=hj.at hy
     unfold stay at hst
     rw [decide_eq_true hx,Bool.true_and,ee d hd,this] at hst
     simp at hst
    ·omega
   ·have:=hj.1;omega
  ·rw [tl] at hi
   have:=(tg _ (Nat.le_refl _)).at hi
   rw [this]
   obtain ⟨a,b⟩:=h.gl t hl i (by omega)
   exact ⟨a,(tg (i+1) (by omega)).trans b⟩
  ·rw [tl] at hi
   rw [(tg _ (Nat.le_refl _)).at hi]
   exact (h.mono _ _ (Nat.le_refl _) hl i i (Nat.le_refl _) (by omega)).2
 ·have e2:stoL L k es=L:=by rw [el,if_neg hd]
  have hde:d=es.length:=by omega
  rw [e2]
  exact ⟨by rw [← hde];exact pre d (Nat.le_refl _),fun j hj=>hj,hL,fun h=>h⟩
def Gh.took (g:Gh) (v t:Int) (n:Nat):Gh:={ g with A:=fun w u=>if w=v∧u=t then max (g.A w u) n else g.A w u }
theorem took_A (g:Gh) (v t:Int) (n:Nat):(g.took v t n).A v t=max (g.A v t) n:=if_pos ⟨rfl,rfl⟩
theorem took_A' (g:Gh) {v t w u:Int} (n:Nat) (h:¬ (w=v∧u=t)):(g.took v t n).A w u=g.A w u:=if_neg h
theorem Inv.take {st:List Int} {g:Gh} {nd:Int→Node} (I:Inv st g nd) {v c:Int} {x:Node} {k:Nat} {es:List Entry} (hc:g.lead x.Term=some c) (hcv:c≠v) (h1:x.Id=(nd v).Id) (h2:x.Start=(nd v).Start) (h3:x.Term=(nd v).Term) (h4:x.Vote=(nd v).Vote) (h6:x.Role=0) (hk:k≤(nd v).Log.length) (ht:tm (nd v).Log k=tm (g.T x.Term) k) (hn:k+es.length≤(g.T x.Term).length) (he:es=((g.T x.Term).drop k).take es.length) (hl:x.Log=stoL (nd v).Log k es):∃g',Ext g g'∧Inv st g' (upd nd v x)∧k+es.length≤g'.A v x.Term:=by
 have n:=I.ni v
 have hled:g.led x.Term:=⟨c,hc⟩
 have a0:agree (nd v).Log (g.T x.Term) k:=by
  cases k with
  | zero=>exact ⟨Nat.zero_le _,Nat.zero_le _,by simp⟩
  | succ k=>
   rw [tm_succ,tm_succ] at ht
   obtain ⟨_,a⟩:=n.gl k (by omega)
   obtain ⟨_,b⟩:=I.hist.gl _ hled k (by omega)
   rw [← ht] at b
   exact a.trans b.symm
 obtain ⟨s1,s2,s3,s4⟩:=sto I.hist hled n.gl a0 hn he
 rw [← hl] at s1 s2 s3 s4
 have e:Ext g (g.took v x.Term (k+es.length)):=by
  refine ⟨fun _ _ h=>h,fun t _=>⟨[],by simp [Gh.took]⟩,fun _ _=>rfl,fun _ _ _ h=>⟨h,rfl,rfl⟩,fun w u=>?_,fun w u h d c' hv=>?_⟩
  ·by_cases q:w=v∧u=x.Term
   ·obtain ⟨rfl,rfl⟩:=q;rw [took_A];omega
   ·rw [took_A' g _ q];exact Nat.le_refl _
  ·by_cases q:w=v∧u=x.Term
   ·obtain ⟨rfl,rfl⟩:=q;rw [h3];exact n.vote d c' hv
   ·rw [took_A' g _ q] at h;omega
 have o:Only v g (g.took v x.Term (k+es.length)):=⟨fun _ _=>rfl,fun w hw=>funext fun u=>took_A' g _ fun h=>hw h.1,fun _ _=>rfl,fun _ _ _ _=>rfl⟩
 refine ⟨_,e,⟨I.hist.same e I.ack rfl rfl rfl,fun w=>?_,fun u d hd=>?_,fun u d hd=>?_,fun w u d hv=>(I.vi w u d hv).ext I e (upd_term (by omega)) hv,fun w u ha=>?_⟩,by rw [took_A];omega⟩
 ·by_cases ew:w=v
  ·subst ew
   rw [upd_same]
   refine ⟨h1.trans n.id,h2.trans n.start,by have:=n.t0;omega,s3.ext e,s4 (fun i hi=>by rw [h3];exact n.tle i hi),by rw [h3];exact n.vote,by rw [h3,h4];exact n.cur,by rw [h3,h4];exact n.cur2,fun t ha=>?_,fun s j hj=>?_,fun hr=>(by rw [h6] at hr;cases hr),fun hr=>(by rw [h6] at hr;cases hr),fun hr=>(by rw [h6] at hr;cases hr),fun hr=>(by rw [h6] at hr;cases hr)⟩
   ·by_cases q:t=x.Term
    ·rw [q];exact Int.le_refl _
    ·rw [took_A' g _ fun h=>q h.2] at ha;rw [h3];exact n.ack t ha
   ·by_cases q:s=x.Term
    ·subst q
     rw [took_A] at hj
     left
     show agree x.Log (g.T x.Term) j
     by_cases hj2:j≤k+es.length
     ·exact s1.mono hj2
     ·rcases n.kept x.Term j (by omega) with a | ⟨u,u1,u2,_⟩
      ·exact s2 j a
      ·omega
    ·rw [took_A' g _ fun h=>q h.2] at hj
     by_cases j0:j=0
     ·rw [j0];exact .inl ⟨Nat.zero_le _,Nat.zero_le _,by simp⟩
     have hs:=n.ack s (by omega)
     rcases n.kept s j hj with a | ⟨u,u1,u2,u3⟩
     ·by_cases hb:agree (g.B x.Term) (g.T s) j
      ·have b1:agree (g.T x.Term) (g.T s) j:=((I.hist.base _ hled).mono hb.1).symm.trans hb
       exact .inl ((s2 j (a.trans b1.symm)).trans b1)
      ·exact .inr ⟨x.Term,by omega,Int.le_refl _,hled,hb⟩
     ·exact .inr ⟨u,u1,by omega,u3⟩
  ·rw [upd_other nd x ew];exact NI.other I e o ew
 ·have hd:g.lead u=some d:=hd
  by_cases ew:d=v
  ·subst ew;rw [upd_same]
   exact ⟨by rw [h3];exact (I.ld u d hd).1,fun _=>by rw [h6];decide⟩
  ·rw [upd_other nd x ew];exact I.ld u d hd
 ·have hd:g.lead u=some d:=hd
  have:¬ (d=v∧u=x.Term):=fun ⟨a,b⟩=>by
   rw [b,hc] at hd;cases hd;exact hcv a
  rw [took_A' g _ this];exact I.self u d hd
 ·by_cases q:w=v∧u=x.Term
  ·obtain ⟨rfl,rfl⟩:=q
   rw [took_A] at ha ⊢
   refine ⟨hled,?_⟩
   show max (g.A w x.Term) (k+es.length)≤(g.T x.Term).length
   rcases Nat.eq_zero_or_pos (g.A w x.Term) with z | z
   ·omega
   ·have:=(I.ack w x.Term z).2;omega
  ·rw [took_A' g _ q] at ha ⊢;exact I.ack w u ha
theorem upd_upd (nd:Int→Node) (v:Int) (x y:Node):upd (upd nd v x) v y=upd nd v y:=by
 funext w
 unfold upd
 by_cases h:w=v
 ·rw [if_pos h,if_pos h]
 ·rw [if_neg h,if_neg h,if_neg h]
theorem tv_tm (x:Node) {a:Int} (h:0≤a):tv x a=tm x.Log a.toNat:=by
 unfold tv tm
 by_cases h0:a=0
 ·rw [h0];rfl
 ·rw [show (a==0)=false by rw [beq_eq_false_iff_ne];exact h0,cond_false,if_neg (by omega),show (a - 1).toNat=a.toNat - 1 by omega]
theorem Ext.trans {g g' g'':Gh} (h:Ext g g') (h2:Ext g' g''):Ext g g'':=by
 refine ⟨fun t c hc=>h2.lead t c (h.lead t c hc),fun t hl=>?_,fun t hl=>(h2.B t (h.led hl)).trans (h.B t hl),fun v t c hv=>?_,fun v t=>Nat.le_trans (h.A v t) (h2.A v t),fun v t hlt u c hv=>?_⟩
 ·obtain ⟨X,e⟩:=h.T t hl
  obtain ⟨Y,e2⟩:=h2.T t (h.led hl)
  exact ⟨X++Y,by rw [e2,e,List.append_assoc]⟩
 ·obtain ⟨a,b,c'⟩:=h.vote v t c hv
  obtain ⟨a2,b2,c2⟩:=h2.vote v t c a
  exact ⟨a2,b2.trans b,c2.trans c'⟩
 ·rcases Nat.lt_or_ge (g.A v t) (g'.A v t) with q | q
  ·exact h.late v t q u c hv
  ·exact h2.late v t (by omega) u c (h.vote v u c hv).1
theorem msg_MI {st:List Int} {g:Gh} {nd:Int→Node} (I:Inv st g nd) {v:Int} (hr:(nd v).Role=2) (hT:Tells (nd v)) {x:Node} (h1:x.Id=(nd v).Id) (h2:x.Term=(nd v).Term) (h3:x.Log=(nd v).Log) (h4:x.Next=(nd v).Next) {to:Int} (t0:0≤to) (t6:to≤6) (hne:to≠v):MI g (msgTo x to):=by
 have n:=I.ni v
 obtain ⟨a,b⟩:=n.lead hr
 have hn:=hT.nx to.toNat (by omega)
 rw [← h4,← h3] at hn
 have hx:x.Id=v:=h1.trans n.id
 refine ⟨fun h=>absurd h (by show ¬ (3:Int)=1;decide),fun h=>absurd h (by show ¬ (3:Int)=2;decide),fun _=>?_,fun h=>absurd h (by show ¬ (3:Int)=4;decide)⟩
 have e1:(msgTo x to).Term=(nd v).Term:=h2
 have e2:(msgTo x to).Entries=(nd v).Log.drop (ix x.Next to.toNat - 1).toNat:=by show x.Log.drop _=_;rw [h3]
 rw [e1,e2,b]
 refine ⟨by rw [a];show some v=some x.Id;rw [hx],by show x.Id≠to;rw [hx];exact fun h=>hne h.symm,(ix x.Next to.toNat - 1).toNat,by show ix x.Next to.toNat - 1=_;omega,?_,?_,?_⟩
 ·rw [h3] at hn;rw [List.length_drop];omega
 ·rw [List.take_length]
 ·show tv x (ix x.Next to.toNat - 1)=_
  rw [tv_tm x (by omega),h3]
theorem told_MI {st:List Int} {g:Gh} {nd:Int→Node} (I:Inv st g nd) {v:Int} (hr:(nd v).Role=2) (hT:Tells (nd v)) {x:Node} (h1:x.Id=(nd v).Id) (h2:x.Term=(nd v).Term) (h3:x.Log=(nd v).Log) (h4:x.Next=(nd v).Next) {M:List Int} (hM:Mem M):∀m∈told x M,MI g m:=fun m hm=>by
 obtain ⟨to,h,rfl⟩:=List.mem_map.1 hm
 obtain ⟨a,b⟩:=List.mem_filter.1 h
 obtain ⟨c,d⟩:=hM.lo to a
 refine msg_MI I hr hT h1 h2 h3 h4 c d fun e=>?_
 have n:=I.ni v
 unfold notId at b
 rw [h1,n.id,e] at b
 simp at b
theorem adv_Cm {st:List Int} {g:Gh} {nd:Int→Node} (I:Inv st g nd) {v:Int} (hr:(nd v).Role=2) (hM:Mem (memL (nd v).Log st (nd v).Log.length)):∀k,k≤(nd v).Log.length→0<advC (nd v) (memL (nd v).Log st (nd v).Log.length) k→tm (nd v).Log (advC (nd v) (memL (nd v).Log st (nd v).Log.length) k).toNat=(nd v).Term→∃n,Cm st g (nd v).Term (advC (nd v) (memL (nd v).Log st (nd v).Log.length) k).toNat n:=by
 have n:=I.ni v
 obtain ⟨l1,l2⟩:=n.lead hr
 intro k
 induction k with
 | zero=>intro _;rw [advC];exact n.com hr
 | succ k ih=>
  intro hk
  rw [advC]
  cases h1:decide (((k+1:Nat):Int) > (nd v).Commit) with
  | false=>exact n.com hr
  | true=>
  rw [cond_true]
  cases h2:(ex (nd v).Log k).Term==(nd v).Term with
  | false=>exact n.com hr
  | true=>
  rw [cond_true]
  cases h3:mostB (hasIt (nd v) ((k+1:Nat):Int)) (memL (nd v).Log st (nd v).Log.length) with
  | false=>exact ih (by omega)
  | true=>
  rw [cond_true]
  intro _ _
  rw [Int.toNat_natCast]
  refine ⟨(nd v).Log.length,⟨v,l1⟩,by omega,hk,by rw [l2];exact Nat.le_refl _,by rw [l2,tm_succ];exact beq_iff_eq.1 h2,fun j=>hasIt (nd v) ((k+1:Nat):Int) j&&decide (0≤j∧j≤6),?_,fun j hj=>?_⟩
  ·rw [l2,← h3]
   refine mostB_congr fun j hj=>?_
   rw [decide_eq_true (hM.lo j hj),Bool.and_true]
  ·rw [Bool.and_eq_true,decide_eq_true_eq] at hj
   obtain ⟨h4,h5,h6⟩:=hj
   unfold hasIt at h4
   rw [Bool.or_eq_true,beq_iff_eq,decide_eq_true_eq] at h4
   rcases h4 with h4 | h4
   ·rw [h4,n.id,I.self _ v l1,l2];exact hk
   ·have:=n.mt hr j.toNat (by omega)
    rw [show ((j.toNat:Nat):Int)=j by omega] at this
    omega
theorem win_step {st:List Int} {g:Gh} {nd:Int→Node} (I:Inv st g nd) {v:Int} (hg:GN (nd v)) (hr:(nd v).Role=1) (most:mostB (hasB (nd v).Votes) (mems (nd v))=true):∃g',Ext g g'∧Inv st g' (upd nd v (winR (nd v)).1)∧∀m∈(winR (nd v)).2,MI g' m:=by
 have n:=I.ni v
 have em:mems (nd v)=memL (nd v).Log st (nd v).Log.length:=by unfold mems;rw [n.start]
 have hM:=hg.M
 unfold winR
 rw [most,cond_true]
 rw [em] at most
 obtain ⟨g',e,I'⟩:=I.win (x:=leadN (nd v)) hr most rfl rfl rfl rfl rfl (by
  show leadL (nd v)=(nd v).Log∨∃e,leadL (nd v)=(nd v).Log++[e]∧e.Term=(nd v).Term∧_
  unfold leadL
  split
  ·exact .inr ⟨_,rfl,rfl,rfl⟩
  ·exact .inl rfl) (fun j hj=>by show ix (List.replicate 7 0) j≤0;rw [rep7 _ hj];exact Int.le_refl _) rfl hg.c1
 have hl:=hg.lead
 have eu:upd nd v (leadN (nd v)) v=leadN (nd v):=upd_same ..
 have hml:mems (leadN (nd v))=memL (leadN (nd v)).Log st (leadN (nd v)).Log.length:=by show memL _ (nd v).Start _=_;rw [n.start]
 have hml2:mems (nd v)=memL (leadN (nd v)).Log st (leadN (nd v)).Log.length:=by rw [← hml,mems_lead]
 have r2:(upd nd v (leadN (nd v)) v).Role=2:=by rw [eu];rfl
 have n':=I'.ni v
 rw [eu] at n'
 have led:=I'.led (v:=v) (x:=withC (leadN (nd v)) (advC (leadN (nd v)) (mems (nd v)) (leadL (nd v)).length)) (by rw [eu];rfl) (by rw [eu];rfl) (by rw [eu];rfl) (by rw [eu];rfl) (by rw [eu];rfl) (by rw [eu];rfl) r2 (fun j hj=>n'.mt rfl j hj) (fun c0 ct=>by
  have:=adv_Cm I' r2 (by rw [eu,← hml2];exact hM) (leadL (nd v)).length (by rw [eu];exact Nat.le_refl _)
  rw [eu,← hml2] at this
  exact this c0 ct)
 rw [upd_upd] at led
 refine ⟨g',e,led,?_⟩
 exact told_MI I' r2 (by rw [eu];exact hl.tells) (by rw [eu]) (by rw [eu]) (by rw [eu]) (by rw [eu]) hM
theorem tick_step {st:List Int} {g:Gh} {nd:Int→Node} (I:Inv st g nd) {v:Int} (hv:v≠-1) (hg:GN (nd v)) (d:Int):∃g',Ext g g'∧Inv st g' (upd nd v (tickR (nd v) d).1)∧∀m∈(tickR (nd v) d).2,MI g' m:=by
 have n:=I.ni v
 have none:∀m∈([]:List Message),MI g m:=fun m hm=>absurd hm List.not_mem_nil
 have frE:∀e,Inv st g (upd nd v (withE (nd v) e)):=fun e=>I.fr rfl rfl rfl rfl rfl (.inr ⟨rfl,rfl,rfl,rfl⟩)
 have same:∀e,∃g',Ext g g'∧Inv st g' (upd nd v (withE (nd v) e))∧∀m∈([]:List Message),MI g' m:=fun e=>⟨g,Ext.rfl' g,frE e,none⟩
 unfold tickR
 cases hr:(nd v).Role==2 with
 | true=>
  rw [cond_true]
  cases decide (te (nd v)<2) with
  | true=>exact same _
  | false=>
   have r2:(nd v).Role=2:=beq_iff_eq.1 hr
   exact ⟨g,Ext.rfl' g,frE 0,told_MI I r2 hg.tells rfl rfl rfl rfl hg.M⟩
 | false=>
  rw [cond_false]
  cases decide (te (nd v)<(nd v).Wait) with
  | true=>exact same _
  | false=>
  cases hasB (mems (nd v)) (nd v).Id with
  | false=>exact same _
  | true=>
  cases (nd v).Term==1000000 with
  | true=>exact same _
  | false=>
  show ∃g',Ext g g'∧Inv st g' (upd nd v (electR (withE (nd v) (te (nd v))) d).1)∧∀m∈(electR (withE (nd v) (te (nd v))) d).2,MI g' m
  have gc:GN (electN (withE (nd v) (te (nd v))) d):=(hg.withE _).elect d
  obtain ⟨g',e,I'⟩:=I.stand (x:=electN (withE (nd v) (te (nd v))) d) hv rfl rfl rfl n.id rfl rfl (by show [(nd v).Id]=[v];rw [n.id])
  have eu:upd nd v (electN (withE (nd v) (te (nd v))) d) v=electN (withE (nd v) (te (nd v))) d:=upd_same ..
  have n':=I'.ni v
  rw [eu] at n'
  unfold electR
  cases hq:mostB (hasB [(withE (nd v) (te (nd v))).Id]) (mems (withE (nd v) (te (nd v)))) with
  | true=>
   obtain ⟨g2,e2,I2,m2⟩:=win_step I' (v:=v) (by rw [eu];exact gc) (by rw [eu];rfl) (by rw [eu];exact hq)
   rw [eu,upd_upd] at I2
   rw [eu] at m2
   have ew:winR (electN (withE (nd v) (te (nd v))) d)=(withC (leadN (electN (withE (nd v) (te (nd v))) d)) (advC (leadN (electN (withE (nd v) (te (nd v))) d)) (mems (withE (nd v) (te (nd v)))) (leadL (electN (withE (nd v) (te (nd v))) d)).length),told (leadN (electN (withE (nd v) (te (nd v))) d)) (mems (withE (nd v) (te (nd v))))):=by
    unfold winR
    have:mostB (hasB (electN (withE (nd v) (te (nd v))) d).Votes) (mems (electN (withE (nd v) (te (nd v))) d))=true:=hq
    rw [this,cond_true];rfl
   rw [ew] at I2 m2
   exact ⟨g2,e.trans e2,I2,m2⟩
  | false=>
   refine ⟨g',e,I',fun m hm=>?_⟩
   obtain ⟨to,_,rfl⟩:=List.mem_map.1 hm
   obtain ⟨c1,c2,_⟩:=n'.cand rfl
   refine ⟨fun _=>?_,fun h=>absurd h (by show ¬ (1:Int)=2;decide),fun h=>absurd h (by show ¬ (1:Int)=3;decide),fun h=>absurd h (by show ¬ (1:Int)=4;decide)⟩
   have ei:(voteM (electN (withE (nd v) (te (nd v))) d) to).From=v:=n.id
   have et:(voteM (electN (withE (nd v) (te (nd v))) d) to).Term=(electN (withE (nd v) (te (nd v))) d).Term:=rfl
   rw [ei,et,c2]
   exact ⟨c1,rfl,tv_tm (electN (withE (nd v) (te (nd v))) d) (by omega)⟩
theorem upd_self (nd:Int→Node) (v:Int):upd nd v (nd v)=nd:=by
 funext w
 unfold upd
 by_cases h:w=v
 ·rw [if_pos h,h]
 ·rw [if_neg h]
theorem MI.off {g:Gh} {m:Message} (hk:m.Kind=2∨m.Kind=4) (ho:m.Ok=false):MI g m:=by
 refine ⟨fun h=>?_,fun _ h=>?_,fun h=>?_,fun _ h=>?_⟩
 ·rcases hk with e | e<;>rw [e] at h<;>cases h
 ·rw [ho] at h;cases h
 ·rcases hk with e | e<;>rw [e] at h<;>cases h
 ·rw [ho] at h;cases h
def Stp (st:List Int) (g:Gh) (nd:Int→Node) (v:Int) (r:Node×List Message):Prop:=∃g',Ext g g'∧Inv st g' (upd nd v r.1)∧∀m∈r.2,MI g' m
theorem Stp.none {st:List Int} {g:Gh} {nd:Int→Node} {v:Int} {x:Node} (I:Inv st g (upd nd v x)):Stp st g nd v (x,[]):=⟨g,Ext.rfl' g,I,fun m hm=>absurd hm List.not_mem_nil⟩
theorem Stp.one {st:List Int} {g:Gh} {nd:Int→Node} {v:Int} {x:Node} {m:Message} (I:Inv st g (upd nd v x)) (hm:MI g m):Stp st g nd v (x,[m]):=⟨g,Ext.rfl' g,I,fun m' h=>by rw [show m'=m from List.mem_singleton.1 h];exact hm⟩
theorem Stp.stay {st:List Int} {g:Gh} {nd:Int→Node} (I:Inv st g nd) (v:Int):Stp st g nd v (nd v,[]):=Stp.none (by rw [upd_self];exact I)
theorem vote_step {st:List Int} {g:Gh} {nd:Int→Node} (I:Inv st g nd) {v:Int} {m:Message} (hf:m.From≠-1) (mi:m.Kind=1→g.vote m.From m.Term=some m.From∧m.Index=((g.CL m.From m.Term).length:Int)∧m.LogTerm=tm (g.CL m.From m.Term) (g.CL m.From m.Term).length) (hk:m.Kind=1):Stp st g nd v (voteR (nd v) m):=by
 have n:=I.ni v
 unfold voteR
 cases hg:grB (nd v) m with
 | false=>exact Stp.one (by rw [cond_false,upd_self];exact I) (MI.off (.inl rfl) rfl)
 | true=>
  rw [cond_true]
  unfold grB at hg
  rw [Bool.and_eq_true,Bool.and_eq_true,Bool.or_eq_true,beq_iff_eq,beq_iff_eq,beq_iff_eq] at hg
  obtain ⟨ht,hv,hu⟩:=hg
  obtain ⟨a,b,c⟩:=mi hk
  rw [ht] at a b c
  have up:upto (nd v).Log (g.CL m.From (nd v).Term):=by
   unfold upB at hu
   rw [tv_tm (nd v) (by omega),Int.toNat_natCast,Bool.or_eq_true,Bool.and_eq_true,decide_eq_true_eq,beq_iff_eq,decide_eq_true_eq,b,c] at hu
   rcases hu with h | ⟨h,h2⟩
   ·exact .inl h
   ·exact .inr ⟨h.symm,by omega⟩
  by_cases h1:(nd v).Vote = -1
  ·obtain ⟨g',e,I',w⟩:=I.give (x:=voteN (nd v) m.From) hf h1 rfl rfl rfl rfl rfl rfl rfl rfl a up
   refine ⟨g',e,I',fun m' h=>?_⟩
   rw [List.mem_singleton.1 h]
   refine ⟨fun h=>absurd h (by show ¬ (2:Int)=1;decide),fun _ _=>?_,fun h=>absurd h (by show ¬ (2:Int)=3;decide),fun h=>absurd h (by show ¬ (2:Int)=4;decide)⟩
   show g'.vote (nd v).Id (nd v).Term=some m.From
   rw [n.id];exact w
  ·have h2:(nd v).Vote=m.From:=by
    rcases hv with h | h
    ·exact absurd h h1
    ·exact h
   refine Stp.one (I.fr (x:=voteN (nd v) m.From) rfl rfl rfl h2.symm rfl (.inr ⟨rfl,rfl,rfl,rfl⟩)) ?_
   refine ⟨fun h=>absurd h (by show ¬ (2:Int)=1;decide),fun _ _=>?_,fun h=>absurd h (by show ¬ (2:Int)=3;decide),fun h=>absurd h (by show ¬ (2:Int)=4;decide)⟩
   show g.vote (nd v).Id (nd v).Term=some m.From
   rw [n.id,← h2];exact n.cur2 h1
theorem win_or {st:List Int} {g:Gh} {nd:Int→Node} (I:Inv st g nd) {v:Int} (hg:GN (nd v)) (hr:(nd v).Role=1):Stp st g nd v (winR (nd v)):=by
 cases h:mostB (hasB (nd v).Votes) (mems (nd v)) with
 | true=>exact win_step I hg hr h
 | false=>
  have:winR (nd v)=(nd v,[]):=by unfold winR;rw [h];rfl
  rw [this];exact Stp.stay I v
theorem voted_step {st:List Int} {g:Gh} {nd:Int→Node} (I:Inv st g nd) {v:Int} (hg:GT (nd v)) {m:Message} (mi:m.Ok=true→g.vote m.From m.Term=some v):Stp st g nd v (votedR (nd v) m):=by
 have n:=I.ni v
 unfold votedR
 cases h1:(nd v).Role != 1 with
 | true=>exact Stp.stay I v
 | false=>
 cases h2:m.Term != (nd v).Term with
 | true=>exact Stp.stay I v
 | false=>
 cases h3:m.Ok with
 | false=>exact Stp.stay I v
 | true=>
 have r1:(nd v).Role=1:=by simpa using h1
 have ht:m.Term=(nd v).Term:=by simpa using h2
 have hv:=mi h3
 rw [ht] at hv
 simp only [Bool.not_true,cond_false]
 cases hasB (nd v).Votes m.From with
 | true=>exact win_or I hg.g r1
 | false=>
  show Stp st g nd v (winR (withV (nd v) (insV (nd v).Votes m.From)))
  have h7:(nd v).Votes.length≤7:=(mem_of hg.vt).len
  have gz:=hg.g.withV (v:=insV (nd v).Votes m.From) (by rw [insV_len];simp only [M20];omega)
  have I2:=I.votes (x:=withV (nd v) (insV (nd v).Votes m.From)) rfl rfl rfl rfl rfl rfl r1 (fun u hu=>by
   have hu:u∈insV (nd v).Votes m.From:=hu
   unfold insV at hu
   rcases List.mem_append.1 hu with hu | hu
   ·rcases List.mem_append.1 hu with hu | hu
    ·exact (n.cand r1).2.2 u (List.mem_of_mem_take hu)
    ·rw [List.mem_singleton.1 hu];exact hv
   ·exact (n.cand r1).2.2 u (List.mem_of_mem_drop hu))
  have eu:upd nd v (withV (nd v) (insV (nd v).Votes m.From)) v=withV (nd v) (insV (nd v).Votes m.From):=upd_same ..
  obtain ⟨g',e,I',mm⟩:=win_or I2 (v:=v) (by rw [eu];exact gz) (by rw [eu];exact r1)
  rw [eu,upd_upd] at I'
  rw [eu] at mm
  exact ⟨g',e,I',mm⟩
theorem ent_step {st:List Int} {g:Gh} {nd:Int→Node} (I:Inv st g nd) {v:Int} {m:Message} (hto:m.To=v) (ht:m.Term≤(nd v).Term) (i0:0≤m.Index) (mi:g.lead m.Term=some m.From∧m.From≠m.To∧∃k:Nat,m.Index=(k:Int)∧k+m.Entries.length≤(g.T m.Term).length∧m.Entries=((g.T m.Term).drop k).take m.Entries.length∧m.LogTerm=tm (g.T m.Term) k):Stp st g nd v (entR (nd v) m):=by
 have n:=I.ni v
 unfold entR
 by_cases h1:m.Term<(nd v).Term
 ·rw [decide_eq_true h1,cond_true]
  exact Stp.one (by rw [upd_self];exact I) (MI.off (.inr rfl) rfl)
 rw [decide_eq_false h1,cond_false]
 have te:m.Term=(nd v).Term:=by omega
 have fr:Inv st g (upd nd v (fresh (nd v))):=I.fr rfl rfl rfl rfl rfl (.inl rfl)
 cases h2:decide (m.Index > ((nd v).Log.length:Int))||(tv (nd v) m.Index != m.LogTerm) with
 | true=>exact Stp.one fr (MI.off (.inr rfl) rfl)
 | false=>
  rw [cond_false]
  rw [Bool.or_eq_false_iff,decide_eq_false_iff_not] at h2
  obtain ⟨h2,h3⟩:=h2
  have h3:tv (nd v) m.Index=m.LogTerm:=by simpa using h3
  obtain ⟨a,b,k,k1,k2,k3,k4⟩:=mi
  rw [te] at a k2 k3 k4
  rw [tv_tm _ i0,k4] at h3
  have ek:m.Index.toNat=k:=by omega
  rw [ek] at h3 ⊢
  obtain ⟨g',e,I',w⟩:=I.take (x:=withLC (fresh (nd v)) (stoL (nd v).Log k m.Entries) (comN (nd v).Commit (m.Index+m.Entries.length) m.Commit)) a (by rw [← hto];exact b) rfl rfl rfl rfl rfl (by omega) h3 k2 k3 rfl
  refine ⟨g',e,I',fun m' h=>?_⟩
  rw [show m'=goodM (nd v) m from List.mem_singleton.1 h]
  refine ⟨fun h=>absurd h (by show ¬ (4:Int)=1;decide),fun h=>absurd h (by show ¬ (4:Int)=2;decide),fun h=>absurd h (by show ¬ (4:Int)=3;decide),fun _ _=>?_⟩
  show m.Index+(m.Entries.length:Int)≤(g'.A (nd v).Id (nd v).Term:Int)
  have w:k+m.Entries.length≤g'.A v (nd v).Term:=w
  rw [n.id,k1];omega
theorem ans_step {st:List Int} {g:Gh} {nd:Int→Node} (I:Inv st g nd) {v:Int} (hg:GT (nd v)) {m:Message} (f0:0≤m.From) (f6:m.From≤6) (hne:m.From≠v) (i0:0≤m.Index) (mi:m.Ok=true→m.Index≤g.A m.From m.Term):Stp st g nd v (ansR (nd v) m):=by
 have n:=I.ni v
 unfold ansR
 cases h1:(nd v).Role != 2 with
 | true=>exact Stp.stay I v
 | false=>
 cases h2:m.Term != (nd v).Term with
 | true=>exact Stp.stay I v
 | false=>
 have r2:(nd v).Role=2:=by simpa using h1
 have ht:m.Term=(nd v).Term:=by simpa using h2
 rw [cond_false,cond_false]
 cases h3:m.Ok with
 | false=>
  rw [cond_false]
  have gb:=hg.bkAns (m:=m) f0 f6 i0
  have I2:Inv st g (upd nd v (bkAns (nd v) m)):=I.fr rfl rfl rfl rfl rfl (.inr ⟨rfl,rfl,rfl,rfl⟩)
  have eu:upd nd v (bkAns (nd v) m) v=bkAns (nd v) m:=upd_same ..
  exact Stp.one I2 (msg_MI I2 (v:=v) (by rw [eu];exact r2) (by rw [eu];exact gb.tells) (by rw [eu]) (by rw [eu]) (by rw [eu]) (by rw [eu]) f0 f6 hne)
 | true=>
  rw [cond_true]
  have mi:=mi h3
  rw [ht] at mi
  have hmt:=n.mt r2 m.From.toNat (by omega)
  rw [show ((m.From.toNat:Nat):Int)=m.From by omega] at hmt
  have bm:mtV (nd v) m≤g.A m.From (nd v).Term:=by
   unfold mtV;split<;>split<;>omega
  obtain ⟨_,_,ga⟩:=hg.okAns f0 f6 i0
  have I2:=I.led (x:=okAns (nd v) m) rfl rfl rfl rfl rfl rfl r2 (fun j hj=>by
   show ix ((nd v).Match.set m.From.toNat (mtV (nd v) m)) j≤_
   rw [ix_set (by rw [hg.g.m7];omega)]
   split
   ·rename_i e
    rw [e,show ((m.From.toNat:Nat):Int)=m.From by omega];exact bm
   ·exact n.mt r2 j hj) (fun c0 ct=>n.com r2 c0 ct)
  have eu:upd nd v (okAns (nd v) m) v=okAns (nd v) m:=upd_same ..
  have n2:=I2.ni v
  rw [eu] at n2
  have em:mems (nd v)=memL (okAns (nd v) m).Log st (okAns (nd v) m).Log.length:=by unfold mems;rw [n.start];rfl
  have I3:=I2.led (v:=v) (x:=withC (okAns (nd v) m) (advC (okAns (nd v) m) (mems (nd v)) (nd v).Log.length)) (by rw [eu];rfl) (by rw [eu];rfl) (by rw [eu];rfl) (by rw [eu];rfl) (by rw [eu];rfl) (by rw [eu];rfl) (by rw [eu];exact r2) (fun j hj=>n2.mt r2 j hj) (fun c0 ct=>by
   have:=adv_Cm I2 (v:=v) (by rw [eu];exact r2) (by rw [eu,← em];exact hg.g.M) (nd v).Log.length (by rw [eu];exact Nat.le_refl _)
   rw [eu,← em] at this
   exact this c0 ct)
  rw [upd_upd] at I3
  exact Stp.none I3
theorem take_step {st:List Int} {g:Gh} {nd:Int→Node} (I:Inv st g nd) {v:Int} (hg:GT (nd v)) {m:Message} (ho:MsgOk m) (mi:MI g m) (hto:m.To=v) (hne:m.From≠v):Stp st g nd v (takeR (nd v) m):=by
 have key:∀(nd:Int→Node),Inv st g nd→GT (nd v)→m.Term≤(nd v).Term→Stp st g nd v (kindR (nd v) m):=fun nd I hg ht=>by
  unfold kindR
  have f0:=ho.f0
  cases k1:m.Kind==1 with
  | true=>exact vote_step I (by omega) mi.k1 (beq_iff_eq.1 k1)
  | false=>
  cases k2:m.Kind==2 with
  | true=>exact voted_step I hg fun h=>by rw [← hto];exact mi.k2 (beq_iff_eq.1 k2) h
  | false=>
  cases k3:m.Kind==3 with
  | true=>exact ent_step I hto ht ho.i0 (mi.k3 (beq_iff_eq.1 k3))
  | false=>
   have k4:m.Kind=4:=by
    rw [beq_eq_false_iff_ne] at k1 k2 k3
    rcases ho.kind with e | e | e | e
    ·exact absurd e k1
    ·exact absurd e k2
    ·exact absurd e k3
    ·exact e
   exact ans_step I hg ho.f0 ho.f6 hne ho.i0 (mi.k4 k4)
 have hy:=hg.atTerm m
 unfold takeR
 by_cases h:m.Term > (nd v).Term
 ·have ea:atTerm (nd v) m=downN (bumpN (nd v) m.Term):=by unfold atTerm;rw [decide_eq_true h];rfl
  rw [ea] at hy ⊢
  have I2:Inv st g (upd nd v (downN (bumpN (nd v) m.Term))):=I.bump rfl rfl h rfl rfl rfl
  have eu:upd nd v (downN (bumpN (nd v) m.Term)) v=downN (bumpN (nd v) m.Term):=upd_same ..
  obtain ⟨g',e,I',mm⟩:=key _ I2 (by rw [eu];exact hy) (by rw [eu];exact Int.le_refl _)
  rw [eu,upd_upd] at I'
  rw [eu] at mm
  exact ⟨g',e,I',mm⟩
 ·have ea:atTerm (nd v) m=nd v:=by unfold atTerm;rw [decide_eq_false h];rfl
  rw [ea]
  exact key nd I hg (by omega)
def g0:Gh:=⟨fun _=>none,fun _=>[],fun _=>[],fun _ _=>0,fun _ _=>none,fun _ _=>[],fun _ _=>[]⟩
theorem no_led {t:Int}:¬ g0.led t:=fun ⟨c,h⟩=>by cases h
theorem Inv.init {st:List Int} (hs:st=[0]∨st=[0,1]∨st=[0,1,2]) {nd:Int→Node} (h:∀v,(nd v).Id=v∧(nd v).Start=st∧(nd v).Term=0∧(nd v).Vote = -1∧(nd v).Log=[]∧(nd v).Role=0):Inv st g0 nd:=by
 refine ⟨⟨hs,fun t h=>absurd h no_led,fun t h=>absurd h no_led,fun t h=>absurd h no_led,fun t h=>absurd h no_led,fun t h=>absurd h no_led,fun t c h=>(by cases h),fun t h=>absurd h no_led,fun t h=>absurd h no_led⟩,fun v=>?_,fun t c h=>(by cases h),fun t c h=>(by cases h),fun v t c h=>(by cases h),fun v t h=>absurd h (Nat.lt_irrefl 0)⟩
 obtain ⟨a,b,c,d,e,f⟩:=h v
 refine ⟨a,b,by omega,fun i hi=>?_,fun i hi=>?_,fun t c h=>(by cases h),fun c h=>(by cases h),fun h=>absurd d h,fun t h=>absurd h (Nat.lt_irrefl 0),fun s k hk=>?_,fun hr=>?_,fun hr=>?_,fun hr=>?_,fun hr=>?_⟩
 ·rw [e] at hi;exact absurd hi (Nat.not_lt_zero _)
 ·rw [e] at hi;exact absurd hi (Nat.not_lt_zero _)
 ·have hk:k≤0:=hk
  rw [show k=0 by omega]
  exact .inl ⟨Nat.zero_le _,Nat.zero_le _,by simp⟩
 ·rw [f] at hr;cases hr
 ·rw [f] at hr;cases hr
 ·rw [f] at hr;cases hr
 ·rw [f] at hr;cases hr
def crashN (x:Node):Node:=⟨x.Id,x.Term,x.Vote,x.Log,x.Start,0,[],[1,1,1,1,1,1,1],[0,0,0,0,0,0,0],0,0,x.Wait,false⟩
def startN (x:Node):Node:=⟨x.Id,x.Term,x.Vote,x.Log,x.Start,x.Role,x.Votes,x.Next,x.Match,x.Commit,x.Elapsed,x.Wait,true⟩
theorem crash_step {st:List Int} {g:Gh} {nd:Int→Node} (I:Inv st g nd) (v:Int):Stp st g nd v (crashN (nd v),[]):=Stp.none (I.fr rfl rfl rfl rfl rfl (.inl rfl))
theorem start_step {st:List Int} {g:Gh} {nd:Int→Node} (I:Inv st g nd) (v:Int):Stp st g nd v (startN (nd v),[]):=Stp.none (I.fr rfl rfl rfl rfl rfl (.inr ⟨rfl,rfl,rfl,rfl⟩))
def withL (x:Node) (l:List Entry):Node:=⟨x.Id,x.Term,x.Vote,l,x.Start,x.Role,x.Votes,x.Next,x.Match,x.Commit,x.Elapsed,x.Wait,x.Up⟩
def propN (x:Node) (k:Int) (d:ByteArray):Node:=withL x (x.Log++[⟨x.Term,k,d⟩])
def propR (x:Node) (k:Int) (d:ByteArray):Node×List Message:=(withC (propN x k d) (advC (propN x k d) (mems (propN x k d)) (propN x k d).Log.length),told (withC (propN x k d) (advC (propN x k d) (mems (propN x k d)) (propN x k d).Log.length)) (mems (propN x k d)))
theorem prop_step {st:List Int} {g:Gh} {nd:Int→Node} (I:Inv st g nd) {v:Int} {k:Int} {d:ByteArray} (hr:(nd v).Role=2) (hg:GN (nd v)) (hg':GN (propN (nd v) k d)) (hk:(k==2)=true→Okc st (bl d d.size)∧adj (memL (nd v).Log st (nd v).Log.length) (bl d d.size)∧0<(nd v).Commit∧(ex (nd v).Log ((nd v).Commit - 1).toNat).Term=(nd v).Term∧∀j,(nd v).Commit.toNat≤j→j<(nd v).Log.length→((ex (nd v).Log j).Kind==2)=false):Stp st g nd v (propR (nd v) k d):=by
 have n:=I.ni v
 obtain ⟨l1,l2⟩:=n.lead hr
 obtain ⟨g',e,I'⟩:=I.append (x:=propN (nd v) k d) (e:=⟨(nd v).Term,k,d⟩) hr rfl rfl rfl rfl hr rfl rfl rfl rfl hg.c1 (fun h2=>by
  obtain ⟨a,b,c,d',f⟩:=hk h2
  refine ⟨a,b,?_⟩
  have c1:=hg.c1
  obtain ⟨n',hc⟩:=n.com hr c (by unfold tm;rw [if_neg (by omega),show (nd v).Commit.toNat - 1=((nd v).Commit - 1).toNat by omega];exact d')
  have n1:=hc.n1
  rw [l2] at n1
  have up:∀(w j:Nat),j+w=(nd v).Log.length→(nd v).Commit.toNat≤j→memL (nd v).Log st j=memL (nd v).Log st (nd v).Log.length:=by
   intro w
   induction w with
   | zero=>intro j hj _;rw [show j=(nd v).Log.length by omega]
   | succ w ih=>
    intro j hj hc'
    rw [← ih (j+1) (by omega) (by omega),memL,f j hc' (by omega)];rfl
  exact ⟨(nd v).Commit.toNat,n',hc.kn,n1,hc,fun j j1 j2=>up ((nd v).Log.length - j) j (by omega) j1⟩)
 have eu:upd nd v (propN (nd v) k d) v=propN (nd v) k d:=upd_same ..
 have n':=I'.ni v
 rw [eu] at n'
 have em:mems (propN (nd v) k d)=memL (propN (nd v) k d).Log st (propN (nd v) k d).Log.length:=by show memL _ (nd v).Start _=_;rw [n.start]
 have I3:=I'.led (v:=v) (x:=(propR (nd v) k d).1) (by rw [eu];rfl) (by rw [eu];rfl) (by rw [eu];rfl) (by rw [eu];rfl) (by rw [eu];rfl) (by rw [eu];rfl) (by rw [eu];exact hr) (fun j hj=>n'.mt hr j hj) (fun c0 ct=>by
  have:=adv_Cm I' (v:=v) (by rw [eu];exact hr) (by rw [eu,← em];exact hg'.M) (propN (nd v) k d).Log.length (by rw [eu];exact Nat.le_refl _)
  rw [eu,← em] at this
  exact this c0 ct)
 have tl:=told_MI I' (v:=v) (x:=(propR (nd v) k d).1) (by rw [eu];exact hr) (by rw [eu];exact hg'.tells) (by rw [eu];rfl) (by rw [eu];rfl) (by rw [eu];rfl) (by rw [eu];rfl) hg'.M
 rw [upd_upd] at I3
 exact ⟨g',e,I3,tl⟩
end Mir.Y
