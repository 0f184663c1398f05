/- Raft: what is known of all that was ever led, voted and told (ghosts), and what follows. -/
import Derived.Test.YtcgniikapdcfmaaRCRK
namespace Mir.Y
set_option linter.unusedVariables false
set_option linter.unusedSimpArgs false
open Go
def agree (L M:List Entry) (k:Nat):Prop:=k≤L.length∧k≤M.length∧L.take k=M.take k
theorem agree.symm {L M:List Entry} {k:Nat} (h:agree L M k):agree M L k:=⟨h.2.1,h.1,h.2.2.symm⟩
theorem agree.trans {L M K:List Entry} {k:Nat} (h:agree L M k) (h2:agree M K k):agree L K k:=⟨h.1,h2.2.1,h.2.2.trans h2.2.2⟩
theorem agree.mono {L M:List Entry} {k j:Nat} (h:agree L M k) (hj:j≤k):agree L M j:=by
 refine ⟨Nat.le_trans hj h.1,Nat.le_trans hj h.2.1,?_⟩
 have:=congrArg (List.take j) h.2.2
 rwa [List.take_take,List.take_take,Nat.min_eq_left hj] at this
theorem agree.self {L:List Entry} {k:Nat} (h:k≤L.length):agree L L k:=⟨h,h,rfl⟩
theorem agree.at {L M:List Entry} {k i:Nat} (h:agree L M k) (hi:i<k):ex L i=ex M i:=by
 have e:∀X:List Entry,ex X i=ex (X.take k) i:=fun X=>by
  unfold ex
  rw [List.getD_eq_getElem?_getD,List.getD_eq_getElem?_getD,List.getElem?_take,if_pos hi]
 rw [e L,e M,h.2.2]
theorem agree.app {L M:List Entry} {k:Nat} (h:agree L M k) (X:List Entry):agree L (M++X) k:=⟨h.1,by rw [List.length_append];have:=h.2.1;omega,by rw [List.take_append_of_le_length h.2.1];exact h.2.2⟩
theorem agree.take {L:List Entry} {k n:Nat} (hk:k≤n) (hn:n≤L.length):agree (L.take n) L k:=⟨by rw [List.length_take];omega,by omega,by rw [List.take_take,Nat.min_eq_left hk]⟩
theorem agree.cfg {L M:List Entry} {k:Nat} {st:List Int} (h:agree L M k):memL L st k=memL M st k:=memL_congr _ fun j hj=>h.at hj
def tm (L:List Entry) (k:Nat):Int:=if k=0 then 0 else (ex L (k - 1)).Term
theorem agree.tm {L M:List Entry} {k:Nat} (h:agree L M k):tm L k=tm M k:=by
 unfold Mir.Y.tm
 split
 ·rfl
 ·rw [h.at (by omega)]
theorem tm_succ (L:List Entry) (k:Nat):tm L (k+1)=(ex L k).Term:=by unfold tm;rw [if_neg (by omega),Nat.add_sub_cancel]
structure Gh where
 lead:Int→Option Int
 T:Int→List Entry
 B:Int→List Entry
 A:Int→Int→Nat
 vote:Int→Int→Option Int
 VL:Int→Int→List Entry
 CL:Int→Int→List Entry
def Gh.led (g:Gh) (t:Int):Prop:=∃c,g.lead t=some c
def GL (g:Gh) (L:List Entry):Prop:=∀i,i<L.length→g.led (ex L i).Term∧agree L (g.T (ex L i).Term) (i+1)
def upto (V B:List Entry):Prop:=tm V V.length<tm B B.length∨(tm V V.length=tm B B.length∧V.length≤B.length)
structure Cm (st:List Int) (g:Gh) (t:Int) (k n:Nat):Prop where
 l:g.led t
 k0:0<k
 kn:k≤n
 n1:n≤(g.T t).length
 own:tm (g.T t) k=t
 q:∃q:Int→Bool,mostB q (memL (g.T t) st n)=true∧∀v,q v=true→k≤g.A v t
def Okc (st M:List Int):Prop:=(st=[0]∧M=[0])∨(st≠[0]∧(M=[0,1]∨M=[0,1,2]∨M=[0,1,2,3]∨M=[1,2]∨M=[0,2,3]))
structure Elec (st:List Int) (g:Gh) (t b c:Int) (L:List Entry) (q:Int→Bool):Prop where
 gl:GL g L
 lo:∀i,i<L.length→(ex L i).Term<t
 most:mostB q (memL L st L.length)=true
 cs:∀j,j≤L.length→Okc st (memL L st j)
 v:∀v,q v=true→g.vote v t=some c∧GL g (g.VL v t)∧upto (g.VL v t) L∧∀s,s<t→∀k,k≤g.A v s→agree (g.VL v t) (g.T s) k∨∃u,s<u∧u≤b∧g.led u∧¬ agree (g.B u) (g.T s) k
def adj (M K:List Int):Prop:=cnB (dif M K) 7=1
structure Cf (st:List Int) (g:Gh) (t:Int) (i:Nat):Prop where
 com:∃k n,k≤n∧n≤i∧Cm st g t k n∧∀j,k≤j→j≤i→memL (g.T t) st j=memL (g.T t) st i
 nx:adj (memL (g.T t) st i) (memL (g.T t) st (i+1))
theorem Elec.weak {st:List Int} {g:Gh} {t b c:Int} {L:List Entry} {q:Int→Bool} (e:Elec st g t b c L q) {b':Int} (hb:b≤b'):Elec st g t b' c L q:=⟨e.gl,e.lo,e.most,e.cs,fun v hv=>⟨(e.v v hv).1,(e.v v hv).2.1,(e.v v hv).2.2.1,fun s hs k hk=>by
 rcases (e.v v hv).2.2.2 s hs k hk with x | ⟨u,a,b,c⟩
 ·exact .inl x
 ·exact .inr ⟨u,a,Int.le_trans b hb,c⟩⟩⟩
structure Hist (st:List Int) (g:Gh):Prop where
 s0:st=[0]∨st=[0,1]∨st=[0,1,2]
 pos:∀t,g.led t→1≤t
 gl:∀t,g.led t→GL g (g.T t)
 base:∀t,g.led t→agree (g.B t) (g.T t) (g.B t).length
 low:∀t,g.led t→∀i,i<(g.B t).length→(ex (g.B t) i).Term<t
 own:∀t,g.led t→∀i,(g.B t).length≤i→i<(g.T t).length→(ex (g.T t) i).Term=t
 el:∀t c,g.lead t=some c→∃q,Elec st g t (t - 1) c (g.B t) q
 cf:∀t,g.led t→∀i,(g.B t).length≤i→i<(g.T t).length→((ex (g.T t) i).Kind==2)=true→Cf st g t i
 cs:∀t,g.led t→∀j,j≤(g.T t).length→Okc st (memL (g.T t) st j)
theorem Hist.mono {st:List Int} {g:Gh} (h:Hist st g):∀(n:Nat) (t:Int),t.toNat≤n→g.led t→∀i j,i≤j→j<(g.T t).length→(ex (g.T t) i).Term≤(ex (g.T t) j).Term∧(ex (g.T t) j).Term≤t:=by
 intro n
 induction n with
 | zero=>intro t ht hl;have:=h.pos t hl;omega
 | succ n ih=>
  intro t ht hl i j hij hj
  have hb:=h.base t hl
  have le:∀w,w<(g.T t).length→(ex (g.T t) w).Term≤t:=fun w hw=>by
   by_cases hwb:w<(g.B t).length
   ·rw [← hb.at hwb];exact Int.le_of_lt (h.low t hl w hwb)
   ·rw [h.own t hl w (by omega) hw];exact Int.le_refl _
  refine ⟨?_,le j hj⟩
  by_cases hjb:j<(g.B t).length
  ·obtain ⟨l2,ag⟩:=h.gl t hl j hj
   have hlt:(ex (g.T t) j).Term<t:=by rw [← hb.at hjb];exact h.low t hl j hjb
   have hp:=h.pos _ l2
   have hp2:=h.pos t hl
   have:=(ih (ex (g.T t) j).Term (by omega) l2 i j hij (by have:=ag.2.1;omega)).1
   rwa [← ag.at (show i<j+1 by omega),← ag.at (show j<j+1 by omega)] at this
  ·rw [h.own t hl j (by omega) hj];exact le i (by omega)
theorem Hist.monoL {st:List Int} {g:Gh} (h:Hist st g) {L:List Entry} (hL:GL g L) {i j:Nat} (hij:i≤j) (hj:j<L.length):(ex L i).Term≤(ex L j).Term:=by
 obtain ⟨l,ag⟩:=hL j hj
 have:=(h.mono _ _ (Nat.le_refl _) l i j hij (by have:=ag.2.1;omega)).1
 rwa [← ag.at (show i<j+1 by omega),← ag.at (show j<j+1 by omega)] at this
theorem Hist.posL {st:List Int} {g:Gh} (h:Hist st g) {L:List Entry} (hL:GL g L) {j:Nat} (hj:j<L.length):1≤(ex L j).Term:=h.pos _ (hL j hj).1
theorem Hist.tmL {st:List Int} {g:Gh} (h:Hist st g) {L:List Entry} (hL:GL g L) {j k:Nat} (hjk:j≤k) (hk:k≤L.length):tm L j≤tm L k:=by
 cases j with
 | zero=>
  cases k with
  | zero=>exact Int.le_refl _
  | succ k=>rw [tm_succ];have:=h.posL hL (show k<L.length by omega);show (0:Int)≤_;omega
 | succ j=>
  cases k with
  | zero=>omega
  | succ k=>rw [tm_succ,tm_succ];exact h.monoL hL (by omega) (by omega)
theorem GL.whole {g:Gh} {L:List Entry} (hL:GL g L) (h0:0<L.length):g.led (tm L L.length)∧agree L (g.T (tm L L.length)) L.length:=by
 obtain ⟨a,b⟩:=hL (L.length - 1) (by omega)
 unfold tm
 rw [if_neg (by omega)]
 rw [show L.length - 1+1=L.length by omega] at b
 exact ⟨a,b⟩
theorem lcq {st:List Int} {g:Gh} (h:Hist st g) {t t' b c:Int} {k n:Nat} {L:List Entry} {q q0:Int→Bool} (hb:t' - 1≤b) (he:Elec st g t' b c L q) (hc:Cm st g t k n) (ht:t<t') (hq0:∀v,q0 v=true→k≤g.A v t) (hm:∃v,q0 v=true∧q v=true) (ih:∀s,t<s→s≤b→g.led s→agree (g.B s) (g.T t) k):agree L (g.T t) k:=by
 obtain ⟨v,v0,v1⟩:=hm
 obtain ⟨_,gv,up,hv⟩:=he.v v v1
 have av:agree (g.VL v t') (g.T t) k:=by
  rcases hv t ht k (hq0 v v0) with a | ⟨u,u1,u2,u3,u4⟩
  ·exact a
  ·exact absurd (ih u u1 u2 u3) u4
 have k0:=hc.k0
 have hv0:0<(g.VL v t').length:=by have:=av.1;omega
 have w1:t≤tm (g.VL v t') (g.VL v t').length:=by
  have:=h.tmL gv av.1 (Nat.le_refl _)
  rw [av.tm,hc.own] at this;exact this
 have tp:=h.pos t hc.l
 have hL0:0<L.length:=by
  rcases Nat.eq_zero_or_pos L.length with e | e
  ·exfalso
   have e0:tm L L.length=0:=by rw [e];rfl
   unfold upto at up
   rw [e0] at up
   omega
  ·exact e
 obtain ⟨lu,au⟩:=he.gl.whole hL0
 obtain ⟨lw,aw⟩:=gv.whole hv0
 rcases up with up | ⟨ue,ul⟩
 ·-- a later term
  have hu:t<tm L L.length:=by omega
  have hlt:tm L L.length<t':=by
   have:=he.lo (L.length - 1) (by omega)
   unfold tm;rw [if_neg (by omega)];exact this
  have b':=ih _ hu (by omega) lu
  have b2:agree (g.T (tm L L.length)) (g.T t) k:=((h.base _ lu).mono b'.1).symm.trans b'
  have hk:k≤L.length:=by
   rcases Nat.lt_or_ge L.length k with hk | hk
   ·exfalso
    have e1:tm (g.T (tm L L.length)) L.length=tm (g.T t) L.length:=(b2.mono (by omega)).tm
    rw [← au.tm] at e1
    have e2:=h.tmL (h.gl t hc.l) (show L.length≤k by omega) (by have:=hc.kn;have:=hc.n1;omega)
    rw [hc.own,← e1] at e2
    omega
   ·exact hk
  exact (au.mono hk).trans b2
 ·have hk:k≤(g.VL v t').length:=av.1
  rw [ue] at aw
  have:agree L (g.VL v t') (g.VL v t').length:=(au.mono ul).trans aw.symm
  exact (this.mono hk).trans av
def Meet (M K:List Int):Prop:=∀q1 q2:Int→Bool,mostB q1 M=true→mostB q2 K=true→∃v,q1 v=true∧q2 v=true
theorem Meet.symm {M K:List Int} (h:Meet M K):Meet K M:=fun q1 q2 a b=>by
 obtain ⟨v,x,y⟩:=h q2 q1 b a
 exact ⟨v,y,x⟩
theorem meet_or {st M K:List Int} (hM:Okc st M) (hK:Okc st K):Meet M K∨(M=[0,2,3]∧K≠[0,1,2,3]∧K≠[0,2,3])∨(K=[0,2,3]∧M≠[0,1,2,3]∧M≠[0,2,3]):=by
 have key:∀(q1 q2:Int→Bool),(¬ ∃v,q1 v=true∧q2 v=true)→∀v,(q1 v).toNat+(q2 v).toNat≤1:=fun q1 q2 h v=>by
  cases h1:q1 v<;>cases h2:q2 v<;>simp
  exact h ⟨v,h1,h2⟩
 rcases hM with ⟨s1,rfl⟩ | ⟨s1,hM⟩
 ·rcases hK with ⟨_,rfl⟩ | ⟨s2,_⟩
  ·left
   intro q1 q2 h1 h2
   refine Classical.byContradiction fun hn=>?_
   have k0:=key q1 q2 hn 0
   simp [mostB,cnB,ix] at h1 h2
   omega
  ·exact absurd s1 s2
 ·rcases hK with ⟨s2,_⟩ | ⟨_,hK⟩
  ·exact absurd s2 s1
  ·rcases hM with rfl | rfl | rfl | rfl | rfl<;>rcases hK with rfl | rfl | rfl | rfl | rfl<;>
    first
    | (right;left;exact ⟨rfl,by decide,by decide⟩)
    | (right;right;exact ⟨rfl,by decide,by decide⟩)
    | (left;intro q1 q2 h1 h2;refine Classical.byContradiction fun hn=>?_;have k0:=key q1 q2 hn 0;have k1:=key q1 q2 hn 1;have k2:=key q1 q2 hn 2;have k3:=key q1 q2 hn 3;simp [mostB,cnB,ix] at h1 h2;omega)
theorem meetC {st K:List Int} (hK:Okc st K) (hs:st≠[0]):Meet [0,1,2,3] K:=by
 rcases meet_or (Or.inr ⟨hs,.inr (.inr (.inl rfl))⟩) hK with h | ⟨h,_⟩ | ⟨_,h,_⟩
 ·exact h
 ·cases h
 ·exact absurd rfl h
theorem adjE {st M:List Int} (hs:st≠[0]) (hM:Okc st M):(adj M [0,2,3]→M=[0,1,2,3])∧(adj [0,2,3] M→M=[0,1,2,3]):=by
 rcases hM with ⟨h,_⟩ | ⟨_,hM⟩
 ·exact absurd h hs
 ·rcases hM with rfl | rfl | rfl | rfl | rfl
  ·exact ⟨fun h=>absurd h (by unfold adj;decide),fun h=>absurd h (by unfold adj;decide)⟩
  ·exact ⟨fun h=>absurd h (by unfold adj;decide),fun h=>absurd h (by unfold adj;decide)⟩
  ·exact ⟨fun _=>rfl,fun _=>rfl⟩
  ·exact ⟨fun h=>absurd h (by unfold adj;decide),fun h=>absurd h (by unfold adj;decide)⟩
  ·exact ⟨fun h=>absurd h (by unfold adj;decide),fun h=>absurd h (by unfold adj;decide)⟩
theorem lcC {st:List Int} {g:Gh} (h:Hist st g) {t:Int} {k n:Nat} (hc:Cm st g t k n) (hC:memL (g.T t) st n=[0,1,2,3]):∀(w:Nat) (t' c:Int) (L:List Entry) (q:Int→Bool),t'.toNat≤w→t<t'→Elec st g t' (t' - 1) c L q→agree L (g.T t) k:=by
 have tp:=h.pos t hc.l
 have hs:st≠[0]:=by
  rcases h.cs t hc.l n hc.n1 with ⟨_,e⟩ | ⟨e,_⟩
  ·rw [hC] at e;cases e
  ·exact e
 intro w
 induction w with
 | zero=>intro t' c L q hw ht _;omega
 | succ w ih=>
  intro t' c L q hw ht he
  obtain ⟨q0,m0,hq0⟩:=hc.q
  rw [hC] at m0
  refine lcq h (Int.le_refl _) he hc ht hq0 (meetC (he.cs _ (Nat.le_refl _)) hs _ _ m0 he.most) fun s s1 s2 s3=>?_
  obtain ⟨c',hl⟩:=s3
  obtain ⟨q',he'⟩:=h.el s c' hl
  exact ih s c' (g.B s) q' (by omega) s1 he'
theorem lcCw {st:List Int} {g:Gh} (h:Hist st g) {t:Int} {k n:Nat} (hc:Cm st g t k n) (hC:memL (g.T t) st n=[0,1,2,3]) {t' c:Int} {L:List Entry} {q:Int→Bool} (ht:t<t') (he:Elec st g t' t' c L q):agree L (g.T t) k:=by
 have hs:st≠[0]:=by
  rcases h.cs t hc.l n hc.n1 with ⟨_,e⟩ | ⟨e,_⟩
  ·rw [hC] at e;cases e
  ·exact e
 obtain ⟨q0,m0,hq0⟩:=hc.q
 rw [hC] at m0
 refine lcq h (by omega) he hc ht hq0 (meetC (he.cs _ (Nat.le_refl _)) hs _ _ m0 he.most) fun s s1 s2 s3=>?_
 obtain ⟨c',hl⟩:=s3
 obtain ⟨q',he'⟩:=h.el s c' hl
 exact lcC h hc hC _ s c' (g.B s) q' (Nat.le_refl _) s1 he'
theorem chg {st:List Int} {g:Gh} (h:Hist st g) {L:List Entry} (hL:GL g L) {i:Nat} (hi:i<L.length) (hk:((ex L i).Kind==2)=true):∃k n,k≤n∧n≤i∧Cm st g (ex L i).Term k n∧(∀j,k≤j→j≤i→memL L st j=memL L st i)∧memL (g.T (ex L i).Term) st n=memL L st i∧adj (memL L st i) (memL L st (i+1))∧agree L (g.T (ex L i).Term) (i+1):=by
 obtain ⟨l,ag⟩:=hL i hi
 have hb:(g.B (ex L i).Term).length≤i:=by
  rcases Nat.lt_or_ge i (g.B (ex L i).Term).length with hlt | hge
  ·have:=h.low _ l i hlt
   rw [(h.base _ l).at hlt,← ag.at (show i<i+1 by omega)] at this
   omega
  ·exact hge
 have hk':((ex (g.T (ex L i).Term) i).Kind==2)=true:=by rw [← ag.at (show i<i+1 by omega)];exact hk
 obtain ⟨⟨k,n,k1,k2,k3,k4⟩,k5⟩:=h.cf _ l i hb (by have:=ag.2.1;omega) hk'
 have cg:∀j,j≤i+1→memL L st j=memL (g.T (ex L i).Term) st j:=fun j hj=>(ag.mono hj).cfg
 refine ⟨k,n,k1,k2,k3,fun j j1 j2=>?_,?_,?_,ag⟩
 ·rw [cg j (by omega),cg i (by omega)];exact k4 j j1 j2
 ·rw [cg i (by omega)];exact k4 n k1 k2
 ·rw [cg i (by omega),cg (i+1) (Nat.le_refl _)];exact k5
theorem lastE {st L:List Int} {a:List Entry} {X:List Int} (hs:st≠X):∀n,memL a st n=X→∃i,i<n∧((ex a i).Kind==2)=true∧∀j,i<j→j≤n→memL a st j=X
 | 0,h=>absurd h hs
 | n+1,h=>by
  cases hk:(ex a n).Kind==2 with
  | true=>
   refine ⟨n,by omega,hk,fun j h1 h2=>?_⟩
   rw [show j=n+1 by omega];exact h
  | false=>
   have h':memL a st n=X:=by rw [memL,hk] at h;exact h
   obtain ⟨i,i1,i2,i3⟩:=lastE (L:=L) hs n h'
   refine ⟨i,by omega,i2,fun j h1 h2=>?_⟩
   by_cases e:j=n+1
   ·rw [e];exact h
   ·exact i3 j h1 (by omega)
theorem leaveC {st:List Int} {g:Gh} (h:Hist st g) (hs:st≠[0]) {L:List Entry} (hL:GL g L) (hcs:∀j,j≤L.length→Okc st (memL L st j)) {k0:Nat} (hC:memL L st k0=[0,1,2,3]):∀n,k0≤n→n≤L.length→(memL L st n=[0,1,2,3]∨memL L st n=[0,2,3])∨∃i,k0≤i∧i<n∧((ex L i).Kind==2)=true∧memL L st i=[0,1,2,3]∧memL L st (i+1)≠[0,1,2,3]∧memL L st (i+1)≠[0,2,3]:=by
 intro n
 induction n with
 | zero=>intro h0 _;rw [show k0=0 by omega] at hC;exact .inl (.inl hC)
 | succ n ih=>
  intro h0 hn
  by_cases e:k0=n+1
  ·rw [← e];exact .inl (.inl hC)
  rcases ih (by omega) (by omega) with hx | ⟨i,i1,i2,i3⟩
  ·cases hk:(ex L n).Kind==2 with
   | false=>
    have e:memL L st (n+1)=memL L st n:=by rw [memL,hk];rfl
    rw [e];exact .inl hx
   | true=>
    obtain ⟨_,_,_,_,_,_,_,ad,_⟩:=chg h hL (show n<L.length by omega) hk
    rcases hx with hx | hx
    ·by_cases e1:memL L st (n+1)=[0,1,2,3]
     ·exact .inl (.inl e1)
     ·by_cases e2:memL L st (n+1)=[0,2,3]
      ·exact .inl (.inr e2)
      ·exact .inr ⟨n,by omega,by omega,hk,hx,e1,e2⟩
    ·rw [hx] at ad
     exact .inl (.inl ((adjE hs (hcs _ hn)).2 ad))
  ·exact .inr ⟨i,i1,by omega,i3⟩
theorem apart {st:List Int} {g:Gh} (h:Hist st g) (hs:st≠[0]) {L1 L2:List Entry} (g1:GL g L1) (g2:GL g L2) (c1:∀j,j≤L1.length→Okc st (memL L1 st j)) (c2:∀j,j≤L2.length→Okc st (memL L2 st j)) (e1:memL L1 st L1.length=[0,2,3]) (e2:memL L2 st L2.length≠[0,1,2,3]∧memL L2 st L2.length≠[0,2,3])
  (h1:∀i,i<L1.length→∀k n,Cm st g (ex L1 i).Term k n→memL (g.T (ex L1 i).Term) st n=[0,1,2,3]→agree L2 (g.T (ex L1 i).Term) k)
  (h2:∀i,i<L2.length→∀k n,Cm st g (ex L2 i).Term k n→memL (g.T (ex L2 i).Term) st n=[0,1,2,3]→agree L1 (g.T (ex L2 i).Term) k):False:=by
 have hsE:st≠[0,2,3]:=by
  rcases h.s0 with e | e | e<;>rw [e]<;>decide
 obtain ⟨i1,a1,a2,a3⟩:=lastE (L:=[]) hsE _ e1
 obtain ⟨k1,n1,b1,b2,b3,b4,b5,b6,b7⟩:=chg h g1 a1 a2
 rw [a3 (i1+1) (by omega) (by omega)] at b6
 have hC1:memL L1 st i1=[0,1,2,3]:=(adjE hs (c1 i1 (by omega))).1 b6
 have ag2:=h1 i1 a1 k1 n1 b3 (b5.trans hC1)
 have k1L:k1≤L1.length:=by omega
 have hk2:memL L2 st k1=[0,1,2,3]:=by
  rw [ag2.cfg,← (b7.mono (show k1≤i1+1 by omega)).cfg,b4 k1 (Nat.le_refl _) (by omega)];exact hC1
 rcases leaveC h hs g2 c2 hk2 L2.length ag2.1 (Nat.le_refl _) with hx | ⟨i2,d1,d2,d3,d4,d5,d6⟩
 ·rcases hx with hx | hx
  ·exact e2.1 hx
  ·exact e2.2 hx
 obtain ⟨k2,n2,f1,f2,f3,f4,f5,f6,f7⟩:=chg h g2 d2 d3
 have ag1:=h2 i2 d2 k2 n2 f3 (f5.trans d4)
 have hk1:memL L1 st k2=[0,1,2,3]:=by
  rw [ag1.cfg,← (f7.mono (show k2≤i2+1 by omega)).cfg,f4 k2 (Nat.le_refl _) (by omega)];exact d4
 have k2i:k2≤i1:=by
  rcases Nat.lt_or_ge i1 k2 with hlt | hge
  ·have:=a3 k2 hlt ag1.1
   rw [hk1] at this;cases this
  ·exact hge
 have t1:(ex L2 i2).Term≤(ex L1 i1).Term:=by
  have:=h.tmL g1 (show k2≤i1+1 by omega) (by omega)
  rw [tm_succ,ag1.tm,f3.own] at this;exact this
 have t2:(ex L1 i1).Term≤(ex L2 i2).Term:=by
  have:=h.tmL g2 (show k1≤i2+1 by omega) (by omega)
  rw [tm_succ,ag2.tm,b3.own] at this;exact this
 have te:(ex L2 i2).Term=(ex L1 i1).Term:=Int.le_antisymm t1 t2
 rw [te] at f7
 rcases Nat.lt_trichotomy i1 i2 with hlt | heq | hgt
 ·have x1:memL L2 st (i1+1)=[0,1,2,3]:=by rw [f4 (i1+1) (by omega) (by omega)];exact d4
  rw [(f7.mono (show i1+1≤i2+1 by omega)).cfg,← b7.cfg,a3 (i1+1) (by omega) (by omega)] at x1
  cases x1
 ·subst heq
  rw [f7.cfg,← b7.cfg] at d6
  exact d6 (a3 (i1+1) (by omega) (by omega))
 ·have x1:memL L1 st (i2+1)=[0,1,2,3]:=by rw [b4 (i2+1) (by omega) (by omega)];exact hC1
  rw [(b7.mono (show i2+1≤i1+1 by omega)).cfg,← f7.cfg] at x1
  exact d5 x1
theorem one {st:List Int} {g:Gh} (h:Hist st g) {t c1 c2:Int} {L1 L2:List Entry} {q1 q2:Int→Bool} (h1:Elec st g t t c1 L1 q1) (h2:Elec st g t t c2 L2 q2):c1=c2:=by
 have same:∀ {c d:Int} {L K:List Entry} {p r:Int→Bool},Elec st g t t c L p→Elec st g t t d K r→Meet (memL L st L.length) (memL K st K.length)→c=d:=fun e1 e2 m=>by
  obtain ⟨v,v1,v2⟩:=m _ _ e1.most e2.most
  have a:=(e1.v v v1).1
  have b:=(e2.v v v2).1
  rw [a] at b;cases b;rfl
 have no:∀ {c d:Int} {L K:List Entry} {p r:Int→Bool},Elec st g t t c L p→Elec st g t t d K r→memL L st L.length=[0,2,3]→memL K st K.length≠[0,1,2,3]→memL K st K.length≠[0,2,3]→False:=fun {c d L K p r} e1 e2 m1 m2 m3=>by
  have hs:st≠[0]:=by
   rcases e1.cs _ (Nat.le_refl _) with ⟨_,e⟩ | ⟨e,_⟩
   ·rw [m1] at e;cases e
   ·exact e
  exact apart h hs e1.gl e2.gl e1.cs e2.cs m1 ⟨m2,m3⟩ (fun i hi k n hc hC=>lcCw h hc hC (e1.lo i hi) e2) (fun i hi k n hc hC=>lcCw h hc hC (e2.lo i hi) e1)
 rcases meet_or (h1.cs _ (Nat.le_refl _)) (h2.cs _ (Nat.le_refl _)) with m | ⟨m1,m2,m3⟩ | ⟨m1,m2,m3⟩
 ·exact same h1 h2 m
 ·exact (no h1 h2 m1 m2 m3).elim
 ·exact (no h2 h1 m1 m2 m3).elim
theorem lc {st:List Int} {g:Gh} (h:Hist st g) {t:Int} {k n:Nat} (hc:Cm st g t k n):∀(w:Nat) (t' c:Int) (L:List Entry) (q:Int→Bool),t'.toNat≤w→t<t'→Elec st g t' (t' - 1) c L q→agree L (g.T t) k:=by
 have tp:=h.pos t hc.l
 intro w
 induction w with
 | zero=>intro t' c L q hw ht _;omega
 | succ w ih=>
  intro t' c L q hw ht he
  have ihB:∀s,t<s→s≤t' - 1→g.led s→agree (g.B s) (g.T t) k:=fun s s1 s2 s3=>by
   obtain ⟨c',hl⟩:=s3
   obtain ⟨q',he'⟩:=h.el s c' hl
   exact ih s c' (g.B s) q' (by omega) s1 he'
  have hn:=hc.n1
  have hkn:=hc.kn
  have tl:((g.T t).take n).length=n:=by rw [List.length_take];omega
  have tg:∀j,j≤n→agree ((g.T t).take n) (g.T t) j:=fun j hj=>agree.take hj hn
  have gT:GL g ((g.T t).take n):=fun i hi=>by
   rw [tl] at hi
   have:=(tg n (Nat.le_refl _)).at hi
   obtain ⟨a,b⟩:=h.gl t hc.l i (by omega)
   rw [this]
   exact ⟨a,(tg (i+1) (by omega)).trans b⟩
  have cT:∀j,j≤((g.T t).take n).length→Okc st (memL ((g.T t).take n) st j):=fun j hj=>by
   rw [tl] at hj
   rw [(tg j hj).cfg];exact h.cs t hc.l j (by omega)
  have eT:memL ((g.T t).take n) st ((g.T t).take n).length=memL (g.T t) st n:=by rw [tl,(tg n (Nat.le_refl _)).cfg]
  have inT:¬ agree L (g.T t) k→∀i,i<L.length→∀k' n',Cm st g (ex L i).Term k' n'→memL (g.T (ex L i).Term) st n'=[0,1,2,3]→agree ((g.T t).take n) (g.T (ex L i).Term) k':=fun hno i hi k' n' hc' hC'=>by
   obtain ⟨lu,au⟩:=he.gl i hi
   have ut:=he.lo i hi
   rcases Int.lt_trichotomy (ex L i).Term t with hlt | heq | hgt
   ·obtain ⟨c',hl⟩:=hc.l
    obtain ⟨q',he'⟩:=h.el t c' hl
    have a1:=lcC h hc' hC' _ t c' (g.B t) q' (Nat.le_refl _) hlt he'
    have a2:agree (g.T t) (g.T (ex L i).Term) k':=((h.base t hc.l).mono a1.1).symm.trans a1
    have hk:k'≤n:=by
     rcases Nat.lt_or_ge n k' with hx | hx
     ·exfalso
      have:=h.tmL (h.gl t hc.l) (show k≤k' by omega) a2.1
      rw [hc.own,a2.tm,hc'.own] at this;omega
     ·exact hx
    exact (tg k' hk).trans a2
   ·rw [heq] at hc' hC' ⊢
    by_cases hk:k'≤n
    ·exact tg k' hk
    ·have:=lcC h hc' hC' _ t' c L q (Nat.le_refl _) ht he
     exact absurd (this.mono (by omega)) hno
   ·have b:=ihB _ hgt (by omega) lu
    have b2:agree (g.T (ex L i).Term) (g.T t) k:=((h.base _ lu).mono b.1).symm.trans b
    have hk:k≤i+1:=by
     rcases Nat.lt_or_ge (i+1) k with hx | hx
     ·exfalso
      have e1:=(b2.mono (show i+1≤k by omega)).tm
      rw [← au.tm,tm_succ] at e1
      have e2:=h.tmL (h.gl t hc.l) (show i+1≤k by omega) (by omega)
      rw [hc.own,← e1] at e2;omega
     ·exact hx
    exact absurd ((au.mono hk).trans b2) hno
  refine Classical.byContradiction fun hno=>?_
  obtain ⟨q0,m0,hq0⟩:=hc.q
  rcases meet_or (h.cs t hc.l n hn) (he.cs _ (Nat.le_refl _)) with m | ⟨m1,m2,m3⟩ | ⟨m1,m2,m3⟩
  ·exact hno (lcq h (Int.le_refl _) he hc ht hq0 (m _ _ m0 he.most) ihB)
  ·have hs:st≠[0]:=by
    rcases h.cs t hc.l n hn with ⟨_,e⟩ | ⟨e,_⟩
    ·rw [m1] at e;cases e
    ·exact e
   refine apart h hs gT he.gl cT he.cs (eT.trans m1) ⟨m2,m3⟩ (fun i hi k' n' hc' hC'=>?_) (inT hno)
   have hi':i<(g.T t).length:=by rw [tl] at hi;omega
   have e:=(tg n (Nat.le_refl _)).at (show i<n by rw [tl] at hi;exact hi)
   have le:=(h.mono _ _ (Nat.le_refl _) hc.l i i (Nat.le_refl _) hi').2
   rw [← e] at le
   exact lcC h hc' hC' _ t' c L q (Nat.le_refl _) (by omega) he
  ·have hs:st≠[0]:=by
    rcases he.cs _ (Nat.le_refl _) with ⟨_,e⟩ | ⟨e,_⟩
    ·rw [m1] at e;cases e
    ·exact e
   refine apart h hs he.gl gT he.cs cT m1 ⟨by rw [eT];exact m2,by rw [eT];exact m3⟩ (inT hno) (fun i hi k' n' hc' hC'=>?_)
   have hi':i<(g.T t).length:=by rw [tl] at hi;omega
   have e:=(tg n (Nat.le_refl _)).at (show i<n by rw [tl] at hi;exact hi)
   have le:=(h.mono _ _ (Nat.le_refl _) hc.l i i (Nat.le_refl _) hi').2
   rw [← e] at le
   exact lcC h hc' hC' _ t' c L q (Nat.le_refl _) (by omega) he
def Kept (g:Gh) (V:List Entry) (v b:Int) (s:Int):Prop:=∀k,k≤g.A v s→agree V (g.T s) k∨∃u,s<u∧u≤b∧g.led u∧¬ agree (g.B u) (g.T s) k
structure VI (st:List Int) (g:Gh) (nd:Int→Node) (v t c:Int):Prop where
 pos:1≤t
 le:t≤(nd c).Term
 self:g.vote c t=some c
 gl:GL g (g.CL c t)
 lo:∀i,i<(g.CL c t).length→(ex (g.CL c t) i).Term<t
 up:upto (g.VL v t) (g.CL c t)
 glv:GL g (g.VL v t)
 kept:∀s,s<t→Kept g (g.VL v t) v t s
structure NI (st:List Int) (g:Gh) (v:Int) (x:Node):Prop where
 id:x.Id=v
 start:x.Start=st
 t0:0≤x.Term
 gl:GL g x.Log
 tle:∀i,i<x.Log.length→(ex x.Log i).Term≤x.Term
 vote:∀t c,g.vote v t=some c→t≤x.Term
 cur:∀c,g.vote v x.Term=some c→x.Vote=c∧c≠-1
 cur2:x.Vote≠-1→g.vote v x.Term=some x.Vote
 ack:∀t,0<g.A v t→t≤x.Term
 kept:∀s,Kept g x.Log v x.Term s
 lead:x.Role=2→g.lead x.Term=some v∧g.T x.Term=x.Log
 mt:x.Role=2→∀j:Nat,j<7→ix x.Match j≤g.A j x.Term
 com:x.Role=2→0<x.Commit→tm x.Log x.Commit.toNat=x.Term→∃n,Cm st g x.Term x.Commit.toNat n
 cand:x.Role=1→g.vote v x.Term=some v∧g.CL v x.Term=x.Log∧∀u,u∈x.Votes→g.vote u x.Term=some v
structure Inv (st:List Int) (g:Gh) (nd:Int→Node):Prop where
 hist:Hist st g
 ni:∀v,NI st g v (nd v)
 ld:∀t c,g.lead t=some c→t≤(nd c).Term∧(t=(nd c).Term→(nd c).Role≠1)
 self:∀t c,g.lead t=some c→g.A c t=(g.T t).length
 vi:∀v t c,g.vote v t=some c→VI st g nd v t c
 ack:∀v t,0<g.A v t→g.led t∧g.A v t≤(g.T t).length
structure MI (g:Gh) (m:Message):Prop where
 k1:m.Kind=1→g.vote m.From m.Term=some m.From∧m.Index=((g.CL m.From m.Term).length:Int)∧m.LogTerm=tm (g.CL m.From m.Term) (g.CL m.From m.Term).length
 k2:m.Kind=2→m.Ok=true→g.vote m.From m.Term=some m.To
 k3:m.Kind=3→g.lead m.Term=some m.From∧m.From≠m.To∧∃k:Nat,m.Index=(k:Int)∧k+m.Entries.length≤(g.T m.Term).length∧m.Entries=((g.T m.Term).drop k).take m.Entries.length∧m.LogTerm=tm (g.T m.Term) k
 k4:m.Kind=4→m.Ok=true→m.Index≤g.A m.From m.Term
structure Ext (g g':Gh):Prop where
 lead:∀t c,g.lead t=some c→g'.lead t=some c
 T:∀t,g.led t→∃X,g'.T t=g.T t++X
 B:∀t,g.led t→g'.B t=g.B t
 vote:∀v t c,g.vote v t=some c→g'.vote v t=some c∧g'.VL v t=g.VL v t∧g'.CL c t=g.CL c t
 A:∀v t,g.A v t≤g'.A v t
 late:∀v t,g.A v t<g'.A v t→∀u c,g.vote v u=some c→u≤t
theorem Ext.led {g g':Gh} (h:Ext g g') {t:Int} (hl:g.led t):g'.led t:=by
 obtain ⟨c,hc⟩:=hl;exact ⟨c,h.lead t c hc⟩
theorem Ext.agT {g g':Gh} (h:Ext g g') {t:Int} (hl:g.led t) {L:List Entry} {k:Nat} (a:agree L (g.T t) k):agree L (g'.T t) k:=by
 obtain ⟨X,e⟩:=h.T t hl
 rw [e];exact a.app X
theorem Ext.agT' {g g':Gh} (h:Ext g g') {t:Int} (hl:g.led t) {L:List Entry} {k:Nat} (hk:k≤(g.T t).length) (a:agree L (g'.T t) k):agree L (g.T t) k:=by
 obtain ⟨X,e⟩:=h.T t hl
 have:agree (g.T t) (g'.T t) k:=by rw [e];exact (agree.self hk).app X
 exact a.trans this.symm
theorem GL.ext {g g':Gh} (h:Ext g g') {L:List Entry} (hL:GL g L):GL g' L:=fun i hi=>by
 obtain ⟨a,b⟩:=hL i hi
 exact ⟨h.led a,h.agT a b⟩
theorem Ext.Tag {g g':Gh} (h:Ext g g') {t:Int} (hl:g.led t):agree (g.T t) (g'.T t) (g.T t).length:=h.agT hl (agree.self (Nat.le_refl _))
theorem Cm.ext {st:List Int} {g g':Gh} (h:Ext g g') {t:Int} {k n:Nat} (c:Cm st g t k n):Cm st g' t k n:=by
 have a:=h.Tag c.l
 obtain ⟨q,q1,q2⟩:=c.q
 refine ⟨h.led c.l,c.k0,c.kn,Nat.le_trans c.n1 a.2.1,?_,q,?_,fun v hv=>Nat.le_trans (q2 v hv) (h.A v t)⟩
 ·rw [← (a.mono (show k≤_ from Nat.le_trans c.kn c.n1)).tm];exact c.own
 ·rw [← (a.mono c.n1).cfg];exact q1
theorem Kept.ext {g g':Gh} (h:Ext g g') {V:List Entry} {v b s:Int} (hA:g'.A v s=g.A v s) (hs:0<g.A v s→g.led s∧g.A v s≤(g.T s).length) (hk:Kept g V v b s):Kept g' V v b s:=fun k hle=>by
 rw [hA] at hle
 by_cases k0:k=0
 ·rw [k0];exact .inl ⟨Nat.zero_le _,Nat.zero_le _,by simp⟩
 obtain ⟨l,le⟩:=hs (by omega)
 rcases hk k hle with a | ⟨u,u1,u2,u3,u4⟩
 ·exact .inl (h.agT l a)
 ·refine .inr ⟨u,u1,u2,h.led u3,fun hn=>u4 ?_⟩
  rw [h.B u u3] at hn
  exact h.agT' l (by omega) hn
theorem Kept.le {g:Gh} {V:List Entry} {v b b' s:Int} (hb:b≤b') (hk:Kept g V v b s):Kept g V v b' s:=fun k hle=>by
 rcases hk k hle with a | ⟨u,u1,u2,u3⟩
 ·exact .inl a
 ·exact .inr ⟨u,u1,by omega,u3⟩
theorem Elec.ext {st:List Int} {g g':Gh} (h:Ext g g') (hack:∀v t,0<g.A v t→g.led t∧g.A v t≤(g.T t).length) {t b c:Int} {L:List Entry} {q:Int→Bool} (e:Elec st g t b c L q):Elec st g' t b c L q:=by
 refine ⟨e.gl.ext h,e.lo,e.most,e.cs,fun v hv=>?_⟩
 obtain ⟨a,b,c',d⟩:=e.v v hv
 obtain ⟨a1,a2,_⟩:=h.vote v t c a
 rw [a2]
 refine ⟨a1,b.ext h,c',fun s hs k hk=>?_⟩
 have hA:g'.A v s=g.A v s:=by
  have:=h.A v s
  rcases Nat.lt_or_ge (g.A v s) (g'.A v s) with hlt | hge
  ·have:=h.late v s hlt t c a;omega
  ·omega
 rw [hA] at hk
 by_cases k0:k=0
 ·rw [k0];exact .inl ⟨Nat.zero_le _,Nat.zero_le _,by simp⟩
 obtain ⟨l,le⟩:=hack v s (by omega)
 rcases d s hs k hk with x | ⟨u,u1,u2,u3,u4⟩
 ·exact .inl (h.agT l x)
 ·refine .inr ⟨u,u1,u2,h.led u3,fun hn=>u4 ?_⟩
  rw [h.B u u3] at hn
  exact h.agT' l (by omega) hn
theorem MI.ext {g g':Gh} (h:Ext g g') {m:Message} (hm:MI g m):MI g' m:=by
 refine ⟨fun e=>?_,fun e o=>(h.vote _ _ _ (hm.k2 e o)).1,fun e=>?_,fun e o=>Int.le_trans (hm.k4 e o) (by have:=h.A m.From m.Term;omega)⟩
 ·obtain ⟨a,b,c⟩:=hm.k1 e
  obtain ⟨a1,_,a3⟩:=h.vote _ _ _ a
  rw [a3];exact ⟨a1,b,c⟩
 ·obtain ⟨a,b,k,k1,k2,k3,k4⟩:=hm.k3 e
  have hl:g.led m.Term:=⟨_,a⟩
  have tag:=h.Tag hl
  obtain ⟨X,eX⟩:=h.T _ hl
  refine ⟨h.lead _ _ a,b,k,k1,Nat.le_trans k2 tag.2.1,?_,?_⟩
  ·rw [eX,List.drop_append_of_le_length (by omega),List.take_append_of_le_length (by rw [List.length_drop];omega)];exact k3
  ·rw [k4];exact (tag.mono (by omega)).tm
theorem Hist.okc {st:List Int} {g:Gh} (h:Hist st g) {L:List Entry} (hL:GL g L) {j:Nat} (hj:j≤L.length):Okc st (memL L st j):=by
 cases j with
 | zero=>
  show Okc st st
  rcases h.s0 with e | e | e
  ·exact .inl ⟨e,e⟩
  ·exact .inr ⟨by rw [e];decide,.inl e⟩
  ·exact .inr ⟨by rw [e];decide,.inr (.inl e)⟩
 | succ j=>
  obtain ⟨l,a⟩:=hL j (by omega)
  rw [a.cfg]
  exact h.cs _ l (j+1) a.2.1
theorem Hist.same {st:List Int} {g g':Gh} (h:Hist st g) (e:Ext g g') (hack:∀v t,0<g.A v t→g.led t∧g.A v t≤(g.T t).length) (hl:g'.lead=g.lead) (hT:g'.T=g.T) (hB:g'.B=g.B):Hist st g':=by
 have ll:∀t,g'.led t→g.led t:=fun t ⟨c,hc⟩=>⟨c,by rw [hl] at hc;exact hc⟩
 refine ⟨h.s0,fun t ht=>h.pos t (ll t ht),fun t ht=>?_,fun t ht=>?_,fun t ht=>?_,fun t ht=>?_,fun t c ht=>?_,fun t ht=>?_,fun t ht=>?_⟩
 ·rw [hT];exact (h.gl t (ll t ht)).ext e
 ·rw [hT,hB];exact h.base t (ll t ht)
 ·rw [hB];exact h.low t (ll t ht)
 ·rw [hT,hB];exact h.own t (ll t ht)
 ·rw [hl] at ht
  obtain ⟨q,hq⟩:=h.el t c ht
  rw [hB];exact ⟨q,hq.ext e hack⟩
 ·rw [hT,hB]
  intro i i1 i2 i3
  obtain ⟨⟨k,n,a,b,c,d⟩,ad⟩:=h.cf t (ll t ht) i i1 i2 i3
  exact ⟨⟨k,n,a,b,c.ext e,by rw [hT];exact d⟩,by rw [hT];exact ad⟩
 ·rw [hT];exact h.cs t (ll t ht)
structure Only (v:Int) (g g':Gh):Prop where
 vote:∀w,w≠v→g'.vote w=g.vote w
 A:∀w,w≠v→g'.A w=g.A w
 CL:∀w,w≠v→g'.CL w=g.CL w
 T:∀w t,w≠v→g.lead t=some w→g'.T t=g.T t
theorem NI.other {st:List Int} {g g':Gh} {nd:Int→Node} (I:Inv st g nd) (e:Ext g g') {v w:Int} (o:Only v g g') (hw:w≠v):NI st g' w (nd w):=by
 have n:=I.ni w
 refine ⟨n.id,n.start,n.t0,n.gl.ext e,n.tle,?_,?_,?_,?_,fun s=>?_,fun hr=>?_,fun hr j hj=>?_,fun hr c0 ct=>?_,fun hr=>?_⟩
 ·rw [o.vote w hw];exact n.vote
 ·rw [o.vote w hw];exact n.cur
 ·rw [o.vote w hw];exact n.cur2
 ·rw [o.A w hw];exact n.ack
 ·exact (n.kept s).ext e (by rw [o.A w hw]) (I.ack w s)
 ·obtain ⟨a,b⟩:=n.lead hr
  exact ⟨e.lead _ _ a,by rw [o.T w _ hw a];exact b⟩
 ·have:=n.mt hr j hj
  have:=e.A j (nd w).Term
  omega
 ·obtain ⟨k,hk⟩:=n.com hr c0 ct
  exact ⟨k,hk.ext e⟩
 ·obtain ⟨a,b,c⟩:=n.cand hr
  refine ⟨(e.vote _ _ _ a).1,by rw [o.CL w hw];exact b,fun u hu=>(e.vote _ _ _ (c u hu)).1⟩
def upd (nd:Int→Node) (v:Int) (x:Node):Int→Node:=fun w=>if w=v then x else nd w
theorem upd_same (nd:Int→Node) (v:Int) (x:Node):upd nd v x v=x:=if_pos rfl
theorem upd_other (nd:Int→Node) {v w:Int} (x:Node) (h:w≠v):upd nd v x w=nd w:=if_neg h
theorem upd_term {nd:Int→Node} {v:Int} {x:Node} (h:(nd v).Term≤x.Term) (w:Int):(nd w).Term≤(upd nd v x w).Term:=by
 by_cases e:w=v
 ·rw [e,upd_same];exact h
 ·rw [upd_other nd x e];exact Int.le_refl _
theorem VI.ext {st:List Int} {g g':Gh} {nd nd':Int→Node} (I:Inv st g nd) (e:Ext g g') (ht:∀w,(nd w).Term≤(nd' w).Term) {v t c:Int} (hv:g.vote v t=some c) (h:VI st g nd v t c):VI st g' nd' v t c:=by
 obtain ⟨a1,a2,a3⟩:=e.vote v t c hv
 refine ⟨h.pos,Int.le_trans h.le (ht c),(e.vote _ _ _ h.self).1,by rw [a3];exact h.gl.ext e,by rw [a3];exact h.lo,by rw [a2,a3];exact h.up,by rw [a2];exact h.glv.ext e,fun s hs=>?_⟩
 rw [a2]
 refine (h.kept s hs).ext e ?_ (I.ack v s)
 have:=e.A v s
 rcases Nat.lt_or_ge (g.A v s) (g'.A v s) with hlt | hge
 ·have:=e.late v s hlt t c hv;omega
 ·omega
theorem Ext.rfl' (g:Gh):Ext g g:=⟨fun _ _ h=>h,fun t _=>⟨[],by simp⟩,fun _ _=>rfl,fun _ _ _ h=>⟨h,rfl,rfl⟩,fun _ _=>Nat.le_refl _,fun v t h=>absurd h (Nat.lt_irrefl _)⟩
theorem Only.rfl' (v:Int) (g:Gh):Only v g g:=⟨fun _ _=>rfl,fun _ _=>rfl,fun _ _=>rfl,fun _ _ _ _=>rfl⟩
theorem Inv.put {st:List Int} {g:Gh} {nd:Int→Node} (I:Inv st g nd) {v:Int} {x:Node} (ht:(nd v).Term≤x.Term) (hn:NI st g v x) (hl:∀t,g.lead t=some v→t=x.Term→x.Role≠1):Inv st g (upd nd v x):=by
 refine ⟨I.hist,fun w=>?_,fun t c hc=>?_,I.self,fun w t c hv=>(I.vi w t c hv).ext I (Ext.rfl' g) (upd_term ht) hv,I.ack⟩
 ·by_cases e:w=v
  ·subst e;rw [upd_same];exact hn
  ·rw [upd_other nd x e];exact I.ni w
 ·by_cases e:c=v
  ·subst e;rw [upd_same]
   exact ⟨Int.le_trans (I.ld t c hc).1 ht,hl t hc⟩
  ·rw [upd_other nd x e];exact I.ld t c hc
theorem Inv.fr {st:List Int} {g:Gh} {nd:Int→Node} (I:Inv st g nd) {v:Int} {x:Node} (h1:x.Id=(nd v).Id) (h2:x.Start=(nd v).Start) (h3:x.Term=(nd v).Term) (h4:x.Vote=(nd v).Vote) (h5:x.Log=(nd v).Log) (h6:x.Role=0∨(x.Role=(nd v).Role∧x.Votes=(nd v).Votes∧x.Match=(nd v).Match∧x.Commit=(nd v).Commit)):Inv st g (upd nd v x):=by
 have n:=I.ni v
 refine I.put (by rw [h3];exact Int.le_refl _) ⟨h1.trans n.id,h2.trans n.start,by rw [h3];exact n.t0,by rw [h5];exact n.gl,by rw [h3,h5];exact n.tle,by rw [h3];exact n.vote,by rw [h3,h4];exact n.cur,by rw [h3,h4];exact n.cur2,by rw [h3];exact n.ack,by rw [h3,h5];exact n.kept,fun hr=>?_,fun hr=>?_,fun hr=>?_,fun hr=>?_⟩ fun t hl ht=>?_
 ·rcases h6 with h | ⟨a,b,c,d⟩
  ·rw [h] at hr;cases hr
  ·rw [h3,h5];exact n.lead (by rw [← a];exact hr)
 ·rcases h6 with h | ⟨a,b,c,d⟩
  ·rw [h] at hr;cases hr
  ·rw [h3,c];exact n.mt (by rw [← a];exact hr)
 ·rcases h6 with h | ⟨a,b,c,d⟩
  ·rw [h] at hr;cases hr
  ·rw [h3,h5,d];exact n.com (by rw [← a];exact hr)
 ·rcases h6 with h | ⟨a,b,c,d⟩
  ·rw [h] at hr;cases hr
  ·rw [h3,h5,b];exact n.cand (by rw [← a];exact hr)
 ·rcases h6 with h | ⟨a,b,c,d⟩
  ·rw [h];decide
  ·rw [a];exact (I.ld t v hl).2 (by rw [ht,h3])
theorem Inv.bump {st:List Int} {g:Gh} {nd:Int→Node} (I:Inv st g nd) {v:Int} {x:Node} (h1:x.Id=(nd v).Id) (h2:x.Start=(nd v).Start) (h3:(nd v).Term<x.Term) (h4:x.Vote = -1) (h5:x.Log=(nd v).Log) (h6:x.Role=0):Inv st g (upd nd v x):=by
 have n:=I.ni v
 have hle:=Int.le_of_lt h3
 refine I.put hle ⟨h1.trans n.id,h2.trans n.start,Int.le_trans n.t0 hle,by rw [h5];exact n.gl,fun i hi=>?_,fun t c hv=>Int.le_trans (n.vote t c hv) hle,fun c hc=>?_,fun hc=>absurd h4 hc,fun t ha=>Int.le_trans (n.ack t ha) hle,fun s=>?_,fun hr=>?_,fun hr=>?_,fun hr=>?_,fun hr=>?_⟩ fun t hl ht=>?_
 ·rw [h5] at hi ⊢;exact Int.le_trans (n.tle i hi) hle
 ·have:=n.vote _ c hc;omega
 ·rw [h5];exact (n.kept s).le hle
 ·rw [h6] at hr;cases hr
 ·rw [h6] at hr;cases hr
 ·rw [h6] at hr;cases hr
 ·rw [h6] at hr;cases hr
 ·rw [h6];decide
def Gh.giv (g:Gh) (v t c:Int) (L:List Entry) (self:Bool):Gh:={ g with
 vote:=fun w u=>if w=v∧u=t then some c else g.vote w u
 VL:=fun w u=>if w=v∧u=t then L else g.VL w u
 CL:=fun w u=>if self=true∧w=v∧u=t then L else g.CL w u }
theorem giv_ext {st:List Int} {g:Gh} {nd:Int→Node} (I:Inv st g nd) {v t c:Int} {L:List Entry} {self:Bool} (hno:∀d,g.vote v t≠some d) (hs:self=true→(nd v).Term<t):Ext g (g.giv v t c L self):=by
 refine ⟨fun _ _ h=>h,fun t _=>⟨[],by simp [Gh.giv]⟩,fun _ _=>rfl,fun w u d h=>?_,fun _ _=>Nat.le_refl _,fun v t h=>absurd h (Nat.lt_irrefl _)⟩
 have hne:¬ (w=v∧u=t):=fun ⟨a,b⟩=>by subst a;subst b;exact hno d h
 refine ⟨?_,?_,?_⟩
 ·show (if w=v∧u=t then some c else g.vote w u)=some d
  rw [if_neg hne];exact h
 ·show (if w=v∧u=t then L else g.VL w u)=g.VL w u
  rw [if_neg hne]
 ·show (if self=true∧d=v∧u=t then L else g.CL d u)=g.CL d u
  rw [if_neg]
  rintro ⟨a,b,e⟩
  have:=(I.vi w u d h).le
  rw [b] at this
  have:=hs a
  omega
theorem giv_only (g:Gh) (v t c:Int) (L:List Entry) (self:Bool):Only v g (g.giv v t c L self):=by
 refine ⟨fun w hw=>funext fun u=>?_,fun w _=>rfl,fun w hw=>funext fun u=>?_,fun _ _ _ _=>rfl⟩
 ·show (if w=v∧u=t then some c else g.vote w u)=_
  rw [if_neg fun h=>hw h.1]
 ·show (if self=true∧w=v∧u=t then L else g.CL w u)=_
  rw [if_neg fun h=>hw h.2.1]
theorem Inv.vote {st:List Int} {g:Gh} {nd:Int→Node} (I:Inv st g nd) {v t c:Int} {x:Node} {self:Bool} (hno:∀d,g.vote v t≠some d) (hs:self=true→(nd v).Term<t) (ht:(nd v).Term≤t) (hx:x.Term=t) (hl:x.Log=(nd v).Log) (hn:NI st (g.giv v t c (nd v).Log self) v x) (hv:VI st (g.giv v t c (nd v).Log self) (upd nd v x) v t c) (hld:∀u,g.lead u=some v→u=t→x.Role≠1):Inv st (g.giv v t c (nd v).Log self) (upd nd v x):=by
 have e:=giv_ext I (c:=c) (L:=(nd v).Log) hno hs
 have o:=giv_only g v t c (nd v).Log self
 refine ⟨I.hist.same e I.ack rfl rfl rfl,fun w=>?_,fun u d hd=>?_,I.self,fun w u d hd=>?_,I.ack⟩
 ·by_cases ew:w=v
  ·subst ew;rw [upd_same];exact hn
  ·rw [upd_other nd x ew];exact NI.other I e o ew
 ·have hd:g.lead u=some d:=hd
  by_cases ew:d=v
  ·subst ew;rw [upd_same]
   exact ⟨by rw [hx];exact Int.le_trans (I.ld u d hd).1 ht,fun h=>hld u hd (h.trans hx)⟩
  ·rw [upd_other nd x ew];exact I.ld u d hd
 ·by_cases hq:w=v∧u=t
  ·obtain ⟨rfl,rfl⟩:=hq
   have:(if w=w∧u=u then some c else g.vote w u)=some d:=hd
   rw [if_pos ⟨rfl,rfl⟩] at this
   cases this
   exact hv
  ·have:(if w=v∧u=t then some c else g.vote w u)=some d:=hd
   rw [if_neg hq] at this
   exact (I.vi w u d this).ext I e (upd_term (by rw [hx];exact ht)) this
theorem giv_vote (g:Gh) (v t c:Int) (L:List Entry) (self:Bool):(g.giv v t c L self).vote v t=some c:=by
 show (if v=v∧t=t then some c else g.vote v t)=some c
 rw [if_pos ⟨rfl,rfl⟩]
theorem giv_old {g:Gh} {v t c:Int} {L:List Entry} {self:Bool} {w u d:Int} (h:(g.giv v t c L self).vote w u=some d):(w=v∧u=t∧d=c)∨g.vote w u=some d:=by
 have h:(if w=v∧u=t then some c else g.vote w u)=some d:=h
 split at h
 ·rename_i hq;cases h;exact .inl ⟨hq.1,hq.2,rfl⟩
 ·exact .inr h
theorem giv_VL (g:Gh) (v t c:Int) (L:List Entry) (self:Bool):(g.giv v t c L self).VL v t=L:=by
 show (if v=v∧t=t then L else g.VL v t)=L
 rw [if_pos ⟨rfl,rfl⟩]
theorem giv_CL (g:Gh) (v t c:Int) (L:List Entry):(g.giv v t c L true).CL v t=L:=by
 show (if true=true∧v=v∧t=t then L else g.CL v t)=L
 rw [if_pos ⟨rfl,rfl,rfl⟩]
theorem Inv.stand {st:List Int} {g:Gh} {nd:Int→Node} (I:Inv st g nd) {v:Int} {x:Node} (hv:v≠-1) (h1:x.Id=(nd v).Id) (h2:x.Start=(nd v).Start) (h3:x.Term=(nd v).Term+1) (h4:x.Vote=v) (h5:x.Log=(nd v).Log) (h6:x.Role=1) (h7:x.Votes=[v]):∃g',Ext g g'∧Inv st g' (upd nd v x):=by
 have n:=I.ni v
 have hno:∀d,g.vote v x.Term≠some d:=fun d h=>by have:=n.vote _ d h;omega
 have e:=giv_ext I (c:=v) (L:=(nd v).Log) (self:=true) hno (fun _=>by omega)
 have gv:=giv_vote g v x.Term v (nd v).Log true
 have gc:=giv_CL g v x.Term v (nd v).Log
 have gl:=giv_VL g v x.Term v (nd v).Log true
 have kp:∀s,Kept (g.giv v x.Term v (nd v).Log true) (nd v).Log v x.Term s:=fun s=>((n.kept s).ext e rfl (I.ack v s)).le (by omega)
 have tl:∀i,i<(nd v).Log.length→(ex (nd v).Log i).Term<x.Term:=fun i hi=>by have:=n.tle i hi;omega
 refine ⟨_,e,I.vote (self:=true) hno (fun _=>by omega) (by omega) rfl h5 ?_ ?_ ?_⟩
 ·refine ⟨h1.trans n.id,h2.trans n.start,by have:=n.t0;omega,by rw [h5];exact n.gl.ext e,fun i hi=>by rw [h5] at hi ⊢;exact Int.le_of_lt (tl i hi),fun t d hd=>?_,fun d hd=>?_,fun _=>by rw [gv,h4],fun t ha=>by have:=n.ack t ha;omega,fun s=>by rw [h5];exact kp s,fun hr=>?_,fun hr=>?_,fun hr=>?_,fun hr=>⟨gv,by rw [gc,h5],fun u hu=>?_⟩⟩
  ·rcases giv_old hd with ⟨_,q,_⟩ | q
   ·rw [q];exact Int.le_refl _
   ·have:=n.vote t d q;omega
  ·rw [gv] at hd;cases hd;exact ⟨h4,hv⟩
  ·rw [h6] at hr;cases hr
  ·rw [h6] at hr;cases hr
  ·rw [h6] at hr;cases hr
  ·rw [h7,List.mem_singleton] at hu;rw [hu];exact gv
 ·exact ⟨by have:=n.t0;omega,by rw [upd_same];exact Int.le_refl _,gv,by rw [gc];exact n.gl.ext e,by rw [gc];exact tl,by rw [gc,gl];exact .inr ⟨rfl,Nat.le_refl _⟩,by rw [gl];exact n.gl.ext e,fun s _=>by rw [gl];exact kp s⟩
 ·intro u hu hut
  have:=(I.ld u v hu).1
  omega
theorem Inv.give {st:List Int} {g:Gh} {nd:Int→Node} (I:Inv st g nd) {v c:Int} {x:Node} (hc:c≠-1) (hf:(nd v).Vote = -1) (h1:x.Id=(nd v).Id) (h2:x.Start=(nd v).Start) (h3:x.Term=(nd v).Term) (h4:x.Vote=c) (h5:x.Log=(nd v).Log) (h6:x.Role=(nd v).Role) (h8:x.Match=(nd v).Match) (h9:x.Commit=(nd v).Commit) (hm:g.vote c x.Term=some c) (hu:upto (nd v).Log (g.CL c x.Term)):∃g',Ext g g'∧Inv st g' (upd nd v x)∧g'.vote v x.Term=some c:=by
 have n:=I.ni v
 have hno:∀d,g.vote v x.Term≠some d:=fun d h=>by
  rw [h3] at h
  have:=n.cur d h
  omega
 have e:=giv_ext I (c:=c) (L:=(nd v).Log) (self:=false) hno (fun h=>by cases h)
 have gv:=giv_vote g v x.Term c (nd v).Log false
 have gl:=giv_VL g v x.Term c (nd v).Log false
 have kp:∀s,Kept (g.giv v x.Term c (nd v).Log false) (nd v).Log v x.Term s:=fun s=>((n.kept s).ext e rfl (I.ack v s)).le (by omega)
 have hr1:(nd v).Role≠1:=fun hr=>by
  have:=n.cur v (n.cand hr).1
  rw [hf] at this
  exact this.2 this.1.symm
 have w:=I.vi c x.Term c hm
 have gce:(g.giv v x.Term c (nd v).Log false).CL c x.Term=g.CL c x.Term:=(e.vote _ _ _ hm).2.2
 refine ⟨_,e,I.vote (self:=false) hno (fun h=>by cases h) (by omega) rfl h5 ?_ ?_ ?_,gv⟩
 ·refine ⟨h1.trans n.id,h2.trans n.start,by have:=n.t0;omega,by rw [h5];exact n.gl.ext e,fun i hi=>by rw [h5] at hi ⊢;have:=n.tle i hi;omega,fun t d hd=>?_,fun d hd=>?_,fun _=>by rw [gv,h4],fun t ha=>by have:=n.ack t ha;omega,fun s=>by rw [h5];exact kp s,fun hr=>?_,fun hr=>?_,fun hr=>?_,fun hr=>?_⟩
  ·rcases giv_old hd with ⟨_,q,_⟩ | q
   ·rw [q];exact Int.le_refl _
   ·have:=n.vote t d q;omega
  ·rw [gv] at hd;cases hd;exact ⟨h4,hc⟩
  ·rw [h3,h5];exact n.lead (by rw [← h6];exact hr)
  ·rw [h3,h8];exact n.mt (by rw [← h6];exact hr)
  ·rw [h3,h5,h9]
   intro c0 ct
   obtain ⟨k,hk⟩:=n.com (by rw [← h6];exact hr) c0 ct
   have:=hk.ext e
   exact ⟨k,by rw [← h3] at this ⊢;exact this⟩
  ·rw [h6] at hr;exact absurd hr hr1
 ·refine ⟨w.pos,Int.le_trans w.le (upd_term (by omega) c),(e.vote _ _ _ hm).1,by rw [gce];exact w.gl.ext e,by rw [gce];exact w.lo,by rw [gce,gl];exact hu,by rw [gl];exact n.gl.ext e,fun s _=>by rw [gl];exact kp s⟩
 ·intro u hu hut
  rw [h6];exact hr1
theorem Inv.votes {st:List Int} {g:Gh} {nd:Int→Node} (I:Inv st g nd) {v:Int} {x:Node} (h1:x.Id=(nd v).Id) (h2:x.Start=(nd v).Start) (h3:x.Term=(nd v).Term) (h4:x.Vote=(nd v).Vote) (h5:x.Log=(nd v).Log) (h6:x.Role=(nd v).Role) (hr:(nd v).Role=1) (h7:∀u,u∈x.Votes→g.vote u x.Term=some v):Inv st g (upd nd v x):=by
 have n:=I.ni v
 have x1:x.Role=1:=h6.trans hr
 refine I.put (by rw [h3];exact Int.le_refl _) ⟨h1.trans n.id,h2.trans n.start,by rw [h3];exact n.t0,by rw [h5];exact n.gl,by rw [h3,h5];exact n.tle,by rw [h3];exact n.vote,by rw [h3,h4];exact n.cur,by rw [h3,h4];exact n.cur2,by rw [h3];exact n.ack,by rw [h3,h5];exact n.kept,fun hr=>?_,fun hr=>?_,fun hr=>?_,fun hr'=>⟨by rw [h3];exact (n.cand hr).1,by rw [h3,h5];exact (n.cand hr).2.1,h7⟩⟩ fun t hl ht=>?_
 ·rw [x1] at hr;cases hr
 ·rw [x1] at hr;cases hr
 ·rw [x1] at hr;cases hr
 ·exact absurd hr ((I.ld t v hl).2 (by rw [ht,h3]))
theorem Inv.led {st:List Int} {g:Gh} {nd:Int→Node} (I:Inv st g nd) {v:Int} {x:Node} (h1:x.Id=(nd v).Id) (h2:x.Start=(nd v).Start) (h3:x.Term=(nd v).Term) (h4:x.Vote=(nd v).Vote) (h5:x.Log=(nd v).Log) (h6:x.Role=(nd v).Role) (hr:(nd v).Role=2) (h7:∀j:Nat,j<7→ix x.Match j≤g.A j x.Term) (h8:0<x.Commit→tm x.Log x.Commit.toNat=x.Term→∃n,Cm st g x.Term x.Commit.toNat n):Inv st g (upd nd v x):=by
 have n:=I.ni v
 have x1:x.Role=2:=h6.trans hr
 refine I.put (by rw [h3];exact Int.le_refl _) ⟨h1.trans n.id,h2.trans n.start,by rw [h3];exact n.t0,by rw [h5];exact n.gl,by rw [h3,h5];exact n.tle,by rw [h3];exact n.vote,by rw [h3,h4];exact n.cur,by rw [h3,h4];exact n.cur2,by rw [h3];exact n.ack,by rw [h3,h5];exact n.kept,fun _=>?_,fun _=>h7,fun _=>h8,fun hr=>?_⟩ fun t hl ht=>?_
 ·rw [h3,h5];exact n.lead hr
 ·rw [x1] at hr;cases hr
 ·rw [x1];decide
def Gh.win (g:Gh) (v t:Int) (Bl Tl:List Entry):Gh:={ g with
 lead:=fun u=>if u=t then some v else g.lead u
 T:=fun u=>if u=t then Tl else g.T u
 B:=fun u=>if u=t then Bl else g.B u
 A:=fun w u=>if w=v∧u=t then Tl.length else g.A w u }
theorem win_lead (g:Gh) (v t:Int) (Bl Tl:List Entry):(g.win v t Bl Tl).lead t=some v:=if_pos rfl
theorem win_T (g:Gh) (v t:Int) (Bl Tl:List Entry):(g.win v t Bl Tl).T t=Tl:=if_pos rfl
theorem win_B (g:Gh) (v t:Int) (Bl Tl:List Entry):(g.win v t Bl Tl).B t=Bl:=if_pos rfl
theorem win_A (g:Gh) (v t:Int) (Bl Tl:List Entry):(g.win v t Bl Tl).A v t=Tl.length:=if_pos ⟨rfl,rfl⟩
theorem win_lead' (g:Gh) {v t u:Int} (Bl Tl:List Entry) (h:u≠t):(g.win v t Bl Tl).lead u=g.lead u:=if_neg h
theorem win_T' (g:Gh) {v t u:Int} (Bl Tl:List Entry) (h:u≠t):(g.win v t Bl Tl).T u=g.T u:=if_neg h
theorem win_B' (g:Gh) {v t u:Int} (Bl Tl:List Entry) (h:u≠t):(g.win v t Bl Tl).B u=g.B u:=if_neg h
theorem win_A' (g:Gh) {v t w u:Int} (Bl Tl:List Entry) (h:¬ (w=v∧u=t)):(g.win v t Bl Tl).A w u=g.A w u:=if_neg h
def Fresh (g:Gh) (v t:Int) (Bl Tl:List Entry):Prop:=(∀c,g.lead t≠some c)∨(g.lead t=some v∧Bl=g.B t∧∃X,Tl=g.T t++X)
theorem win_ext {st:List Int} {g:Gh} {nd:Int→Node} (I:Inv st g nd) {v t:Int} {Bl Tl:List Entry} (ht:(nd v).Term=t) (hf:Fresh g v t Bl Tl):Ext g (g.win v t Bl Tl):=by
 have nl:∀u,g.led u→u=t→g.lead t=some v∧Bl=g.B t∧∃X,Tl=g.T t++X:=fun u hl e=>by
  obtain ⟨c,hc⟩:=hl
  rw [e] at hc
  rcases hf with h | h
  ·exact absurd hc (h c)
  ·exact h
 refine ⟨fun u c h=>?_,fun u hl=>?_,fun u hl=>?_,fun _ _ _ h=>⟨h,rfl,rfl⟩,fun w u=>?_,fun w u h d c hv=>?_⟩
 ·by_cases e:u=t
  ·obtain ⟨a,_⟩:=nl u ⟨c,h⟩ e
   rw [e] at h ⊢
   rw [win_lead];rw [a] at h;exact h
  ·rw [win_lead' g Bl Tl e];exact h
 ·by_cases e:u=t
  ·obtain ⟨_,_,X,hX⟩:=nl u hl e
   rw [e,win_T];exact ⟨X,hX⟩
  ·rw [win_T' g Bl Tl e];exact ⟨[],by simp⟩
 ·by_cases e:u=t
  ·obtain ⟨_,hB,_⟩:=nl u hl e
   rw [e,win_B];exact hB
  ·rw [win_B' g Bl Tl e]
 ·by_cases e:w=v∧u=t
  ·obtain ⟨rfl,rfl⟩:=e
   rw [win_A]
   rcases Nat.eq_zero_or_pos (g.A w u) with z | z
   ·omega
   ·obtain ⟨hl,_⟩:=I.ack w u z
    obtain ⟨a,_,X,hX⟩:=nl u hl rfl
    rw [I.self u w a,hX,List.length_append];omega
  ·rw [win_A' g Bl Tl e];exact Nat.le_refl _
 ·by_cases e:w=v∧u=t
  ·obtain ⟨rfl,rfl⟩:=e
   rw [← ht];exact (I.ni w).vote d c hv
  ·rw [win_A' g Bl Tl e] at h;omega
theorem Hist.win {st:List Int} {g:Gh} {nd:Int→Node} (I:Inv st g nd) {v t:Int} {Bl Tl:List Entry} (e:Ext g (g.win v t Bl Tl)) (pos:1≤t) (gl:GL (g.win v t Bl Tl) Tl) (base:agree Bl Tl Bl.length) (low:∀i,i<Bl.length→(ex Bl i).Term<t) (own:∀i,Bl.length≤i→i<Tl.length→(ex Tl i).Term=t) (el:∃q,Elec st g t (t - 1) v Bl q) (cf:∀i,Bl.length≤i→i<Tl.length→((ex Tl i).Kind==2)=true→Cf st (g.win v t Bl Tl) t i) (cs:∀j,j≤Tl.length→Okc st (memL Tl st j)):Hist st (g.win v t Bl Tl):=by
 have h:=I.hist
 have ll:∀u,u≠t→(g.win v t Bl Tl).led u→g.led u:=fun u hu ⟨c,hc⟩=>⟨c,by rw [win_lead' g Bl Tl hu] at hc;exact hc⟩
 refine ⟨h.s0,fun u hu=>?_,fun u hu=>?_,fun u hu=>?_,fun u hu=>?_,fun u hu=>?_,fun u c hu=>?_,fun u hu=>?_,fun u hu=>?_⟩
 ·by_cases q:u=t
  ·rw [q];exact pos
  ·exact h.pos u (ll u q hu)
 ·by_cases q:u=t
  ·rw [q,win_T];exact gl
  ·rw [win_T' g Bl Tl q];exact (h.gl u (ll u q hu)).ext e
 ·by_cases q:u=t
  ·rw [q,win_T,win_B];exact base
  ·rw [win_T' g Bl Tl q,win_B' g Bl Tl q];exact h.base u (ll u q hu)
 ·by_cases q:u=t
  ·rw [q,win_B];exact low
  ·rw [win_B' g Bl Tl q];exact h.low u (ll u q hu)
 ·by_cases q:u=t
  ·rw [q,win_T,win_B];exact own
  ·rw [win_T' g Bl Tl q,win_B' g Bl Tl q];exact h.own u (ll u q hu)
 ·by_cases q:u=t
  ·rw [q] at hu ⊢
   rw [win_lead] at hu
   cases hu
   obtain ⟨q',hq⟩:=el
   rw [win_B];exact ⟨q',hq.ext e I.ack⟩
  ·rw [win_lead' g Bl Tl q] at hu
   obtain ⟨q',hq⟩:=h.el u c hu
   rw [win_B' g Bl Tl q];exact ⟨q',hq.ext e I.ack⟩
 ·by_cases q:u=t
  ·rw [q,win_T,win_B];exact cf
  ·rw [win_T' g Bl Tl q,win_B' g Bl Tl q]
   intro i i1 i2 i3
   obtain ⟨⟨k,n,a,b,c,d⟩,ad⟩:=h.cf u (ll u q hu) i i1 i2 i3
   exact ⟨⟨k,n,a,b,c.ext e,by rw [win_T' g Bl Tl q];exact d⟩,by rw [win_T' g Bl Tl q];exact ad⟩
 ·by_cases q:u=t
  ·rw [q,win_T];exact cs
  ·rw [win_T' g Bl Tl q];exact h.cs u (ll u q hu)
theorem Inv.grow {st:List Int} {g:Gh} {nd:Int→Node} (I:Inv st g nd) {v:Int} {Bl:List Entry} {x:Node} (hf:Fresh g v x.Term Bl x.Log) (h1:x.Id=(nd v).Id) (h2:x.Start=(nd v).Start) (h3:x.Term=(nd v).Term) (h4:x.Vote=(nd v).Vote) (h6:x.Role=2) (hp:agree (nd v).Log x.Log (nd v).Log.length) (hm:∀j:Nat,j<7→ix x.Match j≤g.A j x.Term) (hcm:0<x.Commit→tm x.Log x.Commit.toNat=x.Term→∃n,Cm st (g.win v x.Term Bl x.Log) x.Term x.Commit.toNat n)
  (pos:1≤x.Term) (gl:GL (g.win v x.Term Bl x.Log) x.Log) (base:agree Bl x.Log Bl.length) (low:∀i,i<Bl.length→(ex Bl i).Term<x.Term) (own:∀i,Bl.length≤i→i<x.Log.length→(ex x.Log i).Term=x.Term) (el:∃q,Elec st g x.Term (x.Term - 1) v Bl q) (cf:∀i,Bl.length≤i→i<x.Log.length→((ex x.Log i).Kind==2)=true→Cf st (g.win v x.Term Bl x.Log) x.Term i) (cs:∀j,j≤x.Log.length→Okc st (memL x.Log st j)):Ext g (g.win v x.Term Bl x.Log)∧Inv st (g.win v x.Term Bl x.Log) (upd nd v x):=by
 have e:=win_ext I h3.symm hf
 have n:=I.ni v
 have o:Only v g (g.win v x.Term Bl x.Log):=by
  refine ⟨fun _ _=>rfl,fun w hw=>funext fun u=>win_A' g Bl x.Log fun h=>hw h.1,fun _ _=>rfl,fun w u hw hl=>?_⟩
  refine win_T' g Bl x.Log fun q=>?_
  rw [q] at hl
  rcases hf with h | ⟨h,_⟩
  ·exact h w hl
  ·rw [h] at hl;cases hl;exact hw rfl
 refine ⟨e,Hist.win I e pos gl base low own el cf cs,fun w=>?_,fun u c hc=>?_,fun u c hc=>?_,fun w u c hv=>(I.vi w u c hv).ext I e (upd_term (by omega)) hv,fun w u ha=>?_⟩
 ·by_cases ew:w=v
  ·subst ew
   rw [upd_same]
   refine ⟨h1.trans n.id,h2.trans n.start,by omega,gl,fun i hi=>?_,fun t c hv=>by rw [h3];exact n.vote t c hv,by rw [h3,h4];exact n.cur,by rw [h3,h4];exact n.cur2,fun t ha=>?_,fun s k hk=>?_,fun _=>⟨win_lead ..,win_T ..⟩,fun _ j hj=>?_,fun _=>hcm,fun hr=>by rw [h6] at hr;cases hr⟩
   ·by_cases hb:i<Bl.length
    ·rw [← base.at hb];exact Int.le_of_lt (low i hb)
    ·rw [own i (by omega) hi];exact Int.le_refl _
   ·by_cases q:t=x.Term
    ·rw [q];exact Int.le_refl _
    ·rw [win_A' g Bl x.Log fun h=>q h.2] at ha
     rw [h3];exact n.ack t ha
   ·by_cases q:s=x.Term
    ·rw [q,win_A] at hk
     rw [q,win_T]
     exact .inl (agree.self hk)
    ·rcases ((n.kept s).ext e (win_A' g Bl x.Log fun h=>q h.2) (I.ack w s)) k hk with a | ⟨u,u1,u2,u3⟩
     ·exact .inl ((hp.mono a.1).symm.trans a)
     ·exact .inr ⟨u,u1,by omega,u3⟩
   ·have:=hm j hj
    have:=e.A j x.Term
    omega
  ·rw [upd_other nd x ew];exact NI.other I e o ew
 ·by_cases q:u=x.Term
  ·rw [q,win_lead] at hc
   cases hc
   rw [upd_same]
   exact ⟨by omega,fun _=>by rw [h6];decide⟩
  ·rw [win_lead' g Bl x.Log q] at hc
   by_cases ew:c=v
   ·subst ew
    rw [upd_same]
    exact ⟨by rw [h3];exact (I.ld u c hc).1,fun h=>absurd h q⟩
   ·rw [upd_other nd x ew];exact I.ld u c hc
 ·by_cases q:u=x.Term
  ·rw [q,win_lead] at hc
   cases hc
   rw [q,win_A,win_T]
  ·rw [win_lead' g Bl x.Log q] at hc
   rw [win_A' g Bl x.Log fun h=>q h.2,win_T' g Bl x.Log q];exact I.self u c hc
 ·by_cases q:w=v∧u=x.Term
  ·obtain ⟨rfl,rfl⟩:=q
   rw [win_A,win_T]
   exact ⟨⟨_,win_lead ..⟩,Nat.le_refl _⟩
  ·rw [win_A' g Bl x.Log q] at ha ⊢
   obtain ⟨a,b⟩:=I.ack w u ha
   exact ⟨e.led a,Nat.le_trans b (e.Tag a).2.1⟩
end Mir.Y
