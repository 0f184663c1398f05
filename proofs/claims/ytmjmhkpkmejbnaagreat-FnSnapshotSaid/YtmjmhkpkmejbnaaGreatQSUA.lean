/- Pure laws: the order of hashes; rows of leaves in that order. -/
import Derived.Test.YtmjmhkpkmejbnaaGreatQSTB
import Derived.Laws.Strings
namespace Mir.Y
set_option linter.unusedVariables false
set_option linter.unusedSimpArgs false
open Go
set_option linter.unusedSectionVars false
variable [UU]
def hlt (h g:ByteArray):Prop:=∃i,i<256∧(∀j,j<i→bt h j=bt g j)∧bt h i=0∧bt g i=1
theorem hlt_irrefl (h:ByteArray):¬ hlt h h:=by
 rintro ⟨i,_,_,h1,h2⟩
 omega
theorem hlt_trans {a b c:ByteArray} (h:hlt a b) (k:hlt b c):hlt a c:=by
 obtain ⟨i,i1,i2,i3,i4⟩:=h
 obtain ⟨j,j1,j2,j3,j4⟩:=k
 by_cases hij:i<j
 ·exact ⟨i,i1,fun t ht=>(i2 t ht).trans (j2 t (by omega)),i3,by rw [← j2 i hij];exact i4⟩
 ·by_cases hji:j<i
  ·exact ⟨j,j1,fun t ht=>(i2 t (by omega)).trans (j2 t ht),by rw [i2 j hji];exact j3,j4⟩
  ·obtain rfl:i=j:=by omega
   omega
theorem hlt_asymm {a b:ByteArray} (h:hlt a b):¬ hlt b a:=fun k=>hlt_irrefl a (hlt_trans h k)
theorem first_of (p:Nat→Prop):∀n:Nat,(∀j,j<n→¬ p j)∨∃i,i<n∧p i∧∀j,j<i→¬ p j
 | 0=>.inl fun j hj=>by omega
 | n+1=>by
  rcases first_of p n with h | ⟨i,h1,h2,h3⟩
  ·by_cases hp:p n
   ·exact .inr ⟨n,by omega,hp,h⟩
   ·refine .inl fun j hj=>?_
    by_cases hjn:j=n
    ·subst hjn;exact hp
    ·exact h j (by omega)
  ·exact .inr ⟨i,by omega,h2,h3⟩
theorem hlt_total (h g:ByteArray):(∀j,j<256→bt h j=bt g j)∨hlt h g∨hlt g h:=by
 rcases first_of (fun j=>bt h j≠bt g j) 256 with k | ⟨i,h1,h2,h3⟩
 ·exact .inl fun j hj=>Decidable.not_not.1 (k j hj)
 ·have e:∀j,j<i→bt h j=bt g j:=fun j hj=>Decidable.not_not.1 (h3 j hj)
  have b1:=bt_lt h i
  have b2:=bt_lt g i
  by_cases hz:bt h i=0
  ·exact .inr (.inl ⟨i,h1,e,hz,by omega⟩)
  ·exact .inr (.inr ⟨i,h1,fun j hj=>(e j hj).symm,by omega,by omega⟩)
def byN (h:ByteArray) (j:Nat):Nat:=(h.data.toList.getD j 0).toNat
theorem byN_lt (h:ByteArray) (j:Nat):byN h j<256:=(h.data.toList.getD j 0).toNat_lt
theorem bt_by (h:ByteArray) (i:Nat):bt h i=(byN h (i / 8) / 2 ^ (7 - i % 8)) % 2:=rfl
theorem bt_at (h:ByteArray) (k r:Nat) (hr:r<8):bt h (8 * k+r)=(byN h k / 2 ^ (7 - r)) % 2:=by
 rw [bt_by,show (8 * k+r) / 8=k by omega,show (8 * k+r) % 8=r by omega]
theorem byte_eq {n m:Nat} (hn:n<256) (hm:m<256) (h:∀r,r<8→(n / 2 ^ (7 - r)) % 2=(m / 2 ^ (7 - r)) % 2):n=m:=by
 have h0:(n / 128) % 2=(m / 128) % 2:=h 0 (by omega)
 have h1:(n / 64) % 2=(m / 64) % 2:=h 1 (by omega)
 have h2:(n / 32) % 2=(m / 32) % 2:=h 2 (by omega)
 have h3:(n / 16) % 2=(m / 16) % 2:=h 3 (by omega)
 have h4:(n / 8) % 2=(m / 8) % 2:=h 4 (by omega)
 have h5:(n / 4) % 2=(m / 4) % 2:=h 5 (by omega)
 have h6:(n / 2) % 2=(m / 2) % 2:=h 6 (by omega)
 have h7:(n / 1) % 2=(m / 1) % 2:=h 7 (by omega)
 omega
theorem byte_lt {n m:Nat} (hn:n<256) (hm:m<256) {r:Nat} (hr:r<8) (h:∀j,j<r→(n / 2 ^ (7 - j)) % 2=(m / 2 ^ (7 - j)) % 2) (h0:(n / 2 ^ (7 - r)) % 2=0) (h1:(m / 2 ^ (7 - r)) % 2=1):n<m:=by
 have g:∀j,j<8→j≤r→n / 2 ^ (8 - j)=m / 2 ^ (8 - j):=by
  intro j
  induction j with
  | zero=>intro _ _;rw [Nat.div_eq_of_lt hn,Nat.div_eq_of_lt hm]
  | succ j ih=>
   intro hj hjr
   have i1:=ih (by omega) (by omega)
   have i2:=h j (by omega)
   have e:2 ^ (8 - j)=2 ^ (7 - j) * 2:=by rw [← Nat.pow_succ];congr 1;omega
   rw [e,← Nat.div_div_eq_div_mul,← Nat.div_div_eq_div_mul] at i1
   rw [show 8 - (j+1)=7 - j by omega]
   omega
 have g1:=g r hr (Nat.le_refl _)
 have e:2 ^ (8 - r)=2 ^ (7 - r) * 2:=by rw [← Nat.pow_succ];congr 1;omega
 rw [e,← Nat.div_div_eq_div_mul,← Nat.div_div_eq_div_mul] at g1
 have h2:n / 2 ^ (7 - r)<m / 2 ^ (7 - r):=by omega
 exact Nat.lt_of_not_le fun hle=>by
  have:=Nat.div_le_div_right (c:=2 ^ (7 - r)) hle
  omega
theorem bytes_eq {h g:ByteArray} {k:Nat} (e:∀j,j<8 * k→bt h j=bt g j):∀j,j<k→byN h j=byN g j:=by
 intro j hj
 refine byte_eq (byN_lt _ _) (byN_lt _ _) fun r hr=>?_
 rw [← bt_at h j r hr,← bt_at g j r hr]
 exact e _ (by omega)
theorem u8_eq {h g:ByteArray} {j:Nat} (e:byN h j=byN g j):h.data.toList.getD j 0=g.data.toList.getD j 0:=UInt8.toNat_inj.1 e
theorem bits_inj {h g:ByteArray} (hh:h.size=32) (hg:g.size=32) (e:∀j,j<256→bt h j=bt g j):h=g:=by
 have k:=bytes_eq (h:=h) (g:=g) (k:=32) e
 have l1:h.data.toList.length=32:=hh
 have l2:g.data.toList.length=32:=hg
 have:h.data.toList=g.data.toList:=by
  apply List.ext_getElem (by omega)
  intro i h1 h2
  have:=u8_eq (k i (by omega))
  rwa [List.getD_eq_getElem?_getD,List.getD_eq_getElem?_getD,List.getElem?_eq_getElem h1,List.getElem?_eq_getElem h2] at this
 cases h;cases g
 simp only at this
 exact congrArg _ (Array.toList_inj.1 this)
theorem hlt_byte {h g:ByteArray} (k:hlt h g):∃j,j<32∧(∀i,i<j→h.data.toList.getD i 0=g.data.toList.getD i 0)∧h.data.toList.getD j 0<g.data.toList.getD j 0:=by
 obtain ⟨i,i1,i2,i3,i4⟩:=k
 refine ⟨i / 8,by omega,fun t ht=>u8_eq (bytes_eq (h:=h) (g:=g) (k:=i / 8) (fun j hj=>i2 j (by omega)) t ht),?_⟩
 show byN h (i / 8)<byN g (i / 8)
 refine byte_lt (byN_lt _ _) (byN_lt _ _) (r:=i % 8) (Nat.mod_lt _ (by omega)) (fun j hj=>?_) (by rw [← bt_by];exact i3) (by rw [← bt_by];exact i4)
 rw [← bt_at h (i / 8) j (by omega),← bt_at g (i / 8) j (by omega)]
 exact i2 _ (by omega)
theorem cmpB_lt:∀(k:Nat) (a b:List UInt8),k<a.length→k<b.length→(∀j,j<k→a.getD j 0=b.getD j 0)→a.getD k 0<b.getD k 0→Go.Lib.compareBytes a b = -1
 | _,[],_,h,_,_,_=>by simp at h
 | _,_::_,[],_,h,_,_=>by simp at h
 | 0,x::a,y::b,_,_,_,h=>by
  have h:x<y:=h
  simp [Go.Lib.compareBytes,h]
 | k+1,x::a,y::b,h1,h2,h3,h4=>by
  have e:x=y:=h3 0 (by omega)
  subst e
  have n:¬ x<x:=by simp
  simp only [Go.Lib.compareBytes,n,if_false]
  exact cmpB_lt k a b (by simpa using h1) (by simpa using h2) (fun j hj=>h3 (j+1) (by omega)) h4
theorem cmpB_gt:∀(k:Nat) (a b:List UInt8),k<a.length→k<b.length→(∀j,j<k→a.getD j 0=b.getD j 0)→b.getD k 0<a.getD k 0→Go.Lib.compareBytes a b=1
 | _,[],_,h,_,_,_=>by simp at h
 | _,_::_,[],_,h,_,_=>by simp at h
 | 0,x::a,y::b,_,_,_,h=>by
  have h:y<x:=h
  have n:¬ x<y:=by
   intro k
   have h:y.toNat<x.toNat:=h
   have k:x.toNat<y.toNat:=k
   omega
  simp [Go.Lib.compareBytes,h,n]
 | k+1,x::a,y::b,h1,h2,h3,h4=>by
  have e:x=y:=h3 0 (by omega)
  subst e
  have n:¬ x<x:=by simp
  simp only [Go.Lib.compareBytes,n,if_false]
  exact cmpB_gt k a b (by simpa using h1) (by simpa using h2) (fun j hj=>h3 (j+1) (by omega)) h4
theorem cmpB_self:∀a:List UInt8,Go.Lib.compareBytes a a=0
 | []=>rfl
 | x::a=>by
  have n:¬ x<x:=by simp
  simp only [Go.Lib.compareBytes,n,if_false]
  exact cmpB_self a
theorem cmpH {h g:ByteArray} (hh:h.size=32) (hg:g.size=32):(hlt h g∧Go.Lib.compareBytes h.data.toList g.data.toList = -1)∨(h=g∧Go.Lib.compareBytes h.data.toList g.data.toList=0)∨(hlt g h∧Go.Lib.compareBytes h.data.toList g.data.toList=1):=by
 have l1:h.data.toList.length=32:=hh
 have l2:g.data.toList.length=32:=hg
 rcases hlt_total h g with k | k | k
 ·obtain rfl:=bits_inj hh hg k
  exact .inr (.inl ⟨rfl,cmpB_self _⟩)
 ·obtain ⟨j,j1,j2,j3⟩:=hlt_byte k
  exact .inl ⟨k,cmpB_lt j _ _ (by omega) (by omega) j2 j3⟩
 ·obtain ⟨j,j1,j2,j3⟩:=hlt_byte k
  exact .inr (.inr ⟨k,cmpB_gt j _ _ (by omega) (by omega) (fun i hi=>(j2 i hi).symm) j3⟩)
theorem lessB:∀(k:Nat) (a b:List UInt8),k<a.length→k<b.length→(∀j,j<k→a.getD j 0=b.getD j 0)→a.getD k 0<b.getD k 0→Op.bytesLess a b=true
 | _,[],_,h,_,_,_=>by simp at h
 | _,_::_,[],_,h,_,_=>by simp at h
 | 0,x::a,y::b,_,_,_,h=>by
  have h:x<y:=h
  simp [Op.bytesLess,h]
 | k+1,x::a,y::b,h1,h2,h3,h4=>by
  have e:x=y:=h3 0 (by omega)
  subst e
  simp [Op.bytesLess,lessB k a b (by simpa using h1) (by simpa using h2) (fun j hj=>h3 (j+1) (by omega)) h4]
theorem slt_of {h g:ByteArray} (hh:h.size=32) (hg:g.size=32) (k:hlt h g):slt h g=true:=by
 have l1:h.data.toList.length=32:=hh
 have l2:g.data.toList.length=32:=hg
 obtain ⟨j,j1,j2,j3⟩:=hlt_byte k
 unfold slt
 rw [ByteArray.toList_eq h,ByteArray.toList_eq g]
 exact lessB j _ _ (by omega) (by omega) j2 j3
def Srt (l:List Branch):Prop:=l.Pairwise fun x y=>hlt (hb x.Key) (hb y.Key)
def LfOK (x:Branch):Prop:=x.Kids=[]∧keyP x∧x.Value.size≤60∧x.At=256
theorem C_lf:∀ {n:Nat} {b:Branch} {P:List Int},C n b P→∀l∈Lv n b,LfOK l
 | 0,_,_,h=>h.elim
 | n+1,b,P,.inl ⟨h1,h2,h3,h4,_,h6⟩=>by
  intro l hl
  rw [Lv_leaf h1,List.mem_singleton] at hl
  subst hl
  exact ⟨h1,h2,h3,h4⟩
 | n+1,b,P,.inr ⟨x,y,Q,A,h1,_,_,_,_,_,_,_,hx,hy⟩=>by
  intro l hl
  rw [Lv_fork h1,List.mem_append] at hl
  rcases hl with hl | hl
  ·exact C_lf hx l hl
  ·exact C_lf hy l hl
theorem C_bits {n:Nat} {b:Branch} {Q:List Int} {c:Nat} (h:C n b (Q++[((48+c:Nat):Int)])):∀l∈Lv n b,pre l Q.length=Q∧bt (hb l.Key) Q.length=c:=by
 intro l hl
 have:=(C_all h l hl).2
 rw [List.length_append,List.length_singleton,pre_succ] at this
 obtain ⟨h1,h2⟩:=snoc_inj this
 exact ⟨h1,by omega⟩
theorem pre_eq {x y:Branch} {A:Nat}:pre x A=pre y A↔∀j,j<A→bt (hb x.Key) j=bt (hb y.Key) j:=bitL_eq _ _ _
theorem C_srt:∀ {n:Nat} {b:Branch} {P:List Int},C n b P→Srt (Lv n b)
 | 0,_,_,h=>h.elim
 | n+1,b,P,.inl ⟨h1,_⟩=>by
  rw [Lv_leaf h1]
  exact List.pairwise_singleton _ _
 | n+1,b,P,.inr ⟨x,y,Q,A,h1,_,_,_,h5,_,h7,_,hx,hy⟩=>by
  rw [Lv_fork h1]
  refine List.pairwise_append.2 ⟨C_srt hx,C_srt hy,fun u hu v hv=>?_⟩
  obtain ⟨u1,u2⟩:=C_bits (c:=0) hx u hu
  obtain ⟨v1,v2⟩:=C_bits (c:=1) hy v hv
  rw [h5] at u1 u2 v1 v2
  exact ⟨A,by omega,pre_eq.1 (u1.trans v1.symm),u2,v2⟩
theorem C_up:∀ {n m:Nat} {b:Branch} {P:List Int},n≤m→C n b P→C m b P∧Lv m b=Lv n b
 | 0,_,_,_,_,h=>h.elim
 | n+1,0,_,_,h,_=>by omega
 | n+1,m+1,b,P,_,.inl ⟨h1,h⟩=>⟨.inl ⟨h1,h⟩,by rw [Lv_leaf h1,Lv_leaf h1]⟩
 | n+1,m+1,b,P,hm,.inr ⟨x,y,Q,A,h1,h2,h3,h4,h5,h6,h7,h8,hx,hy⟩=>by
  obtain ⟨a1,a2⟩:=C_up (show n≤m by omega) hx
  obtain ⟨b1,b2⟩:=C_up (show n≤m by omega) hy
  exact ⟨.inr ⟨x,y,Q,A,h1,h2,h3,h4,h5,h6,h7,h8,a1,b1⟩,by rw [Lv_fork h1,Lv_fork h1,a2,b2]⟩
theorem C_cap:∀ {n:Nat} {b:Branch} {P:List Int} {m:Nat},257 - P.length≤m→C n b P→C m b P∧Lv m b=Lv n b
 | 0,_,_,_,_,h=>h.elim
 | n+1,b,P,m,hm,.inl ⟨h1,h2,h3,h4,h5,h6⟩=>by
  obtain ⟨m,rfl⟩:∃k,m=k+1:=⟨m - 1,by omega⟩
  exact ⟨.inl ⟨h1,h2,h3,h4,h5,h6⟩,by rw [Lv_leaf h1,Lv_leaf h1]⟩
 | n+1,b,P,m,hm,.inr ⟨x,y,Q,A,h1,h2,h3,h4,h5,h6,h7,h8,hx,hy⟩=>by
  obtain ⟨m,rfl⟩:∃k,m=k+1:=⟨m - 1,by omega⟩
  obtain ⟨a1,a2⟩:=C_cap (m:=m) (by simp;omega) hx
  obtain ⟨b1,b2⟩:=C_cap (m:=m) (by simp;omega) hy
  exact ⟨.inr ⟨x,y,Q,A,h1,h2,h3,h4,h5,h6,h7,h8,a1,b1⟩,by rw [Lv_fork h1,Lv_fork h1,a2,b2]⟩
theorem C_bok:∀ {n:Nat} {b:Branch} {P:List Int},C n b P→bok n b
 | 0,_,_,h=>h.elim
 | n+1,b,P,.inl ⟨h1,h2,h3,_⟩=>⟨by have:=h2.2;simp only [K20];omega,by simp only [K20];omega,by rw [h1];exact Nat.zero_le _,fun x hx=>by rw [h1] at hx;cases hx⟩
 | n+1,b,P,.inr ⟨x,y,Q,A,h1,h2,h3,_,_,_,_,_,hx,hy⟩=>⟨by rw [h2];exact Nat.zero_le _,by rw [h3];exact Nat.zero_le _,by rw [h1];simp [K20],fun z hz=>by
  rw [h1] at hz
  rcases List.mem_cons.1 hz with rfl | hz
  ·exact C_bok hx
  ·rw [List.mem_singleton] at hz;subst hz;exact C_bok hy⟩
theorem C_less {n:Nat} {b:Branch} {P:List Int} (h:C n b P) {k:Nat} (hk:k≤P.length):C n b (P.take k):=by
 have hl:(P.take k).length=k:=by rw [List.length_take];omega
 cases n with
 | zero=>exact h.elim
 | succ n=>
  rcases h with ⟨h1,h2,h3,h4,h5,h6⟩ | ⟨x,y,Q,A,h1,h2,h3,h4,h5,h6,h7,h8,hx,hy⟩
  ·refine .inl ⟨h1,h2,h3,h4,by omega,?_⟩
   rw [hl,← pre_take b hk,h6]
  ·refine .inr ⟨x,y,Q,A,h1,h2,h3,h4,h5,by omega,h7,?_,hx,hy⟩
   rw [hl]
   conv=>lhs;rw [h8]
   rw [List.take_take,Nat.min_eq_left hk]
theorem C_more {n:Nat} {b x y:Branch} {Q:List Int} {A:Nat} (h1:b.Kids=[x,y]) (h2:b.Key=ByteArray.empty) (h3:b.Value=ByteArray.empty) (h4:b.At=(A:Int)) (h5:Q.length=A) (h7:A≤255) (hx:C n x (Q++[48])) (hy:C n y (Q++[49])) {k:Nat} (hk:k≤A):C (n+1) b (Q.take k):=by
 have hl:(Q.take k).length=k:=by rw [List.length_take];omega
 exact .inr ⟨x,y,Q,A,h1,h2,h3,h4,h5,by omega,h7,by rw [hl],hx,hy⟩
structure Part (L:List Branch) (h:ByteArray) (A M B:List Branch):Prop where
 eq:L=A++(M++B)
 lo:∀a∈A,hlt (hb a.Key) h
 hi:∀b∈B,hlt h (hb b.Key)
 mid:M=[]∨∃z,M=[z]∧hb z.Key=h
theorem part_of {h:ByteArray} (hh:h.size=32):∀ {L:List Branch},Srt L→∃A M B,Part L h A M B
 | [],_=>⟨[],[],[],rfl,fun a ha=>(by cases ha),fun a ha=>(by cases ha),.inl rfl⟩
 | a::r,hs=>by
  obtain ⟨h1,h2⟩:=List.pairwise_cons.1 hs
  rcases cmpH (hb_size a.Key) hh with ⟨k,_⟩ | ⟨k,_⟩ | ⟨k,_⟩
  ·obtain ⟨A,M,B,p⟩:=part_of hh (L:=r) h2
   refine ⟨a::A,M,B,by rw [p.eq];rfl,fun x hx=>?_,p.hi,p.mid⟩
   rcases List.mem_cons.1 hx with rfl | hx
   ·exact k
   ·exact p.lo x hx
  ·exact ⟨[],[a],r,rfl,fun a ha=>(by cases ha),fun b hb'=>by rw [← k];exact h1 b hb',.inr ⟨a,rfl,k⟩⟩
  ·refine ⟨[],[],a::r,rfl,fun a ha=>(by cases ha),fun b hb'=>?_,.inl rfl⟩
   rcases List.mem_cons.1 hb' with rfl | hb'
   ·exact k
   ·exact hlt_trans k (h1 b hb')
def PutR (L:List Branch) (x:Branch) (L':List Branch):Prop:=∃A M B,Part L (hb x.Key) A M B∧L'=A++x::B
theorem Part.left {L A M B R:List Branch} {h:ByteArray} (p:Part L h A M B) (hr:∀b∈R,hlt h (hb b.Key)):Part (L++R) h A M (B++R):=by
 refine ⟨by rw [p.eq];simp [List.append_assoc],p.lo,fun b hb'=>?_,p.mid⟩
 rcases List.mem_append.1 hb' with hb' | hb'
 ·exact p.hi b hb'
 ·exact hr b hb'
theorem Part.right {L A M B R:List Branch} {h:ByteArray} (p:Part L h A M B) (hr:∀b∈R,hlt (hb b.Key) h):Part (R++L) h (R++A) M B:=by
 refine ⟨by rw [p.eq];simp [List.append_assoc],fun b hb'=>?_,p.hi,p.mid⟩
 rcases List.mem_append.1 hb' with hb' | hb'
 ·exact hr b hb'
 ·exact p.lo b hb'
theorem PutR.left {L L' R:List Branch} {x:Branch} (p:PutR L x L') (hr:∀b∈R,hlt (hb x.Key) (hb b.Key)):PutR (L++R) x (L'++R):=by
 obtain ⟨A,M,B,p,rfl⟩:=p
 exact ⟨A,M,B++R,p.left hr,by simp⟩
theorem PutR.right {L L' R:List Branch} {x:Branch} (p:PutR L x L') (hr:∀b∈R,hlt (hb b.Key) (hb x.Key)):PutR (R++L) x (R++L'):=by
 obtain ⟨A,M,B,p,rfl⟩:=p
 exact ⟨R++A,M,B,p.right hr,by simp⟩
theorem Part.len {L A M B:List Branch} {h:ByteArray} (p:Part L h A M B):L.length=A.length+M.length+B.length:=by
 rw [p.eq,List.length_append,List.length_append];omega
theorem Part.at {L A M B:List Branch} {h:ByteArray} (p:Part L h A M B) {j:Nat} (hj:j<L.length):(j<A.length→hlt (hb L[j].Key) h)∧(A.length≤j→hb L[j].Key=h∨hlt h (hb L[j].Key)):=by
 have e:L[j]=(A++(M++B))[j]'(by rw [← p.eq];exact hj):=by congr 1;exact p.eq
 constructor
 ·intro h1
  rw [e,List.getElem_append_left h1]
  exact p.lo _ (List.getElem_mem _)
 ·intro h1
  rw [e,List.getElem_append_right h1]
  have hm:(M++B)[j - A.length]'(by have:=p.len;rw [List.length_append];omega)∈M++B:=List.getElem_mem _
  rcases List.mem_append.1 hm with hm | hm
  ·rcases p.mid with rfl | ⟨z,rfl,hz⟩
   ·cases hm
   ·rw [List.mem_singleton] at hm;rw [hm];exact .inl hz
  ·exact .inr (p.hi _ hm)
theorem Srt.put {L L':List Branch} {x:Branch} (hs:Srt L) (p:PutR L x L'):Srt L':=by
 obtain ⟨A,M,B,p,rfl⟩:=p
 have hs:(A++(M++B)).Pairwise fun x y=>hlt (hb x.Key) (hb y.Key):=by rw [← p.eq];exact hs
 obtain ⟨s1,s2,s3⟩:=List.pairwise_append.1 hs
 obtain ⟨_,s4,_⟩:=List.pairwise_append.1 s2
 refine List.pairwise_append.2 ⟨s1,List.pairwise_cons.2 ⟨p.hi,s4⟩,fun a ha b hb'=>?_⟩
 rcases List.mem_cons.1 hb' with rfl | hb'
 ·exact p.lo a ha
 ·exact s3 a ha b (List.mem_append_right _ hb')
theorem PutR.mem {L L':List Branch} {x:Branch} (p:PutR L x L'):∀l∈L',l=x∨l∈L:=by
 obtain ⟨A,M,B,p,rfl⟩:=p
 intro l hl
 rw [p.eq]
 rcases List.mem_append.1 hl with hl | hl
 ·exact .inr (List.mem_append_left _ hl)
 ·rcases List.mem_cons.1 hl with hl | hl
  ·exact .inl hl
  ·exact .inr (List.mem_append_right _ (List.mem_append_right _ hl))
def near:Nat→ByteArray→Branch→Branch
 | 0,_,b=>b
 | n+1,h,b=>match b.Kids with
  | x::y::_=>if bt h b.At.toNat=0 then near n h x else near n h y
  | _=>b
theorem near_leaf {n:Nat} {h:ByteArray} {b:Branch} (hk:b.Kids=[]):near n h b=b:=by
 cases n with
 | zero=>rfl
 | succ n=>show (match b.Kids with | x::y::_=>_ | _=>b)=b;rw [hk]
theorem near_fork {n:Nat} {h:ByteArray} {b x y:Branch} (hk:b.Kids=[x,y]):near (n+1) h b=if bt h b.At.toNat=0 then near n h x else near n h y:=by
 show (match b.Kids with | x::y::_=>_ | _=>b)=_
 rw [hk]
theorem near_mem {h:ByteArray}:∀ {n:Nat} {b:Branch} {P:List Int},C n b P→near n h b∈Lv n b
 | 0,_,_,h=>h.elim
 | n+1,b,P,.inl ⟨h1,_⟩=>by rw [near_leaf h1,Lv_leaf h1];exact List.mem_singleton_self _
 | n+1,b,P,.inr ⟨x,y,Q,A,h1,_,_,h4,h5,_,h7,_,hx,hy⟩=>by
  rw [near_fork h1,Lv_fork h1]
  split
  ·exact List.mem_append_left _ (near_mem hx)
  ·exact List.mem_append_right _ (near_mem hy)
theorem leafS (N:Nat) (b:Branch):spec_l07Leaf.m N b=some (lfB b):=rfl
theorem lfB_fork {b x y:Branch} (h:b.Kids=[x,y]):lfB b=false:=by unfold lfB;rw [h];rfl
theorem nearS {N:Nat} (hN:Big N) (b0:Branch) (h:ByteArray) (hh:h.size=32):∀(n K:Nat) (b:Branch) (P:List Int),n<K→C n b P→miter (fun rec=>spec_l07Near.step1 N b0 h rec) K (b.Key,b.Value,b.At,b.Kids)=some (hb (near n h b).Key)
 | 0,_,_,_,_,h=>h.elim
 | n+1,0,_,_,h,_=>by omega
 | n+1,K+1,b,P,hK,.inl ⟨h1,h2,_⟩=>by
  rw [miter_s]
  simp only [spec_l07Near.step1,brEta,leafS,ob_some,(lfB_iff b).2 h1,Bool.not_true,cond_false]
  rw [l07Hash hN _ (by have:=h2.2;omega),ob_some,near_leaf h1]
 | n+1,K+1,b,P,hK,.inr ⟨x,y,Q,A,h1,_,_,h4,h5,_,h7,_,hx,hy⟩=>by
  rw [miter_s]
  have hA:b.At.toNat=A:=by rw [h4];rfl
  have kl:(b.Kids.length:Int)=2:=by rw [h1];rfl
  have g0:b.Kids.getD 0 Branch.dz=x:=by rw [h1];rfl
  have g1:b.Kids.getD 1 Branch.dz=y:=by rw [h1];rfl
  have hlt:=bt_lt h A
  have hbt:spec_l07Bit.m N h b.At=some (bt h A:Int):=by rw [h4];exact specBit N hh (by omega)
  simp only [spec_l07Near.step1,brEta,leafS,ob_some,lfB_fork h1,Bool.not_false,cond_true,hbt,kl,Int.toNat_natCast]
  rw [near_fork h1,hA]
  by_cases hz:bt h A=0
  ·rw [hz,if_pos rfl,g0]
   exact nearS hN b0 h hh n K x _ (by omega) hx
  ·have h1':bt h A=1:=by omega
   rw [h1',if_neg (by omega),g1]
   exact nearS hN b0 h hh n K y _ (by omega) hy
theorem differS {N:Nat} (hN:Big N) {h g:ByteArray} (hh:h.size=32) (hg:g.size=32):∃k:Nat,spec_l07Differ.m N h g=some (k:Int)∧(∀j,j<k→bt h j=bt g j)∧(k=256∨(k<256∧bt h k≠bt g k)):=by
 unfold spec_l07Differ.m spec_l07Differ.m0 spec_l07Differ.lp2
 have go:∀(m i K:Nat),i+m=256→m<K→(∀j,j<i→bt h j=bt g j)→∃k:Nat,miter (fun rec=>spec_l07Differ.step2 N h g rec) K ((i:Nat):Int)=some (k:Int)∧(∀j,j<k→bt h j=bt g j)∧(k=256∨(k<256∧bt h k≠bt g k)):=by
  intro m
  induction m with
  | zero=>
   intro i K hi hK he
   obtain ⟨K,rfl⟩:∃j,K=j+1:=⟨K - 1,by omega⟩
   obtain rfl:i=256:=by omega
   exact ⟨256,rfl,he,.inl rfl⟩
  | succ m ih=>
   intro i K hi hK he
   obtain ⟨K,rfl⟩:∃j,K=j+1:=⟨K - 1,by omega⟩
   rw [miter_s]
   simp only [spec_l07Differ.step2,decide_eq_true (show (i:Int)<256 by omega),cond_true,specBit N hh (show i<256 by omega),specBit N hg (show i<256 by omega),ob_some]
   by_cases e:bt h i=bt g i
   ·have e1:(((bt h i:Nat):Int) != ((bt g i:Nat):Int))=false:=by rw [e];simp
    rw [e1,cond_false,w_up i 256 (by omega) (by omega)]
    refine ih (i+1) K (by omega) (by omega) fun j hj=>?_
    by_cases hji:j=i
    ·subst hji;exact e
    ·exact he j (by omega)
   ·have e1:(((bt h i:Nat):Int) != ((bt g i:Nat):Int))=true:=by rw [bne_iff_ne];omega
    rw [e1,cond_true]
    exact ⟨i,rfl,he,.inr ⟨by omega,e⟩⟩
 exact go 256 0 N (by omega) (by omega) (fun j hj=>by omega)
theorem bitsQ {h:ByteArray} {x:Branch} {A:Nat} {Q:List Int} (hx:pre x A=Q):bitL h A=Q↔∀j,j<A→bt h j=bt (hb x.Key) j:=by
 rw [← hx];exact bitL_eq _ _ _
theorem new_fork {n:Nat} {b l:Branch} {R:List Int} {k:Nat} (hl:LfOK l) (hb':C n b (R++[((48+(1 - bt (hb l.Key) k):Nat):Int)])) (hR:bitL (hb l.Key) k=R) (hk:k≤255) {P:List Int} (hP:P=R.take P.length) (hPk:P.length≤k) :
  C (n+1) (Branch.mk ByteArray.empty ByteArray.empty (k:Int) (if bt (hb l.Key) k=0 then [l,b] else [b,l])) P∧PutR (Lv n b) l (Lv (n+1) (Branch.mk ByteArray.empty ByteArray.empty (k:Int) (if bt (hb l.Key) k=0 then [l,b] else [b,l]))):=by
 obtain ⟨l1,l2,l3,l4⟩:=hl
 have hRl:R.length=k:=by rw [← hR];exact bitL_length _ _
 have hlt:=bt_lt (hb l.Key) k
 have hn:1≤n:=by
  cases n with
  | zero=>exact hb'.elim
  | succ n=>omega
 obtain ⟨n,rfl⟩:∃m,n=m+1:=⟨n - 1,by omega⟩
 have cl:∀c:Nat,bt (hb l.Key) k=c→C (n+1) l (R++[((48+c:Nat):Int)]):=by
  intro c hc
  refine .inl ⟨l1,l2,l3,l4,by rw [List.length_append,List.length_singleton];omega,?_⟩
  rw [List.length_append,List.length_singleton,hRl,pre_succ,hc]
  exact congrArg (·++_) hR
 have all:∀z∈Lv (n+1) b,(∀j,j<k→bt (hb l.Key) j=bt (hb z.Key) j)∧bt (hb z.Key) k=1 - bt (hb l.Key) k:=by
  intro z hz
  obtain ⟨z1,z2⟩:=C_bits hb' z hz
  rw [hRl] at z1 z2
  exact ⟨(bitsQ z1).1 hR,z2⟩
 by_cases hz:bt (hb l.Key) k=0
 ·rw [if_pos hz]
  rw [hz] at hb' all
  refine ⟨.inr ⟨l,b,R,k,rfl,rfl,rfl,rfl,hRl,hPk,hk,hP,cl 0 hz,hb'⟩,?_⟩
  rw [Lv_fork (b:=Branch.mk ByteArray.empty ByteArray.empty (k:Int) [l,b]) (x:=l) (y:=b) rfl,Lv_leaf l1]
  exact ⟨[],[],Lv (n+1) b,⟨rfl,fun a ha=>(by cases ha),fun z hz'=>⟨k,by omega,(all z hz').1,hz,(all z hz').2⟩,.inl rfl⟩,rfl⟩
 ·rw [if_neg hz]
  have h1:bt (hb l.Key) k=1:=by omega
  rw [h1] at hb' all
  refine ⟨.inr ⟨b,l,R,k,rfl,rfl,rfl,rfl,hRl,hPk,hk,hP,hb',cl 1 h1⟩,?_⟩
  rw [Lv_fork (b:=Branch.mk ByteArray.empty ByteArray.empty (k:Int) [b,l]) (x:=b) (y:=l) rfl,Lv_leaf l1]
  exact ⟨Lv (n+1) b,[],[],⟨by simp,fun z hz'=>⟨k,by omega,fun j hj=>((all z hz').1 j hj).symm,(all z hz').2,h1⟩,fun a ha=>(by cases ha),.inl rfl⟩,rfl⟩
theorem insC {N:Nat} (hN:Big N) (l:Branch) (hl:LfOK l) (k:Nat):∀(n f:Nat) (b:Branch) (P:List Int),n≤f→C n b P→bitL (hb l.Key) P.length=P→(∀j,j<k→bt (hb l.Key) j=bt (hb (near n (hb l.Key) b).Key) j)→(k=256∨(k<256∧bt (hb l.Key) k≠bt (hb (near n (hb l.Key) b).Key) k))→P.length≤k→
  ∃b',spec_l07Insert.mF N f b (hb l.Key) (k:Int) l=some b'∧C (n+1) b' P∧PutR (Lv n b) l (Lv (n+1) b')
 | 0,_,_,_,_,h,_,_,_,_=>h.elim
 | n+1,0,_,_,h,_,_,_,_,_=>by omega
 | n+1,f+1,b,P,hf,hC,hP,he,hk,hPk=>by
  show ∃b',spec_l07Insert.mb N (spec_l07Insert.mF N f) b (hb l.Key) (k:Int) l=some b'∧_
  have hh:=hb_size l.Key
  have hlt:=bt_lt (hb l.Key) k
  have fork:∀(Q:List Int),C (n+1) b (Q++[((48+(1 - bt (hb l.Key) k):Nat):Int)])→bitL (hb l.Key) k=Q→k<256→(bif (((bt (hb l.Key) k:Nat):Int)==(0:Int)) then
    some (Branch.mk ByteArray.empty ByteArray.empty (k:Int) [l,b]) else some (Branch.mk ByteArray.empty ByteArray.empty (k:Int) [b,l]))=some (Branch.mk ByteArray.empty ByteArray.empty (k:Int) (if bt (hb l.Key) k=0 then [l,b] else [b,l])):=by
   intro Q _ _ _
   by_cases hz:bt (hb l.Key) k=0
   ·rw [hz,if_pos rfl];rfl
   ·have h1:bt (hb l.Key) k=1:=by omega
    rw [h1,if_neg (by omega)];rfl
  have hPQ:∀Q:List Int,bitL (hb l.Key) k=Q→P=Q.take P.length:=by
   intro Q hQ
   rw [← hQ,bitL_take _ hPk,hP]
  rcases hC with ⟨h1,h2,h3,h4,h5,h6⟩ | ⟨x,y,Q,A,h1,h2,h3,h4,h5,h6,h7,h8,hx,hy⟩
  ·-- a leaf
   rw [near_leaf h1] at he hk
   unfold spec_l07Insert.mb
   simp only [brEta,leafS,ob_some,(lfB_iff b).2 h1,cond_true,cond_false]
   rcases hk with rfl | ⟨hk,hne⟩
   ·have e:hb b.Key=hb l.Key:=(bits_inj hh (hb_size _) he).symm
    refine ⟨l,rfl,.inl ⟨hl.1,hl.2.1,hl.2.2.1,hl.2.2.2,h5,hP⟩,?_⟩
    rw [Lv_leaf h1,Lv_leaf hl.1]
    exact ⟨[],[b],[],⟨rfl,fun a ha=>(by cases ha),fun a ha=>(by cases ha),.inr ⟨b,rfl,e⟩⟩,rfl⟩
   ·have e256:((k:Int)==256)=false:=by rw [beq_eq_false_iff_ne];omega
    have bb:bt (hb b.Key) k=1 - bt (hb l.Key) k:=by have:=bt_lt (hb b.Key) k;omega
    have cb:C (n+1) b (bitL (hb l.Key) k++[((48+(1 - bt (hb l.Key) k):Nat):Int)]):=by
     refine .inl ⟨h1,h2,h3,h4,by rw [List.length_append,bitL_length,List.length_singleton];omega,?_⟩
     rw [List.length_append,bitL_length,List.length_singleton,pre_succ,bb]
     exact congrArg (·++_) ((bitL_eq _ _ _).2 fun j hj=>(he j hj).symm)
    rw [e256,cond_false,specBit N hh (show k<256 by omega),ob_some,fork _ cb rfl hk]
    obtain ⟨c1,c2⟩:=new_fork hl cb rfl (by omega) (hPQ _ rfl) hPk
    exact ⟨_,rfl,c1,c2⟩
  ·-- a fork
   have hA:b.At.toNat=A:=by rw [h4];rfl
   have kl:(b.Kids.length:Int)=2:=by rw [h1];rfl
   have kn:b.Kids.length=2:=by rw [h1];rfl
   have g0:b.Kids.getD 0 Branch.dz=x:=by rw [h1];rfl
   have g1:b.Kids.getD 1 Branch.dz=y:=by rw [h1];rfl
   have hC:C (n+1) b P:=.inr ⟨x,y,Q,A,h1,h2,h3,h4,h5,h6,h7,h8,hx,hy⟩
   have nm:=near_mem (h:=hb l.Key) hC
   have nQ:pre (near (n+1) (hb l.Key) b) A=Q∧bt (hb (near (n+1) (hb l.Key) b).Key) A=bt (hb l.Key) A:=by
    have hlA:=bt_lt (hb l.Key) A
    rw [near_fork h1,hA]
    by_cases hz:bt (hb l.Key) A=0
    ·rw [if_pos hz]
     have:=C_bits (c:=0) hx _ (near_mem (h:=hb l.Key) hx)
     rw [h5] at this
     exact ⟨this.1,by rw [hz];exact this.2⟩
    ·rw [if_neg hz]
     have:=C_bits (c:=1) hy _ (near_mem (h:=hb l.Key) hy)
     rw [h5] at this
     exact ⟨this.1,by rw [this.2];omega⟩
   by_cases hAk:A > k
   ·-- ahead of it
    have hk':k<256∧bt (hb l.Key) k≠bt (hb (near (n+1) (hb l.Key) b).Key) k:=by
     rcases hk with rfl | hk
     ·omega
     ·exact hk
    have e256:((k:Int)==256)=false:=by rw [beq_eq_false_iff_ne];omega
    have hgt:decide (b.At > (k:Int))=true:=decide_eq_true (by omega)
    have hQk:Q.take k=bitL (hb l.Key) k:=by
     rw [← nQ.1,pre_take _ (by omega)]
     exact (bitL_eq _ _ _).2 fun j hj=>(he j hj).symm
    have hQ1:Q.take (k+1)=bitL (hb l.Key) k++[((48+(1 - bt (hb l.Key) k):Nat):Int)]:=by
     rw [← nQ.1,pre_take _ (by omega),pre_succ]
     have e1:pre (near (n+1) (hb l.Key) b) k=bitL (hb l.Key) k:=(bitL_eq _ _ _).2 fun j hj=>(he j hj).symm
     have e2:bt (hb (near (n+1) (hb l.Key) b).Key) k=1 - bt (hb l.Key) k:=by have:=bt_lt (hb (near (n+1) (hb l.Key) b).Key) k;have:=hk'.2;omega
     rw [e1,e2]
    have cb:C (n+1) b (bitL (hb l.Key) k++[((48+(1 - bt (hb l.Key) k):Nat):Int)]):=by
     rw [← hQ1]
     exact C_more h1 h2 h3 h4 h5 h7 hx hy (by omega)
    unfold spec_l07Insert.mb
    simp only [brEta,leafS,ob_some,lfB_fork h1,e256,hgt,cond_true,cond_false,specBit N hh hk'.1]
    rw [fork _ cb rfl hk'.1]
    obtain ⟨c1,c2⟩:=new_fork hl cb rfl (by omega) (hPQ _ rfl) hPk
    exact ⟨_,rfl,c1,c2⟩
   ·-- within
    have hAk':A<k:=by
     rcases hk with rfl | ⟨hk,hne⟩
     ·omega
     ·refine Nat.lt_of_le_of_ne (by omega) fun e=>?_
      subst e
      exact hne nQ.2.symm
    have hgt:decide (b.At > (k:Int))=false:=decide_eq_false (by omega)
    have hlQ:bitL (hb l.Key) A=Q:=by
     rw [← nQ.1]
     exact (bitL_eq _ _ _).2 fun j hj=>he j (by omega)
    have hlA:=bt_lt (hb l.Key) A
    have hroom:room (([]:List Branch).length+b.Kids.length) 64=true:=by rw [kn];rfl
    have run:∀(c:Nat) (z z':Branch),bt (hb l.Key) A=c→c<2→b.Kids.getD c Branch.dz=z→spec_l07Insert.mF N f z (hb l.Key) (k:Int) l=some z'→spec_l07Insert.mb N (spec_l07Insert.mF N f) b (hb l.Key) (k:Int) l=some (Branch.mk ByteArray.empty ByteArray.empty b.At (b.Kids.set c z')):=by
     intro c z z' hc hc2 hz hz'
     have d1:decide ((0:Int)≤(c:Int))=true:=nn_dec c
     have d2:decide ((c:Int)<2)=true:=decide_eq_true (by omega)
     have d3:decide ((c:Int)<((([]:List Branch)++b.Kids).length:Int))=true:=by rw [List.nil_append,kl];exact d2
     have hbt:spec_l07Bit.m N (hb l.Key) b.At=some (c:Int):=by rw [h4,← hc];exact specBit N hh (by omega)
     unfold spec_l07Insert.mb
     cases ((k:Int)==256)<;>
      simp only [brEta,leafS,ob_some,lfB_fork h1,hgt,cond_true,cond_false,hbt,hroom,d1,kl,d2,Int.toNat_natCast,hz,hz',d3,List.nil_append]
    by_cases hz:bt (hb l.Key) A=0
    ·have nr:near (n+1) (hb l.Key) b=near n (hb l.Key) x:=by rw [near_fork h1,hA,if_pos hz]
     rw [nr] at he hk
     obtain ⟨x',r1,r2,r3⟩:=insC hN l hl k n f x (Q++[48]) (by omega) hx (by rw [List.length_append,List.length_singleton,h5,← bitL_snoc,hlQ,hz];rfl) he hk (by rw [List.length_append,List.length_singleton,h5];omega)
     have hks:b.Kids.set 0 x'=[x',y]:=by rw [h1];rfl
     refine ⟨_,run 0 x x' hz (by omega) g0 r1,?_,?_⟩
     ·rw [hks]
      exact .inr ⟨x',y,Q,A,rfl,rfl,rfl,h4,h5,h6,h7,h8,r2,(C_up (Nat.le_succ n) hy).1⟩
     ·rw [hks,Lv_fork (b:=Branch.mk ByteArray.empty ByteArray.empty b.At [x',y]) (x:=x') (y:=y) rfl,Lv_fork h1,(C_up (Nat.le_succ n) hy).2]
      refine r3.left fun z hz'=>?_
      obtain ⟨z1,z2⟩:=C_bits (c:=1) hy z hz'
      rw [h5] at z1 z2
      exact ⟨A,by omega,(bitsQ z1).1 hlQ,hz,z2⟩
    ·have h1':bt (hb l.Key) A=1:=by omega
     have nr:near (n+1) (hb l.Key) b=near n (hb l.Key) y:=by rw [near_fork h1,hA,if_neg hz]
     rw [nr] at he hk
     obtain ⟨y',r1,r2,r3⟩:=insC hN l hl k n f y (Q++[49]) (by omega) hy (by rw [List.length_append,List.length_singleton,h5,← bitL_snoc,hlQ,h1'];rfl) he hk (by rw [List.length_append,List.length_singleton,h5];omega)
     have hks:b.Kids.set 1 y'=[x,y']:=by rw [h1];rfl
     refine ⟨_,run 1 y y' h1' (by omega) g1 r1,?_,?_⟩
     ·rw [hks]
      exact .inr ⟨x,y',Q,A,rfl,rfl,rfl,h4,h5,h6,h7,h8,(C_up (Nat.le_succ n) hx).1,r2⟩
     ·rw [hks,Lv_fork (b:=Branch.mk ByteArray.empty ByteArray.empty b.At [x,y']) (x:=x) (y:=y') rfl,Lv_fork h1,(C_up (Nat.le_succ n) hx).2]
      refine r3.right fun z hz'=>?_
      obtain ⟨z1,z2⟩:=C_bits (c:=0) hx z hz'
      rw [h5] at z1 z2
      exact ⟨A,by omega,fun j hj=>((bitsQ z1).1 hlQ j hj).symm,z2,h1'⟩
def eB:Branch:=Branch.mk ByteArray.empty ByteArray.empty 0 []
def lf (k v:ByteArray):Branch:=Branch.mk k v 256 []
theorem lf_ok {k v:ByteArray} (hk:1≤k.size∧k.size≤24) (hv:v.size≤60):LfOK (lf k v):=⟨rfl,hk,hv,rfl⟩
theorem emB_iff {b:Branch}:emB b=true↔b=eB:=by
 cases b with
 | mk k v a r=>
  unfold emB eB
  simp only [Bool.and_eq_true,seq_iff,beq_iff_eq]
  constructor
  ·rintro ⟨h1,h2,h3,h4⟩
   have h1:k=ByteArray.empty:=h1
   have h2:v=ByteArray.empty:=h2
   have h3:a=0:=h3
   have h4:(r.length:Int)=0:=h4
   have h4:r=[]:=List.eq_nil_of_length_eq_zero (by omega)
   rw [h1,h2,h3,h4]
  ·intro h
   injection h with h1 h2 h3 h4
   exact ⟨h1,h2,h3,by show (r.length:Int)=0;rw [h4];rfl⟩
theorem C_em {n:Nat} {b:Branch} {P:List Int} (h:C n b P):emB b=false:=by
 cases hb:emB b with
 | false=>rfl
 | true=>
  rw [emB_iff] at hb
  subst hb
  cases n with
  | zero=>exact h.elim
  | succ n=>
   rcases h with ⟨_,_,_,h4,_⟩ | ⟨x,y,Q,A,h1,_⟩
   ·exact absurd h4 (by decide)
   ·cases h1
def Mq (b:Branch) (L:List Branch):Prop:=(b=eB∧L=[])∨(C 257 b []∧Lv 257 b=L)
theorem Mq.of {n:Nat} {b:Branch} (h:C n b []):Mq b (Lv n b):=by
 obtain ⟨h1,h2⟩:=C_cap (m:=257) (by simp) h
 exact .inr ⟨h1,h2⟩
theorem Mq.bok {b:Branch} {L:List Branch} (h:Mq b L):bok 257 b:=by
 rcases h with ⟨rfl,_⟩ | ⟨h,_⟩
 ·exact ⟨Nat.zero_le _,Nat.zero_le _,Nat.zero_le _,fun x hx=>by cases hx⟩
 ·exact C_bok h
theorem Mq.srt {b:Branch} {L:List Branch} (h:Mq b L):Srt L:=by
 rcases h with ⟨_,rfl⟩ | ⟨h,rfl⟩
 ·exact List.Pairwise.nil
 ·exact C_srt h
theorem Mq.good {b:Branch} {L:List Branch} (h:Mq b L):∀l∈L,LfOK l:=by
 rcases h with ⟨_,rfl⟩ | ⟨h,rfl⟩
 ·intro l hl;cases hl
 ·exact C_lf h
theorem Mq.em {b:Branch} {L:List Branch} (h:Mq b L):(emB b=true∧L=[])∨(emB b=false∧C 257 b []∧Lv 257 b=L):=by
 rcases h with ⟨rfl,h⟩ | ⟨h1,h2⟩
 ·exact .inl ⟨emB_iff.2 rfl,h⟩
 ·exact .inr ⟨C_em h1,h1,h2⟩
open Classical in
theorem Mq.mapB {b:Branch} {L:List Branch} (h:Mq b L) (hl:L.length≤40):Mir.Y.mapB 257 b=true:=by
 unfold Mir.Y.mapB
 rcases h.em with ⟨h1,_⟩ | ⟨h1,h2,h3⟩
 ·rw [h1];rfl
 ·rw [h1,Bool.false_or]
  unfold gdB
  exact decide_eq_true ⟨Cx0.2 h2,by rw [h3];omega⟩
open Classical in
theorem Mq.conv {n:Nat} {b:Branch} (h:Mir.Y.mapB n b=true):∃L,Mq b L∧L.length≤40:=by
 unfold Mir.Y.mapB at h
 cases he:emB b with
 | true=>exact ⟨[],.inl ⟨emB_iff.1 he,rfl⟩,by simp⟩
 | false=>
  rw [he,Bool.false_or] at h
  unfold gdB at h
  have h:=of_decide_eq_true h
  exact ⟨_,Mq.of (Cx0.1 h.1),by omega⟩
variable {b b':Branch} {L L':List Branch}
theorem Mq.pairs {N:Nat} (hN:Big N) (h:Mq b L) (hl:L.length≤40):impl_mapPairs.m N b=some (L.map prO,true):=by
 obtain ⟨l,h1,h2,h3⟩:=implPairs0 hN (n:=257) (by omega) b h.bok
 rw [h1,h.mapB hl]
 rcases h.em with ⟨e,rfl⟩ | ⟨e,_,e3⟩
 ·rw [h2 e];rfl
 ·rw [h3 e (h.mapB hl),e3]
theorem sizeC {N:Nat} (hN:Big N):∀(n f:Nat) (b:Branch) (P:List Int),n≤f→C n b P→(Lv n b).length≤1000→spec_l07Size.mF N f b=some ((Lv n b).length:Int)
 | 0,_,_,_,_,h,_=>h.elim
 | n+1,0,_,_,h,_,_=>by omega
 | n+1,f+1,b,P,hf,hC,hl=>by
  show spec_l07Size.mb N (spec_l07Size.mF N f) b=_
  have em:=C_em hC
  unfold spec_l07Size.mb
  rw [brEta,l07Empty,ob_some,em,cond_false,leafS,ob_some]
  rcases hC with ⟨h1,_⟩ | ⟨x,y,Q,A,h1,_,_,_,_,_,_,_,hx,hy⟩
  ·rw [(lfB_iff b).2 h1,cond_true,Lv_leaf h1];rfl
  ·rw [Lv_fork h1,List.length_append] at hl
   have g0:b.Kids.getD 0 Branch.dz=x:=by rw [h1];rfl
   have g1:b.Kids.getD 1 Branch.dz=y:=by rw [h1];rfl
   have kl:(b.Kids.length:Int)=2:=by rw [h1];rfl
   rw [lfB_fork h1,cond_false,g0,g1,brEta,brEta,kl,sizeC hN n f x _ (by omega) hx (by omega),sizeC hN n f y _ (by omega) hy (by omega),ob_some,ob_some,w_small (by omega) (by omega),Lv_fork h1,List.length_append]
   simp
theorem Mq.size {N:Nat} (hN:Big N) (h:Mq b L) (hl:L.length≤1000):spec_l07Size.m N b=some (L.length:Int):=by
 rcases h.em with ⟨e,rfl⟩ | ⟨e,h2,h3⟩
 ·obtain ⟨M,hM⟩:∃M,N=M+1:=⟨N - 1,by omega⟩
  have:spec_l07Size.m N b=spec_l07Size.mb N (spec_l07Size.mF N M) b:=by unfold spec_l07Size.m;rw [show spec_l07Size.mF N N=spec_l07Size.mF N (M+1) by rw [← hM]];rfl
  rw [this]
  unfold spec_l07Size.mb
  rw [brEta,l07Empty,ob_some,e];rfl
 ·rw [← h3]
  exact sizeC hN 257 N b _ (by omega) h2 (by rw [h3];exact hl)
theorem ownC {N:Nat} (hN:Big N):∀(n f:Nat) (b:Branch) (P:List Int),n≤f→C n b P→spec_l07Own.mF N f b=some b
 | 0,_,_,_,_,h=>h.elim
 | n+1,0,_,_,h,_=>by omega
 | n+1,f+1,b,P,hf,hC=>by
  show spec_l07Own.mb N (spec_l07Own.mF N f) b=_
  unfold spec_l07Own.mb spec_l07Own.m0 spec_l07Own.lp3
  obtain ⟨M,hM⟩:∃M,N=M+3:=⟨N - 3,by omega⟩
  have un:∀(g:(spec_l07Own.A3→Option Branch)→(spec_l07Own.A3→Option Branch)) (s),miter g N s=g (g (g (miter g M))) s:=by rw [hM];intro g s;rfl
  rw [un]
  rcases hC with ⟨h1,_⟩ | ⟨x,y,Q,A,h1,_,_,_,_,_,_,_,hx,hy⟩
  ·have kl:(b.Kids.length:Int)=0:=by rw [h1];rfl
   simp only [spec_l07Own.step3,kl,show decide ((0:Int)<0)=false from rfl,cond_false]
   rw [← h1,brEta]
  ·have g0:b.Kids.getD (Int.toNat 0) Branch.dz=x:=by rw [h1];rfl
   have g1:b.Kids.getD (Int.toNat 1) Branch.dz=y:=by rw [h1];rfl
   have kl:(b.Kids.length:Int)=2:=by rw [h1];rfl
   have w1:w64 (0+1)=1:=by decide
   have w2:w64 (1+1)=2:=by decide
   have r1:room [x].length 64=true:=rfl
   have r2:room ([x].length+[y].length) 64=true:=rfl
   simp only [spec_l07Own.step3,kl,show decide ((0:Int)<2)=true from rfl,show decide ((1:Int)<2)=true from rfl,show decide ((2:Int)<2)=false from rfl,show decide ((0:Int)≤0)=true from rfl,show decide ((0:Int)≤1)=true from rfl,cond_true,cond_false,g0,g1,brEta,ownC hN n f x _ (by omega) hx,ownC hN n f y _ (by omega) hy,ob_some,w1,w2,r1,r2,List.cons_append,List.nil_append]
   rw [← h1,brEta]
theorem Mq.own {N:Nat} (hN:Big N) (h:Mq b L):spec_l07Own.m N b=some b:=by
 rcases h with ⟨rfl,_⟩ | ⟨h,_⟩
 ·obtain ⟨M,rfl⟩:∃M,N=M+1:=⟨N - 1,by omega⟩
  show spec_l07Own.mb (M+1) (spec_l07Own.mF (M+1) M) eB=_
  unfold spec_l07Own.mb spec_l07Own.m0 spec_l07Own.lp3
  rw [miter_s]
  rfl
 ·exact ownC hN 257 N b _ (by omega) h
theorem Mq.put {N:Nat} (hN:Big N) (h:Mq b L) {k v:ByteArray} (hk:1≤k.size∧k.size≤24) (hv:v.size≤60):∃b' L',spec_l07Put.m N b k v=some b'∧Mq b' L'∧PutR L (lf k v) L':=by
 unfold spec_l07Put.m
 rw [brEta,l07Empty,ob_some]
 have hnew:spec_l07New.m N k v=some (lf k v):=rfl
 rcases h.em with ⟨e,rfl⟩ | ⟨e,h2,h3⟩
 ·rw [e,cond_true,hnew,ob_some,brEta]
  refine ⟨lf k v,[lf k v],rfl,?_,[],[],[],⟨rfl,fun a ha=>(by cases ha),fun a ha=>(by cases ha),.inl rfl⟩,rfl⟩
  have:C 1 (lf k v) []:=.inl ⟨rfl,hk,hv,rfl,by simp,rfl⟩
  have:=Mq.of this
  rwa [Lv_leaf (b:=lf k v) rfl] at this
 ·have n0:spec_l07Near.m N b (hb k)=some (hb (near 257 (hb k) b).Key):=nearS hN b (hb k) (hb_size k) 257 N b [] (by omega) h2
  obtain ⟨d,d1,d2,d3⟩:=differS hN (hb_size k) (hb_size (near 257 (hb k) b).Key)
  obtain ⟨b',r1,r2,r3⟩:=insC hN (lf k v) (lf_ok hk hv) d 257 N b [] (by omega) h2 rfl d2 d3 (Nat.zero_le _)
  have r1:spec_l07Insert.m N b (hb k) (d:Int) (lf k v)=some b':=r1
  rw [e,cond_false,l07Hash hN _ (by omega),ob_some,n0,ob_some,d1,ob_some,hnew,ob_some,brEta,r1,ob_some,brEta]
  exact ⟨b',_,rfl,Mq.of r2,by rw [h3] at r3;exact r3⟩
theorem wu64_small {x:Int} (h0:0≤x) (h1:x<18446744073709551616):wu64 x=x:=by
 simp only [wu64,IntKind.wrap,IntKind.bits,IntKind.signed]
 simp
 omega
theorem midW (i j:Nat) (h:i+j≤1048576):w64 (Int.fdiv (wu64 (w64 ((i:Int)+(j:Int)))) (2 ^ (min (Int.toNat (1:Int)) 64)))=(((i+j) / 2:Nat):Int):=by
 have e1:w64 ((i:Int)+(j:Int))=((i+j:Nat):Int):=by rw [w_small (by omega) (by omega)];omega
 have e2:Int.fdiv ((i+j:Nat):Int) (2 ^ (min (Int.toNat (1:Int)) 64))=(((i+j) / 2:Nat):Int):=fdiv_nat (i+j) 2
 rw [e1,wu64_small (by omega) (by omega),e2,w_small (by omega) (by omega)]
theorem pairAt1 (N:Nat) (x:Branch) (h:ByteArray):impl_pairAt_1.m N (prO x) h=some (Go.Lib.compareBytes (hb x.Key).data.toList h.data.toList):=rfl
theorem searchP {N:Nat} (hN:Big N) {A M B:List Branch} {h:ByteArray} (hh:h.size=32) (p:Part L h A M B) (hl:L.length≤1000):slices_BinarySearchFunc_impl_pairOf_impl_pairOf_string__impl_pairAt_1.m N (L.map prO) h=some ((A.length:Int),!M.isEmpty):=by
 unfold slices_BinarySearchFunc_impl_pairOf_impl_pairOf_string__impl_pairAt_1.m slices_BinarySearchFunc_impl_pairOf_impl_pairOf_string__impl_pairAt_1.m0 slices_BinarySearchFunc_impl_pairOf_impl_pairOf_string__impl_pairAt_1.lp3
 have hlen:=p.len
 have hml:((L.map prO).length:Int)=(L.length:Int):=by rw [List.length_map]
 rw [hml]
 have at_:∀j,j<L.length→(L.map prO).getD j pairOf.dz=prO (L.getD j Branch.dz):=fun j hj=>by rw [prO_at hj,getD_at hj]
 refine miter_all (p:=fun r=>r=some ((A.length:Int),!M.isEmpty)) (fun v:Int×Int×Int=>(v.2.2 - v.2.1).toNat) (fun v=>∃i j:Nat,v=((L.length:Int),(i:Int),(j:Int))∧i≤A.length∧A.length≤j∧j≤L.length) ?_ N _ ⟨0,L.length,rfl,Nat.zero_le _,by omega,Nat.le_refl _⟩ (by simp;omega)
 rintro v ⟨i,j,rfl,i1,i2,i3⟩ rec hrec
 simp only [slices_BinarySearchFunc_impl_pairOf_impl_pairOf_string__impl_pairAt_1.step3]
 by_cases hij:i<j
 ·have hm:(i+j) / 2<L.length:=by omega
  rw [decide_eq_true (show (i:Int)<(j:Int) by omega),cond_true,midW i j (by omega),nn_dec,hml,lt_dec hm,Int.toNat_natCast,at_ _ hm,getD_at hm,pairAt1]
  simp only [show (!decide ((1:Int)<0))=true from rfl,cond_true,ob_some]
  obtain ⟨q1,q2⟩:=p.at hm
  rcases cmpH (hb_size (L[(i+j) / 2]).Key) hh with ⟨k,e⟩ | ⟨k,e⟩ | ⟨k,e⟩
  ·rw [e,show decide ((-1:Int)<0)=true from rfl,cond_true]
   have hlt:(i+j) / 2<A.length:=by
    refine Nat.lt_of_not_le fun hge=>?_
    rcases q2 hge with h1 | h1
    ·rw [h1] at k;exact hlt_irrefl _ k
    ·exact hlt_asymm k h1
   rw [w_up _ 1048576 (by omega) (by omega)]
   exact hrec _ ⟨(i+j) / 2+1,j,rfl,by omega,i2,i3⟩ (by simp only [];omega)
  all_goals
   have hge:A.length≤(i+j) / 2:=by
    refine Nat.le_of_not_lt fun hlt=>?_
    have:=q1 hlt
    first
     | (rw [k] at this;exact hlt_irrefl _ this)
     | exact hlt_asymm this k
   rw [e]
   first
    | rw [show decide ((0:Int)<0)=false from rfl,cond_false]
    | rw [show decide ((1:Int)<0)=false from rfl,cond_false]
   exact hrec _ ⟨i,(i+j) / 2,rfl,i1,hge,by omega⟩ (by simp only [];omega)
 ·rw [decide_eq_false (show ¬ ((i:Int)<(j:Int)) by omega),cond_false]
  have hi:i=A.length:=by omega
  subst hi
  by_cases hL:A.length<L.length
  ·rw [lt_dec hL,cond_true,nn_dec,hml,lt_dec hL,Int.toNat_natCast,at_ _ hL,getD_at hL,pairAt1]
   simp only [cond_true,ob_some]
   congr 2
   rcases p.mid with rfl | ⟨z,rfl,hz⟩
   ·have hx:=(p.at hL).2 (Nat.le_refl _)
    have hne:hlt h (hb (L[A.length]).Key):=by
     have e:L[A.length]=(A++([]++B))[A.length]'(by rw [← p.eq];exact hL):=by congr 1;exact p.eq
     rw [e,List.getElem_append_right (Nat.le_refl _)]
     exact p.hi _ (by simp)
    rcases cmpH (hb_size (L[A.length]).Key) hh with ⟨k,e⟩ | ⟨k,e⟩ | ⟨k,e⟩
    ·exact absurd k (hlt_asymm hne)
    ·rw [k] at hne;exact absurd hne (hlt_irrefl _)
    ·rw [e];rfl
   ·have e:L[A.length]=(A++([z]++B))[A.length]'(by rw [← p.eq];exact hL):=by congr 1;exact p.eq
    have e2:L[A.length]=z:=by rw [e,List.getElem_append_right (Nat.le_refl _)];simp
    rw [e2,hz,cmpB_self];rfl
  ·rw [decide_eq_false (show ¬ ((A.length:Int)<(L.length:Int)) by omega),cond_false]
   have:M=[]:=List.eq_nil_of_length_eq_zero (by omega)
   rw [this];rfl
theorem pairAtP {N:Nat} (hN:Big N) {A M B:List Branch} {k:ByteArray} (hk:k.size≤24) (p:Part L (hb k) A M B) (hl:L.length≤1000):impl_pairAt.m N (L.map prO) k=some ((A.length:Int),!M.isEmpty):=by
 unfold impl_pairAt.m
 rw [implHash hN _ (by omega),ob_some,searchP hN (hb_size k) p hl,ob_some]
theorem clonePr (N:Nat) (l:List pairOf) (h:l.length≤1000):slices_Clone_impl_pairOf_impl_pairOf.m N l=some l:=by
 unfold slices_Clone_impl_pairOf_impl_pairOf.m
 rw [roomB (show ([]:List pairOf).length+l.length≤1048576 by simp;omega) (by omega),cond_true,List.nil_append]
 exact amb_right fun h=>by rw [List.isEmpty_iff.1 h]
theorem mapPutP {N:Nat} (hN:Big N) {A M B:List Branch} {k v:ByteArray} (hk:k.size≤24) (p:Part L (hb k) A M B) (hl:L.length≤40):impl_mapPut.m N (L.map prO) k v=some (if M=[]∧L.length=40 then ([],7) else ((A++lf k v::B).map prO,0)):=by
 unfold impl_mapPut.m
 have hml:(L.map prO).length=L.length:=List.length_map _
 have hlen:=p.len
 rw [clonePr N _ (by omega),ob_some,implHash hN _ (by omega),ob_some,pairAtP hN hk p (by omega),ob_some]
 simp only [hml,Int.toNat_natCast]
 have hpr:prO (lf k v)=pairOf.mk k v (hb k):=rfl
 rcases p.mid with rfl | ⟨z,rfl,hz⟩
 ·simp only [List.isEmpty_nil,Bool.not_true,cond_false,true_and]
  by_cases h40:L.length=40
  ·rw [if_pos h40,h40];rfl
  ·have e:((L.length:Int)==40)=false:=by rw [beq_eq_false_iff_ne];omega
   rw [e,cond_false,if_neg h40]
   unfold slices_Insert_impl_pairOf.m insM
   rw [hml,nn_dec,decide_eq_true (show ((A.length:Nat):Int)≤(L.length:Int) by omega),roomB (show L.length+1≤1048576 by omega) (by omega)]
   show ob (some ((L.map prO).take A.length++([pairOf.mk k v (hb k)]++(L.map prO).drop A.length))) _=_
   rw [ob_some,← List.map_take,← List.map_drop,p.eq,List.take_left,List.drop_left,← hpr]
   simp
 ·simp only [List.isEmpty_cons,Bool.not_false,cond_true]
  rw [nn_dec,lt_dec (show A.length<L.length by simp at hlen;omega),cond_true,cond_true,if_neg (by simp),← hpr,p.eq]
  congr 2
  rw [List.map_append,List.map_append,List.set_append_right _ _ (by simp)]
  simp
variable {b b':Branch} {L L':List Branch}
theorem bitI1 {N:Nat} (x:Branch) {i:Nat} (hi:i<256):impl_bit.m N (prO x).hash (i:Int)=some (bt (hb x.Key) i:Int):=implBit N (hb_size _) hi
theorem idxP {N:Nat} (hN:Big N) {X Y:List Branch} {A:Nat} (hA:A<256) (hl:X.length+Y.length≤1000) (hX:∀x∈X,bt (hb x.Key) A=0) (hY:∀y∈Y,bt (hb y.Key) A=1) (h0:0<Y.length) :
  slices_IndexFunc_impl_pairOf_impl_pairOf__impl_mapOf_1.m N ((X++Y).map prO) (A:Int)=some (X.length:Int):=by
 unfold slices_IndexFunc_impl_pairOf_impl_pairOf__impl_mapOf_1.m slices_IndexFunc_impl_pairOf_impl_pairOf__impl_mapOf_1.m0 slices_IndexFunc_impl_pairOf_impl_pairOf__impl_mapOf_1.lp2
 have hll:((X++Y).map prO).length=X.length+Y.length:=by rw [List.length_map,List.length_append]
 exact miter_up (step:=fun rec=>slices_IndexFunc_impl_pairOf_impl_pairOf__impl_mapOf_1.step2 N ((X++Y).map prO) (A:Int) rec) (n:=X.length) (st:=fun i=>((((X++Y).map prO).length:Int),(i:Int))) (fun i hi rec=>by
  have hi':i<(X++Y).length:=by rw [List.length_append];omega
  have hz:bt (hb ((X++Y)[i]).Key) A=0:=by rw [List.getElem_append_left hi];exact hX _ (List.getElem_mem hi)
  simp only [slices_IndexFunc_impl_pairOf_impl_pairOf__impl_mapOf_1.step2,hll,lt_dec (show i<X.length+Y.length by omega),nn_dec,cond_true,Int.toNat_natCast,prO_at hi',impl_mapOf_1.m,bitI1 _ hA,ob_some,hz]
  rw [w_up i _ hi (by omega)];rfl) (fun rec=>by
  have hi':X.length<(X++Y).length:=by rw [List.length_append];omega
  have hz:bt (hb ((X++Y)[X.length]).Key) A=1:=by rw [List.getElem_append_right (Nat.le_refl _)];exact hY _ (List.getElem_mem _)
  simp only [slices_IndexFunc_impl_pairOf_impl_pairOf__impl_mapOf_1.step2,hll,lt_dec (show X.length<X.length+Y.length by omega),nn_dec,cond_true,Int.toNat_natCast,prO_at hi',impl_mapOf_1.m,bitI1 _ hA,ob_some,hz]
  rfl) X.length 0 N (by omega) (by omega)
theorem mapOfC {N:Nat} (hN:Big N):∀(n f:Nat) (b:Branch) (P:List Int) (t:Nat),n≤f→C n b P→t≤P.length→(Lv n b).length≤1000→impl_mapOf.mF N f ((Lv n b).map prO) (t:Int)=some b
 | 0,_,_,_,_,_,h,_,_=>h.elim
 | n+1,0,_,_,_,h,_,_,_=>by omega
 | n+1,f+1,b,P,t,hf,.inl ⟨h1,h2,h3,h4,_⟩,ht,hl=>by
  rw [Lv_leaf h1]
  show impl_mapOf.mb N (impl_mapOf.mF N f) [prO b] (t:Int)=_
  have e:b=Branch.mk b.Key b.Value 256 []:=by
   obtain ⟨k,v,a,r⟩:=b
   have h1:r=[]:=h1
   have h4:a=256:=h4
   rw [h1,h4]
  conv=>rhs;rw [e]
  rfl
 | n+1,f+1,b,P,t,hf,.inr ⟨x,y,Q,A,h1,h2,h3,h4,h5,h6,h7,h8,hx,hy⟩,ht,hl=>by
  rw [Lv_fork h1] at hl ⊢
  have px:=C_pos hx
  have py:=C_pos hy
  rw [List.length_append] at hl
  have bX:∀z∈Lv n x,pre z A=Q∧bt (hb z.Key) A=0:=fun z hz=>by have:=C_bits (c:=0) hx z hz;rwa [h5] at this
  have bY:∀z∈Lv n y,pre z A=Q∧bt (hb z.Key) A=1:=fun z hz=>by have:=C_bits (c:=1) hy z hz;rwa [h5] at this
  have hll:((Lv n x++Lv n y).map prO).length=(Lv n x).length+(Lv n y).length:=by rw [List.length_map,List.length_append]
  show impl_mapOf.mb N (impl_mapOf.mF N f) ((Lv n x++Lv n y).map prO) (t:Int)=_
  unfold impl_mapOf.mb impl_mapOf.m0
  have e0:((((Lv n x++Lv n y).map prO).length:Int)==0)=false:=by rw [hll,beq_eq_false_iff_ne];omega
  have e1:((((Lv n x++Lv n y).map prO).length:Int)==1)=false:=by rw [hll,beq_eq_false_iff_ne];omega
  rw [e0,e1,cond_false,cond_false]
  unfold impl_mapOf.lp6
  have hl0:0<(Lv n x++Lv n y).length:=by rw [List.length_append];omega
  have hl1:(Lv n x).length+(Lv n y).length - 1<(Lv n x++Lv n y).length:=by rw [List.length_append];omega
  have f0:(Lv n x++Lv n y)[0]∈Lv n x:=by rw [List.getElem_append_left px];exact List.getElem_mem _
  have f1:(Lv n x++Lv n y)[(Lv n x).length+(Lv n y).length - 1]∈Lv n y:=by rw [List.getElem_append_right (by omega)];exact List.getElem_mem _
  have wl:w64 ((((Lv n x).length+(Lv n y).length:Nat):Int) - 1)=(((Lv n x).length+(Lv n y).length - 1:Nat):Int):=w_dn _ (by omega) (by omega)
  have d1:decide ((((Lv n x).length+(Lv n y).length - 1:Nat):Int)<(((Lv n x).length+(Lv n y).length:Nat):Int))=true:=decide_eq_true (by omega)
  have d0:decide ((0:Int)<(((Lv n x).length+(Lv n y).length:Nat):Int))=true:=decide_eq_true (by omega)
  have at0:((Lv n x++Lv n y).map prO).getD 0 pairOf.dz=prO (Lv n x++Lv n y)[0]:=prO_at hl0
  have stp:∀(v:Nat) (rec:Int×ByteArray×ByteArray×Int→Option Branch) (p q:Nat),v≤A→bt (hb ((Lv n x++Lv n y)[0]).Key) v=p→bt (hb ((Lv n x++Lv n y)[(Lv n x).length+(Lv n y).length - 1]).Key) v=q→
    impl_mapOf.step6 N (impl_mapOf.mF N f) ((Lv n x++Lv n y).map prO) (t:Int) rec ((v:Int),ByteArray.empty,ByteArray.empty,0)=bif ((p:Int)==(q:Int)) then rec (((v+1:Nat):Int),ByteArray.empty,ByteArray.empty,0) else
     ob (slices_IndexFunc_impl_pairOf_impl_pairOf__impl_mapOf_1.m N ((Lv n x++Lv n y).map prO) (v:Int)) fun y3=>bif decide (0≤y3) then bif decide (y3≤(((Lv n x).length+(Lv n y).length:Nat):Int)) then ob (impl_mapOf.mF N f (((Lv n x++Lv n y).map prO).take (Int.toNat y3)) ((v+1:Nat):Int)) fun y4=>bif decide (0≤y3) then bif decide (y3≤(((Lv n x).length+(Lv n y).length:Nat):Int)) then ob (impl_mapOf.mF N f (((Lv n x++Lv n y).map prO).drop (Int.toNat y3)) ((v+1:Nat):Int)) fun y5=>some (Branch.mk ByteArray.empty ByteArray.empty (v:Int) ([(Branch.mk y4.Key y4.Value y4.At y4.Kids),(Branch.mk y5.Key y5.Value y5.At y5.Kids)])) else none else none else none else none:=by
   intro v rec p q hv hp hq
   have hv':w64 ((v:Int)+1)=((v+1:Nat):Int):=w_up v 256 (by omega) (by omega)
   simp only [impl_mapOf.step6,hll,d0,wl,nn_dec,d1,Int.toNat_natCast,cond_true,at0,prO_at hl1,bitI1 _ (show v<256 by omega),ob_some,hp,hq,hv',show decide ((0:Int)≤0)=true from rfl]
  refine (miter_up (step:=fun rec=>impl_mapOf.step6 N (impl_mapOf.mF N f) ((Lv n x++Lv n y).map prO) (t:Int) rec) (n:=A - t) (st:=fun i=>(((t+i:Nat):Int),ByteArray.empty,ByteArray.empty,(0:Int))) (r:=some b) (fun i hi rec=>?_) (fun rec=>?_) (A - t) 0 N (by omega) (by omega))
  ·have he:bt (hb ((Lv n x++Lv n y)[0]).Key) (t+i)=bt (hb ((Lv n x++Lv n y)[(Lv n x).length+(Lv n y).length - 1]).Key) (t+i):=pre_eq.1 ((bX _ f0).1.trans (bY _ f1).1.symm) _ (by omega)
   show impl_mapOf.step6 N (impl_mapOf.mF N f) ((Lv n x++Lv n y).map prO) (t:Int) rec (((t+i:Nat):Int),ByteArray.empty,ByteArray.empty,0)=_
   rw [stp (t+i) rec _ _ (by omega) he rfl]
   simp [Nat.add_assoc]
  ·have hta:t+(A - t)=A:=by omega
   show impl_mapOf.step6 N (impl_mapOf.mF N f) ((Lv n x++Lv n y).map prO) (t:Int) rec (((t+(A - t):Nat):Int),ByteArray.empty,ByteArray.empty,0)=_
   rw [hta,stp A rec 0 1 (Nat.le_refl _) (bX _ f0).2 (bY _ f1).2]
   have hi:=idxP hN (X:=Lv n x) (Y:=Lv n y) (A:=A) (by omega) hl (fun z hz=>(bX z hz).2) (fun z hz=>(bY z hz).2) py
   have m1:=mapOfC hN n f x _ (A+1) (by omega) hx (by rw [List.length_append,List.length_singleton];omega) (by omega)
   have m2:=mapOfC hN n f y _ (A+1) (by omega) hy (by rw [List.length_append,List.length_singleton];omega) (by omega)
   have t1:((Lv n x++Lv n y).map prO).take (Lv n x).length=(Lv n x).map prO:=by rw [← List.map_take,List.take_left]
   have t2:((Lv n x++Lv n y).map prO).drop (Lv n x).length=(Lv n y).map prO:=by rw [← List.map_drop,List.drop_left]
   rw [show (((0:Nat):Int)==((1:Nat):Int))=false from rfl,cond_false,hi,ob_some]
   simp only [nn_dec,decide_eq_true (show ((Lv n x).length:Int)≤(((Lv n x).length+(Lv n y).length:Nat):Int) by omega),cond_true,Int.toNat_natCast,t1,t2,m1,m2,ob_some,brEta]
   congr 1
   obtain ⟨k,v,a,r⟩:=b
   have h1:r=[x,y]:=h1
   have h2:k=ByteArray.empty:=h2
   have h3:v=ByteArray.empty:=h3
   have h4:a=(A:Int):=h4
   rw [h1,h2,h3,h4]
theorem Mq.of_pairs {N:Nat} (hN:Big N) (h:Mq b L) (hl:L.length≤1000):impl_mapOf.m N (L.map prO) 0=some b:=by
 rcases h with ⟨rfl,rfl⟩ | ⟨h,rfl⟩
 ·obtain ⟨M,rfl⟩:∃M,N=M+1:=⟨N - 1,by omega⟩
  rfl
 ·exact mapOfC hN 257 N b [] 0 (by omega) h (Nat.zero_le _) hl
theorem PutR.len {x:Branch} (p:PutR L x L'):L'.length=L.length∨L'.length=L.length+1:=by
 obtain ⟨A,M,B,p,rfl⟩:=p
 have:=p.len
 rcases p.mid with rfl | ⟨z,rfl,_⟩
 ·right;simp only [List.length_append,List.length_cons,List.length_nil] at *;omega
 ·left;simp only [List.length_append,List.length_cons,List.length_nil] at *;omega
theorem keyOK {k:ByteArray} (hk:1≤k.size∧k.size≤24) (N:Nat):impl_isKey.m N k=some true∧spec_l02Key.m N k=some true:=by
 have h1:=isKeyI N ⟨k,k,0,[]⟩
 have h2:=l02Key N ⟨k,k,0,[]⟩
 have h3:keyB ⟨k,k,0,[]⟩=true:=(keyB_iff _).2 hk
 rw [h3] at h1 h2
 exact ⟨h1,h2⟩
theorem Srt.drop {A M B:List Branch} {h:ByteArray} (hs:Srt L) (p:Part L h A M B):Srt (A++B):=by
 have hs:(A++(M++B)).Pairwise fun x y=>hlt (hb x.Key) (hb y.Key):=by rw [← p.eq];exact hs
 obtain ⟨s1,s2,s3⟩:=List.pairwise_append.1 hs
 obtain ⟨_,s4,_⟩:=List.pairwise_append.1 s2
 exact List.pairwise_append.2 ⟨s1,s4,fun a ha c hc=>s3 a ha c (List.mem_append_right _ hc)⟩
theorem Part.mem {A M B:List Branch} {h:ByteArray} (p:Part L h A M B):∀z∈A++B,z∈L:=by
 intro z hz
 rw [p.eq]
 rcases List.mem_append.1 hz with hz | hz
 ·exact List.mem_append_left _ hz
 ·exact List.mem_append_right _ (List.mem_append_right _ hz)
end Mir.Y
