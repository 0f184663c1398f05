/- A key is looked up in a branch and taken away, by the leaves. -/
import Derived.Test.YtmjmhkpkmejbnaaGreatQSY2
namespace Mir.Y
set_option linter.unusedVariables false
set_option linter.unusedSimpArgs false
open Go
set_option linter.unusedSectionVars false
variable [UU]
theorem near_self {z:Branch}:∀ {n:Nat} {b:Branch} {P:List Int},C n b P→z∈Lv n b→near n (hb z.Key) b=z
 | 0,_,_,h,_=>h.elim
 | n+1,b,P,.inl ⟨h1,_⟩,hz=>by
  rw [Lv_leaf h1,List.mem_singleton] at hz
  rw [near_leaf h1,hz]
 | n+1,b,P,.inr ⟨x,y,Q,A,h1,_,_,h4,h5,_,h7,_,hx,hy⟩,hz=>by
  have hA:b.At.toNat=A:=by rw [h4];rfl
  rw [near_fork h1,hA]
  rw [Lv_fork h1,List.mem_append] at hz
  rcases hz with hz | hz
  ·have h:=(C_bits (c:=0) hx z hz).2
   rw [h5] at h
   rw [if_pos h]
   exact near_self hx hz
  ·have h:=(C_bits (c:=1) hy z hz).2
   rw [h5] at h
   rw [if_neg (by omega)]
   exact near_self hy hz
theorem getL {N:Nat} (hN:Big N) (b0:Branch) (k h:ByteArray) (hh:h.size=32) (v6 v7:ByteArray) (v8:Int):∀(n K:Nat) (b:Branch) (P:List Int),n<K→C n b P→miter (fun rec=>spec_l07Get.step4 N b0 k rec) K (h,b.Key,b.Value,b.At,b.Kids,v6,v7,v8)=some (near n h b,seq (near n h b).Key k)
 | 0,_,_,_,_,h=>h.elim
 | n+1,0,_,_,h,_=>by omega
 | n+1,K+1,b,P,hK,.inl ⟨h1,h2,_⟩=>by
  rw [miter_s]
  simp only [spec_l07Get.step4,brEta,leafS,ob_some,(lfB_iff b).2 h1,Bool.not_true,cond_false]
  rw [near_leaf h1]
 | n+1,K+1,b,P,hK,.inr ⟨x,y,Q,A,h1,_,_,h4,h5,_,h7,_,hx,hy⟩=>by
  rw [miter_s]
  have hA:b.At.toNat=A:=by rw [h4];rfl
  have kl:(b.Kids.length:Int)=2:=by rw [h1];rfl
  have g0:b.Kids.getD 0 Branch.dz=x:=by rw [h1];rfl
  have g1:b.Kids.getD 1 Branch.dz=y:=by rw [h1];rfl
  have hlt:=bt_lt h A
  have hbt:spec_l07Bit.m N h b.At=some (bt h A:Int):=by rw [h4];exact specBit N hh (by omega)
  simp only [spec_l07Get.step4,brEta,leafS,ob_some,lfB_fork h1,Bool.not_false,cond_true,hbt,kl,Int.toNat_natCast]
  rw [near_fork h1,hA]
  by_cases hz:bt h A=0
  ·rw [hz,if_pos rfl,g0]
   exact getL hN b0 k h hh v6 v7 v8 n K x _ (by omega) hx
  ·have h1':bt h A=1:=by omega
   rw [h1',if_neg (by omega),g1]
   exact getL hN b0 k h hh v6 v7 v8 n K y _ (by omega) hy
theorem getS {N:Nat} (hN:Big N) {b:Branch} {L A M B:List Branch} (h:Mq b L) (hK:inKS L) {k:ByteArray} (hk:k∈KS) (p:Part L (hb k) A M B):∃x:Branch,spec_l07Get.m N b k=some (x,!M.isEmpty)∧∀z,M=[z]→x=z∧z.Key=k:=by
 unfold spec_l07Get.m spec_l07Get.m0
 simp only [brEta,l07Empty,ob_some]
 have hkz:=ks_size k hk
 rcases h.em with ⟨e,rfl⟩ | ⟨e,h2,h3⟩
 ·have hM:M=[]:=by
   have:=p.len
   exact List.eq_nil_of_length_eq_zero (by simp at this;omega)
  rw [e,cond_true,hM]
  exact ⟨b,rfl,fun z hz=>by cases hz⟩
 ·rw [e,cond_false,l07Hash hN _ (by omega),ob_some]
  have g:=getL hN b k (hb k) (hb_size k) ByteArray.empty ByteArray.empty 0 257 N b [] (by omega) h2
  have g:spec_l07Get.lp4 N b k (hb k,b.Key,b.Value,b.At,b.Kids,ByteArray.empty,ByteArray.empty,0)=some (near 257 (hb k) b,seq (near 257 (hb k) b).Key k):=g
  rw [g]
  have hm:near 257 (hb k) b∈L:=by rw [← h3];exact near_mem h2
  rcases p.mid with rfl | ⟨z,rfl,hz⟩
  ·refine ⟨near 257 (hb k) b,?_,fun z hz=>by cases hz⟩
   have:seq (near 257 (hb k) b).Key k=false:=by
    rw [Bool.eq_false_iff]
    intro hs
    have hs:=seq_iff.1 hs
    rw [p.eq] at hm
    rcases List.mem_append.1 hm with hm | hm
    ·have:=p.lo _ hm;rw [hs] at this;exact hlt_irrefl _ this
    ·have:=p.hi _ (by simpa using hm);rw [hs] at this;exact hlt_irrefl _ this
   rw [this];rfl
  ·have hzL:z∈L:=by rw [p.eq];simp
   have hzk:z.Key=k:=noCol (hK z hzL) hk hz
   have hn:near 257 (hb k) b=z:=by rw [← hz];exact near_self h2 (by rw [h3];exact hzL)
   refine ⟨z,?_,fun w hw=>?_⟩
   ·rw [hn,hzk,seq_self];rfl
   ·cases hw;exact ⟨rfl,hzk⟩
theorem srt_split {z:Branch}:∀ {A B X Y:List Branch},Srt (A++z::B)→A++z::B=X++z::Y→A=X∧B=Y
 | [],B,[],Y,_,e=>by simpa using e
 | [],B,x::X,Y,hs,e=>by
  simp only [List.nil_append,List.cons_append,List.cons.injEq] at e
  obtain ⟨rfl,e⟩:=e
  have:=(List.pairwise_cons.1 hs).1 z (by rw [e];simp)
  exact absurd this (hlt_irrefl _)
 | a::A,B,[],Y,hs,e=>by
  simp only [List.nil_append,List.cons_append,List.cons.injEq] at e
  obtain ⟨rfl,e⟩:=e
  have:=(List.pairwise_cons.1 hs).1 a (by simp)
  exact absurd this (hlt_irrefl _)
 | a::A,B,x::X,Y,hs,e=>by
  simp only [List.cons_append,List.cons.injEq] at e
  obtain ⟨rfl,e⟩:=e
  obtain ⟨h1,h2⟩:=srt_split (List.pairwise_cons.1 hs).2 e
  exact ⟨by rw [h1],h2⟩
theorem dropC {N:Nat} (hN:Big N) (z:Branch):∀(n f:Nat) (b:Branch) (P:List Int),n≤f→C n b P→z∈Lv n b→b.Kids≠[]→
  ∃b' X Y,spec_l07Drop.mF N f b (hb z.Key) z.Key=some b'∧C n b' P∧Lv n b=X++z::Y∧Lv n b'=X++Y
 | 0,_,_,_,_,h,_,_=>h.elim
 | n+1,0,_,_,h,_,_,_=>by omega
 | n+1,f+1,b,P,hf,hC,hz,hk=>by
  show ∃b' X Y,spec_l07Drop.mb N (spec_l07Drop.mF N f) b (hb z.Key) z.Key=some b'∧_
  rcases hC with ⟨h1,_⟩ | ⟨x,y,Q,A,h1,h2,h3,h4,h5,h6,h7,h8,hx,hy⟩
  ·exact absurd h1 hk
  have kl:(b.Kids.length:Int)=2:=by rw [h1];rfl
  have kn:b.Kids.length=2:=by rw [h1];rfl
  have g0:b.Kids.getD 0 Branch.dz=x:=by rw [h1];rfl
  have g1:b.Kids.getD 1 Branch.dz=y:=by rw [h1];rfl
  have hbt:spec_l07Bit.m N (hb z.Key) b.At=some (bt (hb z.Key) A:Int):=by rw [h4];exact specBit N (hb_size _) (by omega)
  unfold spec_l07Drop.mb
  simp only [brEta,leafS,ob_some,lfB_fork h1,cond_false,hbt,kl,kn,Int.toNat_natCast,List.nil_append,List.length_nil,Nat.zero_add]
  rw [show room 2 64=true from rfl]
  have hxP:C n x P:=by
   have:=C_less hx (k:=P.length) (by rw [List.length_append];omega)
   rwa [List.take_append_of_le_length (by omega),← h8] at this
  have hyP:C n y P:=by
   have:=C_less hy (k:=P.length) (by rw [List.length_append];omega)
   rwa [List.take_append_of_le_length (by omega),← h8] at this
  have leaf:∀ {w:Branch} {R:List Int},C n w R→w.Kids=[]→z∈Lv n w→w=z∧Lv n w=[z]:=by
   intro w R hw hwk hzw
   cases n with
   | zero=>exact hw.elim
   | succ n=>
    rw [Lv_leaf hwk,List.mem_singleton] at hzw
    exact ⟨hzw.symm,by rw [Lv_leaf hwk,hzw]⟩
  rw [Lv_fork h1,List.mem_append] at hz
  rcases hz with hz | hz
  ·have hb0:bt (hb z.Key) A=0:=by have:=(C_bits (c:=0) hx z hz).2;rwa [h5] at this
   rw [hb0]
   simp only [g0]
   rw [show decide ((0:Int)≤((0:Nat):Int))=true from rfl,show decide (((0:Nat):Int)<((2:Nat):Int))=true from rfl]
   simp only [cond_true]
   by_cases hl:x.Kids=[]
   ·obtain ⟨hxz,hLx⟩:=leaf hx hl hz
    rw [(lfB_iff x).2 hl,hxz,seq_self]
    refine ⟨y,[],Lv n y,?_,(C_up (Nat.le_succ n) hyP).1,?_,?_⟩
    ·rw [show w64 ((1:Int) - ((0:Nat):Int))=1 from rfl]
     simp only [cond_true,show Int.toNat 1=1 from rfl,g1,brEta];rfl
    ·rw [Lv_fork h1,hLx];rfl
    ·exact (C_up (Nat.le_succ n) hyP).2
   ·have hlx:lfB x=false:=by rw [Bool.eq_false_iff];exact fun h=>hl ((lfB_iff x).1 h)
    obtain ⟨x',X,Y,r1,r2,r3,r4⟩:=dropC hN z n f x _ (by omega) hx hz hl
    rw [hlx,r1]
    simp only [cond_false,ob_some,h1]
    refine ⟨_,X,Y++Lv n y,rfl,.inr ⟨x',y,Q,A,rfl,rfl,rfl,h4,h5,h6,h7,h8,r2,hy⟩,?_,?_⟩
    ·rw [Lv_fork h1,r3];simp
    ·rw [Lv_fork (x:=x') (y:=y) rfl,r4];simp
  ·have hb1:bt (hb z.Key) A=1:=by have:=(C_bits (c:=1) hy z hz).2;rwa [h5] at this
   rw [hb1]
   simp only [g1]
   rw [show decide ((0:Int)≤((1:Nat):Int))=true from rfl,show decide (((1:Nat):Int)<((2:Nat):Int))=true from rfl]
   simp only [cond_true]
   by_cases hl:y.Kids=[]
   ·obtain ⟨hyz,hLy⟩:=leaf hy hl hz
    rw [(lfB_iff y).2 hl,hyz,seq_self]
    refine ⟨x,Lv n x,[],?_,(C_up (Nat.le_succ n) hxP).1,?_,?_⟩
    ·rw [show w64 ((1:Int) - ((1:Nat):Int))=0 from rfl]
     simp only [cond_true,show Int.toNat 0=0 from rfl,g0,brEta];rfl
    ·rw [Lv_fork h1,hLy]
    ·rw [(C_up (Nat.le_succ n) hxP).2,List.append_nil]
   ·have hly:lfB y=false:=by rw [Bool.eq_false_iff];exact fun h=>hl ((lfB_iff y).1 h)
    obtain ⟨y',X,Y,r1,r2,r3,r4⟩:=dropC hN z n f y _ (by omega) hy hz hl
    rw [hly,r1]
    simp only [cond_false,ob_some,h1]
    refine ⟨_,Lv n x++X,Y,rfl,.inr ⟨x,y',Q,A,rfl,rfl,rfl,h4,h5,h6,h7,h8,hx,r2⟩,?_,?_⟩
    ·rw [Lv_fork h1,r3];simp
    ·rw [Lv_fork (x:=x) (y:=y') rfl,r4];simp
theorem dropS {N:Nat} (hN:Big N) {b z:Branch} {L A B:List Branch} (h:Mq b L) (p:Part L (hb z.Key) A [z] B):∃b',spec_l07Drop.m N b (hb z.Key) z.Key=some b'∧Mq b' (A++B):=by
 have hzL:z∈L:=by rw [p.eq];simp
 have hpe:L=A++z::B:=by rw [p.eq];simp
 have hs:=h.srt
 rcases h.em with ⟨e,rfl⟩ | ⟨e,h2,h3⟩
 ·cases hzL
 ·by_cases hk:b.Kids=[]
  ·have hL:L=[b]:=by rw [← h3,Lv_leaf hk]
   rw [hL,List.mem_singleton] at hzL
   have hAB:A=[]∧B=[]:=by
    have:A.length+(B.length+1)=1:=by have:=congrArg List.length hpe;rw [hL] at this;simpa using this.symm
    exact ⟨List.eq_nil_of_length_eq_zero (by omega),List.eq_nil_of_length_eq_zero (by omega)⟩
   refine ⟨eB,?_,.inl ⟨rfl,by rw [hAB.1,hAB.2];rfl⟩⟩
   obtain ⟨M,rfl⟩:∃M,N=M+1:=⟨N - 1,by omega⟩
   show spec_l07Drop.mb (M+1) (spec_l07Drop.mF (M+1) M) b (hb z.Key) z.Key=some eB
   unfold spec_l07Drop.mb
   simp only [brEta,leafS,ob_some,(lfB_iff b).2 hk,cond_true]
   rfl
  ·obtain ⟨b',X,Y,r1,r2,r3,r4⟩:=dropC hN z 257 N b [] (by omega) h2 (by rw [h3];exact hzL) hk
   refine ⟨b',r1,.inr ⟨r2,?_⟩⟩
   rw [h3] at r3
   have hs2:Srt (A++z::B):=by rw [← hpe];exact hs
   obtain ⟨rfl,rfl⟩:=srt_split hs2 (hpe.symm.trans r3)
   exact r4
end Mir.Y
