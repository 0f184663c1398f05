/- A command that changes the map: the program and the reference do the same. -/
import Derived.Test.YtmjmhkpkmejbnaaGreatQSY3
namespace Mir.Y
set_option linter.unusedVariables false
set_option linter.unusedSimpArgs false
open Go
set_option linter.unusedSectionVars false
variable [UU]
theorem part_uniq {L A M B A' M' B':List Branch} {h:ByteArray} (hh:h.size=32) (hl:L.length≤1000) (p:Part L h A M B) (p':Part L h A' M' B'):A=A'∧M=M'∧B=B':=by
 have e:=(searchP (N:=16777216) (Nat.le_refl _) hh p hl).symm.trans (searchP (N:=16777216) (Nat.le_refl _) hh p' hl)
 simp only [Option.some.injEq,Prod.mk.injEq] at e
 obtain ⟨e1,e2⟩:=e
 have e1:A.length=A'.length:=by omega
 have ee:A++(M++B)=A'++(M'++B'):=p.eq.symm.trans p'.eq
 obtain ⟨a1,a2⟩:=List.append_inj ee e1
 refine ⟨a1,?_⟩
 have hm:M.length=M'.length:=by
  rcases p.mid with rfl | ⟨z,rfl,_⟩<;>rcases p'.mid with rfl | ⟨z',rfl,_⟩<;>simp_all
 exact List.append_inj a2 hm
theorem putB {N:Nat} (hN:Big N) {b:Branch} {L A M B:List Branch} (h:Mq b L) (hl:L.length≤40) {k v:ByteArray} (hk:1≤k.size∧k.size≤24) (hv:v.size≤60) (p:Part L (hb k) A M B):∃b',spec_l07Put.m N b k v=some b'∧Mq b' (A++lf k v::B):=by
 obtain ⟨b',L',r1,r2,A',M',B',p',rfl⟩:=Mq.put hN h hk hv
 obtain ⟨rfl,rfl,rfl⟩:=part_uniq (hb_size _) (by omega) p p'
 exact ⟨b',r1,r2⟩
theorem delP {N:Nat} {L A B:List Branch} {z:Branch} {h:ByteArray} (p:Part L h A [z] B) (hl:L.length≤40):slices_Delete_impl_pairOf.m N (L.map prO) (A.length:Int) (w64 ((A.length:Int)+1))=some ((A++B).map prO):=by
 have hlen:=p.len
 simp only [List.length_cons,List.length_nil] at hlen
 unfold slices_Delete_impl_pairOf.m delM
 rw [w_up _ 1048576 (by omega) (by omega),nn_dec,decide_eq_true (show ((A.length:Nat):Int)<((A.length+1:Nat):Int) by omega),decide_eq_true (show ((A.length+1:Nat):Int)≤((L.map prO).length:Int) by rw [List.length_map];omega),Int.toNat_natCast,Int.toNat_natCast]
 simp only [Bool.and_true,cond_true]
 rw [← List.map_take,← List.map_drop,p.eq,List.take_left,← List.drop_drop,List.drop_left]
 simp
theorem atP {L A B:List Branch} {z:Branch} {h:ByteArray} (p:Part L h A [z] B):(L.map prO).getD A.length pairOf.dz=prO z∧decide (((A.length:Nat):Int)<((L.map prO).length:Int))=true:=by
 have hlen:=p.len
 simp only [List.length_cons,List.length_nil] at hlen
 have hA:A.length<L.length:=by omega
 refine ⟨?_,decide_eq_true (by rw [List.length_map];omega)⟩
 rw [prO_at hA]
 have e:L[A.length]=(A++([z]++B))[A.length]'(by rw [← p.eq];exact hA):=by congr 1;exact p.eq
 rw [e,List.getElem_append_right (Nat.le_refl _)]
 simp
theorem empty_app (x:ByteArray):ByteArray.empty++x=x:=by simp
theorem room16 {n:Nat} (h:n≤1000):room n 16=true:=by simp only [room,decide_eq_true_eq];omega
theorem sz_app (a b:ByteArray):(a++b).size=a.size+b.size:=by simp
@[reducible] def okR (lv:List ByteArray) (c:Command) (v:ByteArray):Reply:=⟨1,((lv++[cl c]).length:Int),v⟩
structure WrOut (lv:List ByteArray) (b:Branch) (L:List Branch) (c:Command) (r:Reply) (lv':List ByteArray) (L':List Branch) (b':Branch):Prop where
 mq:Mq b' L'
 len:L'.length≤40
 ks:inKS L'
 out:(lv'=lv∧(r.Kind=2∨r.Kind=6)∧r.Place=0∧L'=L∧b'=b)∨(lv'=lv++[cl c]∧lv.length<50∧r.Kind=1∧r.Place=((lv++[cl c]).length:Int))
 val:r.Value.size≤60
theorem WrOut.no {lv:List ByteArray} {b:Branch} {L:List Branch} {c:Command} (h:Mq b L) (hl:L.length≤40) (hK:inKS L) {k:Int} (hk:k=2∨k=6):WrOut lv b L c (rk k) lv L b:=⟨h,hl,hK,.inl ⟨rfl,hk,rfl,rfl,rfl⟩,by show ByteArray.empty.size≤60;decide⟩
theorem writeB {N:Nat} (hN:Big N) {b:Branch} {L A M B:List Branch} {lv:List ByteArray} {ss:List Session} {c:Command} (h:Mq b L) (hl:L.length≤40) (hK:inKS L) (hlv:lv.length≤50) (hc:CmdOK c) (h3:c.Kind<4) (p:Part L (hb c.Key) A M B) :
  ∃r lv' L' b',spec_l09Change.m N (Ledger.mk lv b ss) c=some (Ledger.mk lv' b' ss,r)∧impl_books_write.m N (books.mk lv (L.map prO) ss) c=some (r,books.mk lv' (L'.map prO) [])∧WrOut lv b L c r lv' L' b':=by
 obtain ⟨hcs,hkk,_⟩:(c.Kind=1∨c.Kind=2∨(c.Kind=3∧c.Value=ByteArray.empty))∧c.Key∈KS∧1≤c.Seq:=hc.cs.resolve_right (fun h=>by rcases h.1 with e | e<;>omega)
 have hks:=ks_size _ hkk
 have hvl:=hc.vl
 obtain ⟨x,g1,g2⟩:=getS hN h hK hkk p
 have pa:=pairAtP hN hks.2 p (show L.length≤1000 by omega)
 have hlen:=p.len
 have r1:room lv.length 16=true:=room16 (by omega)
 have r2:room (lv.length+1) 16=true:=room16 (by omega)
 have sz:spec_l07Size.m N b=some (L.length:Int):=h.size hN (by omega)
 have bs:=cbS (N:=N) hc
 have bi:=cbI hN hc
 have ls:=leafS1 hN hc
 have li:=leafI1 hN hc
 have put:∀v:ByteArray,v.size≤60→¬ (M=[]∧L.length=40)→∃b',spec_l07Put.m N b c.Key v=some b'∧WrOut lv b L c (okR lv c v) (lv++[cl c]) (A++lf c.Key v::B) b'∨lv.length=50:=by
  intro v hv hne
  by_cases h50:lv.length=50
  ·exact ⟨b,.inr h50⟩
  obtain ⟨b',e1,e2⟩:=putB hN h hl hks hv p
  have hi:inKS (A++lf c.Key v::B):=inKS.put (x:=lf c.Key v) hK ⟨A,M,B,p,rfl⟩ hkk
  refine ⟨b',.inl ⟨e1,e2,?_,hi,.inr ⟨rfl,by omega,rfl,rfl⟩,hv⟩⟩
  rcases p.mid with rfl | ⟨z,rfl,hz⟩
  ·have:L.length≠40:=fun e=>hne ⟨rfl,e⟩
   simp at hlen ⊢;omega
  ·simp at hlen ⊢;omega
 by_cases h50:lv.length=50
 ·-- no room
  have e50:(((lv.length:Nat):Int)==(50:Int))=true:=by rw [h50];rfl
  rcases p.mid with rfl | ⟨z,rfl,hz⟩
  ·rcases hcs with hk | hk | ⟨hk,hv⟩
   ·refine ⟨rk 6,lv,L,b,?_,?_,.no h hl hK (.inr rfl)⟩
    ·unfold spec_l09Change.m
     simp only [brEta,g1,ob_some,hk,List.isEmpty_nil,Bool.not_true,cond_false,cond_true,e50,show ((1:Int)==2)=false from rfl,show ((1:Int)==3)=false from rfl]
     rfl
    ·unfold impl_books_write.m
     simp only [pa,ob_some,hk,List.isEmpty_nil,Bool.not_true,cond_false,cond_true,e50,show ((1:Int)==2)=false from rfl,show ((1:Int)==3)=false from rfl]
     rfl
   ·refine ⟨rk 6,lv,L,b,?_,?_,.no h hl hK (.inr rfl)⟩
    ·unfold spec_l09Change.m
     simp only [brEta,g1,ob_some,hk,List.isEmpty_nil,Bool.not_true,cond_false,cond_true,e50,show ((2:Int)==2)=true from rfl,show ((2:Int)==3)=false from rfl]
     rfl
    ·unfold impl_books_write.m
     simp only [pa,ob_some,hk,List.isEmpty_nil,Bool.not_true,cond_false,cond_true,e50,show ((2:Int)==2)=true from rfl,show ((2:Int)==3)=false from rfl,empty_app]
     rw [show decide (ByteArray.empty.size+c.Value.size≤9223372036854775807)=true from decide_eq_true (by have:ByteArray.empty.size=0:=rfl;omega)]
     rfl
   ·refine ⟨rk 2,lv,L,b,?_,?_,.no h hl hK (.inl rfl)⟩
    ·unfold spec_l09Change.m
     simp only [brEta,g1,ob_some,hk,List.isEmpty_nil,Bool.not_true,cond_false,cond_true,e50,show ((3:Int)==2)=false from rfl,show ((3:Int)==3)=true from rfl]
     rfl
    ·unfold impl_books_write.m
     simp only [pa,ob_some,hk,List.isEmpty_nil,Bool.not_true,cond_false,cond_true,e50,show ((3:Int)==2)=false from rfl,show ((3:Int)==3)=true from rfl]
     rfl
  ·obtain ⟨q1,q2⟩:=atP p
   obtain ⟨rfl,hzk⟩:=g2 z rfl
   have hxv:x.Value.size≤60:=(h.good x (by rw [p.eq];simp)).2.2.1
   have cap:decide (x.Value.size+c.Value.size≤9223372036854775807)=true:=decide_eq_true (by omega)
   have q3:(prO x).value=x.Value:=rfl
   refine ⟨rk 6,lv,L,b,?_,?_,.no h hl hK (.inr rfl)⟩
   ·unfold spec_l09Change.m
    rcases hcs with hk | hk | ⟨hk,hv⟩
    ·simp only [brEta,g1,ob_some,hk,List.isEmpty_cons,Bool.not_false,Bool.not_true,cond_false,cond_true,e50,show ((1:Int)==2)=false from rfl,show ((1:Int)==3)=false from rfl]
     rfl
    ·simp only [brEta,g1,ob_some,hk,List.isEmpty_cons,Bool.not_false,Bool.not_true,cond_false,cond_true,e50,show ((2:Int)==2)=true from rfl,show ((2:Int)==3)=false from rfl,cap]
     rfl
    ·simp only [brEta,g1,ob_some,hk,List.isEmpty_cons,Bool.not_false,Bool.not_true,cond_false,cond_true,e50,show ((3:Int)==2)=false from rfl,show ((3:Int)==3)=true from rfl]
     rfl
   ·unfold impl_books_write.m
    rcases hcs with hk | hk | ⟨hk,hv⟩
    ·simp only [pa,ob_some,hk,List.isEmpty_cons,Bool.not_false,Bool.not_true,cond_false,cond_true,e50,show ((1:Int)==2)=false from rfl,show ((1:Int)==3)=false from rfl,nn_dec,q2,Int.toNat_natCast,q1,q3,cap]
     rfl
    ·simp only [pa,ob_some,hk,List.isEmpty_cons,Bool.not_false,Bool.not_true,cond_false,cond_true,e50,show ((2:Int)==2)=true from rfl,show ((2:Int)==3)=false from rfl,nn_dec,q2,Int.toNat_natCast,q1,q3,cap]
     rfl
    ·simp only [pa,ob_some,hk,List.isEmpty_cons,Bool.not_false,Bool.not_true,cond_false,cond_true,e50,show ((3:Int)==2)=false from rfl,show ((3:Int)==3)=true from rfl,nn_dec,q2,Int.toNat_natCast,q1,q3,cap]
     rfl
 ·have e50:(((lv.length:Nat):Int)==(50:Int))=false:=by rw [beq_eq_false_iff_ne];omega
  rcases p.mid with rfl | ⟨z,rfl,hz⟩
  ·-- a new key
   have mp:∀v,impl_mapPut.m N (L.map prO) c.Key v=some (if L.length=40 then ([],7) else ((A++lf c.Key v::B).map prO,0)):=fun v=>by
    have:=mapPutP (v:=v) hN hks.2 p hl
    simpa using this
   have hd:decide ((c.Value.size:Int) > 60)=false:=decide_eq_false (by omega)
   have hd2:decide ((c.Value.size:Int)≤60)=true:=decide_eq_true (by omega)
   have capE:decide (ByteArray.empty.size+c.Value.size≤9223372036854775807)=true:=decide_eq_true (by have:ByteArray.empty.size=0:=rfl;omega)
   by_cases h40:L.length=40
   ·have e40:(((L.length:Nat):Int)==(40:Int))=true:=by rw [h40];rfl
    rcases hcs with hk | hk | ⟨hk,hv⟩
    ·refine ⟨rk 6,lv,L,b,?_,?_,.no h hl hK (.inr rfl)⟩
     ·unfold spec_l09Change.m
      simp only [brEta,g1,ob_some,hk,List.isEmpty_nil,Bool.not_true,Bool.not_false,cond_false,cond_true,e50,hd,sz,e40,show ((1:Int)==2)=false from rfl,show ((1:Int)==3)=false from rfl,show ((1:Int) != 3)=true from rfl]
      rfl
     ·unfold impl_books_write.m
      simp only [pa,ob_some,hk,List.isEmpty_nil,Bool.not_true,cond_false,cond_true,e50,valI,hd2,mp,if_pos h40,show ((1:Int)==2)=false from rfl,show ((1:Int)==3)=false from rfl,show ((7:Int) != 0)=true from rfl]
      rfl
    ·refine ⟨rk 6,lv,L,b,?_,?_,.no h hl hK (.inr rfl)⟩
     ·unfold spec_l09Change.m
      simp only [brEta,g1,ob_some,hk,List.isEmpty_nil,Bool.not_true,Bool.not_false,cond_false,cond_true,e50,hd,sz,e40,show ((2:Int)==2)=true from rfl,show ((2:Int)==3)=false from rfl,show ((2:Int) != 3)=true from rfl]
      rfl
     ·unfold impl_books_write.m
      simp only [pa,ob_some,hk,List.isEmpty_nil,Bool.not_true,cond_false,cond_true,e50,valI,empty_app,capE,hd2,mp,if_pos h40,show ((2:Int)==2)=true from rfl,show ((2:Int)==3)=false from rfl,show ((7:Int) != 0)=true from rfl]
      rfl
    ·refine ⟨rk 2,lv,L,b,?_,?_,.no h hl hK (.inl rfl)⟩
     ·unfold spec_l09Change.m
      simp only [brEta,g1,ob_some,hk,List.isEmpty_nil,Bool.not_true,Bool.not_false,cond_false,cond_true,show ((3:Int)==2)=false from rfl,show ((3:Int)==3)=true from rfl]
      rfl
     ·unfold impl_books_write.m
      simp only [pa,ob_some,hk,List.isEmpty_nil,Bool.not_true,Bool.not_false,cond_false,cond_true,show ((3:Int)==2)=false from rfl,show ((3:Int)==3)=true from rfl]
      rfl
   ·have e40:(((L.length:Nat):Int)==(40:Int))=false:=by rw [beq_eq_false_iff_ne];omega
    obtain ⟨b',pe⟩:=put c.Value hvl (fun e=>h40 e.2)
    obtain ⟨pe,po⟩:=pe.resolve_right h50
    rcases hcs with hk | hk | ⟨hk,hv⟩
    ·refine ⟨_,_,_,_,?_,?_,po⟩
     ·unfold spec_l09Change.m
      simp only [brEta,g1,ob_some,hk,List.isEmpty_nil,Bool.not_true,Bool.not_false,cond_false,cond_true,e50,hd,sz,e40,pe,bs,ls,List.nil_append,List.length_nil,Nat.zero_add,List.length_singleton,r1,r2,show ((1:Int)==2)=false from rfl,show ((1:Int)==3)=false from rfl,show ((1:Int) != 3)=true from rfl]
     ·unfold impl_books_write.m
      simp only [pa,ob_some,hk,List.isEmpty_nil,Bool.not_true,Bool.not_false,cond_false,cond_true,e50,valI,hd2,mp,if_neg h40,bi,li,List.length_singleton,r2,show ((1:Int)==2)=false from rfl,show ((1:Int)==3)=false from rfl,show ((0:Int) != 0)=false from rfl]
    ·refine ⟨_,_,_,_,?_,?_,po⟩
     ·unfold spec_l09Change.m
      simp only [brEta,g1,ob_some,hk,List.isEmpty_nil,Bool.not_true,Bool.not_false,cond_false,cond_true,e50,hd,sz,e40,pe,bs,ls,List.nil_append,List.length_nil,Nat.zero_add,List.length_singleton,r1,r2,show ((2:Int)==2)=true from rfl,show ((2:Int)==3)=false from rfl,show ((2:Int) != 3)=true from rfl]
     ·unfold impl_books_write.m
      simp only [pa,ob_some,hk,List.isEmpty_nil,Bool.not_true,Bool.not_false,cond_false,cond_true,e50,valI,empty_app,capE,hd2,mp,if_neg h40,bi,li,List.length_singleton,r2,show ((2:Int)==2)=true from rfl,show ((2:Int)==3)=false from rfl,show ((0:Int) != 0)=false from rfl]
    ·refine ⟨rk 2,lv,L,b,?_,?_,.no h hl hK (.inl rfl)⟩
     ·unfold spec_l09Change.m
      simp only [brEta,g1,ob_some,hk,List.isEmpty_nil,Bool.not_true,Bool.not_false,cond_false,cond_true,show ((3:Int)==2)=false from rfl,show ((3:Int)==3)=true from rfl]
      rfl
     ·unfold impl_books_write.m
      simp only [pa,ob_some,hk,List.isEmpty_nil,Bool.not_true,Bool.not_false,cond_false,cond_true,show ((3:Int)==2)=false from rfl,show ((3:Int)==3)=true from rfl]
      rfl
  ·-- a key that is there
   obtain ⟨q1,q2⟩:=atP p
   obtain ⟨rfl,hzk⟩:=g2 z rfl
   have hxL:x∈L:=by rw [p.eq];simp
   have hxv:x.Value.size≤60:=(h.good x hxL).2.2.1
   have cap:decide (x.Value.size+c.Value.size≤9223372036854775807)=true:=decide_eq_true (by omega)
   have q3:(prO x).value=x.Value:=rfl
   have mp:∀v,impl_mapPut.m N (L.map prO) c.Key v=some ((A++lf c.Key v::B).map prO,0):=fun v=>by
    have:=mapPutP (v:=v) hN hks.2 p hl
    rw [this,if_neg (by simp)]
   have hd:decide ((c.Value.size:Int) > 60)=false:=decide_eq_false (by omega)
   have hd2:decide ((c.Value.size:Int)≤60)=true:=decide_eq_true (by omega)
   rcases hcs with hk | hk | ⟨hk,hv⟩
   ·obtain ⟨b',pe⟩:=put c.Value hvl (fun e=>by cases e.1)
    obtain ⟨pe,po⟩:=pe.resolve_right h50
    refine ⟨_,_,_,_,?_,?_,po⟩
    ·unfold spec_l09Change.m
     simp only [brEta,g1,ob_some,hk,List.isEmpty_cons,Bool.not_true,Bool.not_false,cond_false,cond_true,e50,hd,pe,bs,ls,List.nil_append,List.length_nil,Nat.zero_add,List.length_singleton,r1,r2,show ((1:Int)==2)=false from rfl,show ((1:Int)==3)=false from rfl,show ((1:Int) != 3)=true from rfl]
    ·unfold impl_books_write.m
     simp only [pa,ob_some,hk,List.isEmpty_cons,Bool.not_true,Bool.not_false,cond_false,cond_true,e50,valI,hd2,mp,bi,li,List.length_singleton,r2,nn_dec,q2,Int.toNat_natCast,q1,q3,show ((1:Int)==2)=false from rfl,show ((1:Int)==3)=false from rfl,show ((0:Int) != 0)=false from rfl]
   ·by_cases hbig:x.Value.size+c.Value.size≤60
    ·have hs:(x.Value++c.Value).size≤60:=by rw [sz_app];exact hbig
     have hv1:decide (((x.Value++c.Value).size:Int) > 60)=false:=decide_eq_false (by omega)
     have hv2:decide (((x.Value++c.Value).size:Int)≤60)=true:=decide_eq_true (by omega)
     obtain ⟨b',pe⟩:=put (x.Value++c.Value) hs (fun e=>by cases e.1)
     obtain ⟨pe,po⟩:=pe.resolve_right h50
     refine ⟨_,_,_,_,?_,?_,po⟩
     ·unfold spec_l09Change.m
      simp only [brEta,g1,ob_some,hk,List.isEmpty_cons,Bool.not_true,Bool.not_false,cond_false,cond_true,e50,cap,hv1,pe,bs,ls,List.nil_append,List.length_nil,Nat.zero_add,List.length_singleton,r1,r2,show ((2:Int)==2)=true from rfl,show ((2:Int)==3)=false from rfl,show ((2:Int) != 3)=true from rfl]
     ·unfold impl_books_write.m
      simp only [pa,ob_some,hk,List.isEmpty_cons,Bool.not_true,Bool.not_false,cond_false,cond_true,e50,valI,cap,hv2,mp,bi,li,List.length_singleton,r2,nn_dec,q2,Int.toNat_natCast,q1,q3,show ((2:Int)==2)=true from rfl,show ((2:Int)==3)=false from rfl,show ((0:Int) != 0)=false from rfl]
    ·have hs:¬ (x.Value++c.Value).size≤60:=by rw [sz_app];exact hbig
     have hv1:decide (((x.Value++c.Value).size:Int) > 60)=true:=decide_eq_true (by omega)
     have hv2:decide (((x.Value++c.Value).size:Int)≤60)=false:=decide_eq_false (by omega)
     refine ⟨rk 6,lv,L,b,?_,?_,.no h hl hK (.inr rfl)⟩
     ·unfold spec_l09Change.m
      simp only [brEta,g1,ob_some,hk,List.isEmpty_cons,Bool.not_true,Bool.not_false,cond_false,cond_true,e50,cap,hv1,show ((2:Int)==2)=true from rfl,show ((2:Int)==3)=false from rfl,show ((2:Int) != 3)=true from rfl]
      rfl
     ·unfold impl_books_write.m
      simp only [pa,ob_some,hk,List.isEmpty_cons,Bool.not_true,Bool.not_false,cond_false,cond_true,e50,valI,cap,hv2,nn_dec,q2,Int.toNat_natCast,q1,q3,show ((2:Int)==2)=true from rfl,show ((2:Int)==3)=false from rfl]
      rfl
   ·have hx2:decide ((x.Value.size:Int)≤60)=true:=decide_eq_true (by omega)
    have p':Part L (hb x.Key) A [x] B:=by rw [hzk];exact p
    obtain ⟨b',d1,d2⟩:=dropS hN h p'
    rw [hzk] at d1
    have hh:=l07Hash hN c.Key (by omega)
    have dp:=delP (N:=N) p hl
    refine ⟨okR lv c x.Value,lv++[cl c],A++B,b',?_,?_,⟨d2,?_,?_,.inr ⟨rfl,by omega,rfl,rfl⟩,hxv⟩⟩
    ·unfold spec_l09Change.m
     simp only [brEta,g1,ob_some,hk,List.isEmpty_cons,Bool.not_true,Bool.not_false,cond_false,cond_true,e50,hd,hh,d1,bs,ls,List.nil_append,List.length_nil,Nat.zero_add,List.length_singleton,r1,r2,show ((3:Int)==2)=false from rfl,show ((3:Int)==3)=true from rfl,show ((3:Int) != 3)=false from rfl]
    ·unfold impl_books_write.m
     simp only [pa,ob_some,hk,List.isEmpty_cons,Bool.not_true,Bool.not_false,cond_false,cond_true,e50,valI,hx2,dp,bi,li,List.length_singleton,r2,nn_dec,q2,Int.toNat_natCast,q1,q3,show ((3:Int)==2)=false from rfl,show ((3:Int)==3)=true from rfl,show ((3:Int) != 3)=false from rfl]
    ·simp at hlen ⊢;omega
    ·intro w hw
     exact hK w (p.mem w hw)
end Mir.Y
