/- A drawn command is applied: the program and the reference do the same. -/
import Derived.Test.YtmjmhkpkmejbnaaGreatQSY4
namespace Mir.Y
set_option linter.unusedVariables false
set_option linter.unusedSimpArgs false
open Go
set_option linter.unusedSectionVars false
variable [UU]
structure St where
 lv:List ByteArray
 L:List Branch
 b:Branch
 ss:List Session
@[reducible] def St.led (s:St):Ledger:=Ledger.mk s.lv s.b s.ss
@[reducible] def St.bk (s:St):books:=books.mk s.lv (s.L.map prO) s.ss
structure SesOK (x:Session):Prop where
 id:0≤x.Id∧x.Id≤65535
 seq:0≤x.Seq∧x.Seq≤65535
 kind:(x.Last.Kind=0∧x.Seq=0)∨(x.Last.Kind=1∨x.Last.Kind=2∨x.Last.Kind=6)
 place:0≤x.Last.Place∧x.Last.Place≤50
 val:x.Last.Value.size≤60
structure InvS (s:St):Prop where
 mq:Mq s.b s.L
 ll:s.L.length≤40
 ks:inKS s.L
 lv:s.lv.length≤50
 lh:∀x∈s.lv,x.size=32
 srt:SSrt s.ss
 sl:s.ss.length≤8
 so:∀x∈s.ss,SesOK x
structure Stp (N:Nat) (s:St) (c:Command) (r:Reply) (s':St):Prop where
 spec:spec_l09Apply.m N s.led c=some (s'.led,r)
 impl:impl_books_apply.m N s.bk c=some (r,s'.bk)
 inv:InvS s'
 more:s'.lv=s.lv∨(s'.lv=s.lv++[cl c]∧r.Kind=1∧r.Place=((s.lv++[cl c]).length:Int))
 again:c.Kind<4→(r.Kind=1∨r.Kind=2∨r.Kind=6)→impl_books_apply.m N s'.bk c=some (r,s'.bk)
theorem srt_mid {A B:List Session} {z y:Session} (h:SSrt (A++([z]++B))) (hy:y.Id=z.Id):SSrt (A++([y]++B)):=by
 obtain ⟨s1,s2,s3⟩:=List.pairwise_append.1 h
 obtain ⟨s4,s5⟩:=List.pairwise_cons.1 s2
 refine List.pairwise_append.2 ⟨s1,List.pairwise_cons.2 ⟨fun b hb'=>by rw [hy];exact s4 b hb',s5⟩,fun a ha b hb'=>?_⟩
 rcases List.mem_cons.1 hb' with rfl | hb'
 ·rw [hy];exact s3 a ha z (by simp)
 ·exact s3 a ha b (List.mem_cons_of_mem _ hb')
theorem srt_new {A B:List Session} {id:Int} {y:Session} (h:SSrt (A++([]++B))) (ha:∀a∈A,a.Id<id) (hb':∀b∈B,id<b.Id) (hy:y.Id=id):SSrt (A++y::B):=by
 obtain ⟨s1,s2,s3⟩:=List.pairwise_append.1 h
 refine List.pairwise_append.2 ⟨s1,List.pairwise_cons.2 ⟨fun b hb2=>by rw [hy];exact hb' b hb2,s2⟩,fun a ha2 b hb2=>?_⟩
 rcases List.mem_cons.1 hb2 with rfl | hb2
 ·rw [hy];exact ha a ha2
 ·exact s3 a ha2 b hb2
theorem srt_del {A B:List Session} {z:Session} (h:SSrt (A++([z]++B))):SSrt (A++B):=by
 obtain ⟨s1,s2,s3⟩:=List.pairwise_append.1 h
 exact List.pairwise_append.2 ⟨s1,(List.pairwise_cons.1 s2).2,fun a ha b hb'=>s3 a ha b (List.mem_cons_of_mem _ hb')⟩
theorem set_mid {A B:List Session} {z y:Session}:(A++([z]++B)).set A.length y=A++([y]++B):=by
 rw [List.set_append_right _ _ (Nat.le_refl _),Nat.sub_self];rfl
theorem get_mid {A B:List Session} {z:Session}:(A++([z]++B)).getD A.length Session.dz=z:=by
 rw [List.getD_eq_getElem?_getD,List.getElem?_append_right (Nat.le_refl _),Nat.sub_self];rfl
theorem applyRep {N:Nat} (hN:Big N) {lv:List ByteArray} {pr:List pairOf} {A B:List Session} {z:Session} {c:Command} (hk:c.Kind<4) (p:SPart (A++([z]++B)) c.Session A [z] B) (hl:(A++([z]++B)).length≤8) (hq:c.Seq=z.Seq) (h0:z.Last.Kind≠0):impl_books_apply.m N (books.mk lv pr (A++([z]++B))) c=some (z.Last,books.mk lv pr (A++([z]++B))):=by
 unfold impl_books_apply.m
 have hlen:=p.len
 simp only [List.length_cons,List.length_nil] at hlen
 rw [show (c.Kind==(4:Int))=false by rw [beq_eq_false_iff_ne];omega,show (c.Kind==(5:Int))=false by rw [beq_eq_false_iff_ne];omega,cond_false,cond_false,sessI hN p (by omega),ob_some]
 simp only [List.isEmpty_cons,Bool.not_false,Bool.not_true,cond_false,Int.toNat_natCast,get_mid]
 rw [nn_dec,decide_eq_true (show ((A.length:Nat):Int)<((A++([z]++B)).length:Int) by omega),decide_eq_true hq,decide_eq_false h0]
 rfl
theorem stepB {N:Nat} (hN:Big N) (s:St) (c:Command) (hs:InvS s) (hc:CmdOK c):∃r s',Stp N s c r s':=by
 obtain ⟨lv,L,b,ss⟩:=s
 obtain ⟨i1,i2,i3,i4,i5,i6,i7,i8⟩:=hs
 simp only [] at i1 i2 i3 i4 i5 i6 i7 i8
 obtain ⟨A,M,B,p⟩:=spart_of (id:=c.Session) i6
 have hlen:=p.len
 by_cases h4:c.Kind=4
 ·refine ⟨(opnR ss A M B c.Session).1,⟨lv,L,b,(opnR ss A M B c.Session).2⟩,?_,?_,⟨i1,i2,i3,i4,i5,?_,?_,?_⟩,.inl rfl,fun h=>by omega⟩
  ·unfold spec_l09Apply.m
   simp only [brEta]
   rw [specOpen hN h4 p i7,ob_some,h4];rfl
  ·unfold impl_books_apply.m
   rw [h4,show ((4:Int)==4)=true from rfl,cond_true,openI hN p i7]
  ·unfold opnR
   split
   ·split
    ·exact i6
    ·rename_i hM _
     have hp:=p.eq
     rw [hM] at hp
     rw [hp] at i6
     exact srt_new i6 p.lo p.hi rfl
   ·exact i6
  ·unfold opnR
   split
   ·split
    ·exact i7
    ·rename_i hM h8
     rw [hM] at hlen
     simp at hlen ⊢;omega
   ·exact i7
  ·unfold opnR
   split
   ·split
    ·exact i8
    ·intro x hx
     rcases List.mem_append.1 hx with hx | hx
     ·exact i8 x (by rw [p.eq];exact List.mem_append_left _ hx)
     ·rcases List.mem_cons.1 hx with rfl | hx
      ·exact ⟨hc.se,⟨Int.le_refl _,by show (0:Int)≤65535;omega⟩,.inl ⟨rfl,rfl⟩,⟨Int.le_refl _,by show (0:Int)≤50;omega⟩,by show ByteArray.empty.size≤60;decide⟩
      ·exact i8 x (by rw [p.eq];exact List.mem_append_right _ (List.mem_append_right _ hx))
   ·exact i8
 by_cases h5:c.Kind=5
 ·refine ⟨(shtR ss A M B).1,⟨lv,L,b,(shtR ss A M B).2⟩,?_,?_,⟨i1,i2,i3,i4,i5,?_,?_,?_⟩,.inl rfl,fun h=>by omega⟩
  ·unfold spec_l09Apply.m
   simp only [brEta]
   rw [specShut hN h5 p i7,ob_some,h5];rfl
  ·unfold impl_books_apply.m
   rw [h5,show ((5:Int)==4)=false from rfl,show ((5:Int)==5)=true from rfl,cond_false,cond_true,shutI hN p i7]
  ·unfold shtR
   split
   ·exact i6
   ·rename_i hM
    obtain ⟨z,rfl,hz⟩:=p.mid.resolve_left hM
    have hp:=p.eq
    rw [hp] at i6
    exact srt_del i6
  ·unfold shtR
   split
   ·exact i7
   ·simp;omega
  ·unfold shtR
   split
   ·exact i8
   ·intro x hx
    refine i8 x ?_
    rw [p.eq]
    rcases List.mem_append.1 hx with hx | hx
    ·exact List.mem_append_left _ hx
    ·exact List.mem_append_right _ (List.mem_append_right _ hx)
 have hK:c.Kind<4:=by rcases hc.cs with ⟨h | h | h,_⟩ | ⟨h | h,_⟩<;>omega
 have hq1:1≤c.Seq:=by
  rcases hc.cs with ⟨_,_,h⟩ | ⟨h | h,_⟩
  ·exact h
  ·exact absurd h h4
  ·exact absurd h h5
 have e4:(c.Kind==(4:Int))=false:=by rw [beq_eq_false_iff_ne];exact h4
 have e5:(c.Kind==(5:Int))=false:=by rw [beq_eq_false_iff_ne];exact h5
 have g4:decide (c.Kind≥(4:Int))=false:=decide_eq_false (by omega)
 rcases p.mid with rfl | ⟨z,rfl,hz⟩
 ·refine ⟨rk 4,⟨lv,L,b,ss⟩,?_,?_,⟨i1,i2,i3,i4,i5,i6,i7,i8⟩,.inl rfl,fun _ h=>?_⟩
  ·unfold spec_l09Apply.m
   simp only [brEta]
   rw [g4,cond_false,sessS hN p (by omega),ob_some,if_pos rfl,show decide ((-1:Int)<0)=true from rfl];rfl
  ·unfold impl_books_apply.m
   rw [e4,e5,cond_false,cond_false,sessI hN p (by omega),ob_some];rfl
  ·have:(rk 4).Kind=4:=rfl
   omega
 simp only [List.length_cons,List.length_nil] at hlen
 obtain rfl:=p.eq
 have hzm:z∈A++([z]++B):=by simp
 have hzo:=i8 z hzm
 have lA:decide (((A.length:Nat):Int)<((A++([z]++B)).length:Int))=true:=decide_eq_true (by omega)
 have hsS:spec_l09Session.m N (A++([z]++B)) c.Session=some (A.length:Int):=by rw [sessS hN p (by omega),if_neg (by simp)]
 have gA:decide (((A.length:Nat):Int)<0)=false:=decide_eq_false (by omega)
 by_cases hq:c.Seq=z.Seq
 ·have hk0:z.Last.Kind≠0:=by rcases hzo.kind with ⟨_,h⟩ | h<;>omega
  have hkp:decide (z.Last.Kind > 0)=true:=decide_eq_true (by rcases hzo.kind with ⟨_,h⟩ | h<;>omega)
  have hap:=applyRep hN (lv:=lv) (pr:=L.map prO) hK p i7 hq hk0
  refine ⟨z.Last,⟨lv,L,b,A++([z]++B)⟩,?_,hap,⟨i1,i2,i3,i4,i5,i6,i7,i8⟩,.inl rfl,fun _ _=>hap⟩
  unfold spec_l09Apply.m
  simp only [brEta]
  rw [g4,cond_false,hsS,ob_some,gA,cond_false,nn_dec,lA,cond_true,cond_true]
  simp only [Int.toNat_natCast,get_mid]
  rw [show (c.Seq==z.Seq)=true by rw [beq_iff_eq];exact hq,hkp]
  rfl
 have eq1:(c.Seq==z.Seq)=false:=by rw [beq_eq_false_iff_ne];exact hq
 by_cases hle:c.Seq≤z.Seq
 ·refine ⟨rk 3,⟨lv,L,b,A++([z]++B)⟩,?_,?_,⟨i1,i2,i3,i4,i5,i6,i7,i8⟩,.inl rfl,fun _ h=>?_⟩
  ·unfold spec_l09Apply.m
   simp only [brEta]
   rw [g4,cond_false,hsS,ob_some,gA,cond_false,nn_dec,lA,cond_true,cond_true]
   simp only [Int.toNat_natCast,get_mid]
   rw [eq1,decide_eq_true hle]
   rfl
  ·unfold impl_books_apply.m
   rw [e4,e5,cond_false,cond_false,sessI hN p (by omega),ob_some]
   simp only [List.isEmpty_cons,Bool.not_false,Bool.not_true,cond_false,Int.toNat_natCast,get_mid]
   rw [nn_dec,lA,decide_eq_false hq,decide_eq_true hle]
   rfl
  ·have:(rk 3).Kind=3:=rfl
   omega
 obtain ⟨A1,M1,B1,p1⟩:=part_of (hb_size c.Key) i1.srt
 obtain ⟨r,lv',L',b',w1,w2,w3⟩:=writeB (ss:=A++([z]++B)) hN i1 i2 i3 i4 hc hK p1
 have hr:(r.Kind=1∨r.Kind=2∨r.Kind=6)∧0≤r.Place∧r.Place≤50∧lv'.length≤50∧(∀x∈lv',x.size=32)∧(lv'=lv∨(lv'=lv++[cl c]∧r.Kind=1∧r.Place=((lv++[cl c]).length:Int))):=by
  rcases w3.out with ⟨rfl,hk,hp,_⟩ | ⟨rfl,hl,hk,hp⟩
  ·exact ⟨.inr hk,by omega,by omega,i4,i5,.inl rfl⟩
  ·have hl2:(lv++[cl c]).length=lv.length+1:=by simp
   refine ⟨.inl hk,by omega,by omega,by omega,fun x hx=>?_,.inr ⟨rfl,hk,hp⟩⟩
   rcases List.mem_append.1 hx with hx | hx
   ·exact i5 x hx
   ·rw [List.mem_singleton] at hx;rw [hx];exact cl_size c
 obtain ⟨hr1,hr2,hr3,hr4,hr5,hr6⟩:=hr
 have hr0:r.Kind≠0:=by omega
 have hl':(A++([Session.mk z.Id c.Seq r]++B)).length=(A++([z]++B)).length:=by simp
 have p':SPart (A++([Session.mk z.Id c.Seq r]++B)) c.Session A [Session.mk z.Id c.Seq r] B:=⟨rfl,p.lo,p.hi,.inr ⟨_,rfl,hz⟩⟩
 refine ⟨r,⟨lv',L',b',A++([Session.mk z.Id c.Seq r]++B)⟩,?_,?_,⟨w3.mq,w3.len,w3.ks,hr4,hr5,srt_mid i6 rfl,by rw [hl'];exact i7,?_⟩,hr6,fun _ _=>applyRep hN hK p' (by rw [hl'];exact i7) rfl hr0⟩
 ·unfold spec_l09Apply.m
  simp only [brEta]
  rw [g4,cond_false,hsS,ob_some,gA,cond_false,nn_dec,lA,cond_true,cond_true]
  simp only [Int.toNat_natCast,get_mid,List.nil_append,List.length_nil,Nat.zero_add]
  rw [eq1,decide_eq_false hle,w1,roomSe (by omega)]
  simp only [cond_false,cond_true,ob_some,lA]
  rw [set_mid,get_mid,set_mid]
  have l2:decide (((A.length:Nat):Int)<((A++([Session.mk z.Id c.Seq (Reply.mk z.Last.Kind z.Last.Place z.Last.Value)]++B)).length:Int))=true:=decide_eq_true (by simp only [List.length_append,List.length_cons,List.length_nil];omega)
  rw [l2]
  rfl
 ·unfold impl_books_apply.m
  rw [e4,e5,cond_false,cond_false,sessI hN p (by omega),ob_some]
  simp only [List.isEmpty_cons,Bool.not_false,Bool.not_true,cond_false,Int.toNat_natCast,get_mid]
  rw [nn_dec,lA,decide_eq_false hq,decide_eq_false hle,w2]
  simp only [Bool.and_true,cond_true,cond_false,ob_some,set_mid]
 ·intro x hx
  rcases List.mem_append.1 hx with hx | hx
  ·exact i8 x (List.mem_append_left _ hx)
  ·rcases List.mem_cons.1 hx with rfl | hx
   ·exact ⟨hzo.id,hc.sq,.inr hr1,⟨hr2,hr3⟩,w3.val⟩
   ·exact i8 x (List.mem_append_right _ (List.mem_cons_of_mem _ hx))
theorem InvS.seB {s:St} (h:InvS s):seB s.ss=true:=by
 unfold Mir.Y.seB
 rw [allF_iff]
 intro j _ hj
 have hj:j<s.ss.length:=by omega
 have hx:=h.so s.ss[j] (List.getElem_mem _)
 have e1:(decide (0<j)&&decide ((sx s.ss (j - 1)).Id≥(sx s.ss j).Id))=false:=by
  by_cases h0:0<j
  ·have h1:j - 1<s.ss.length:=by omega
   have:=List.pairwise_iff_getElem.1 h.srt (j - 1) j h1 hj (by omega)
   rw [sx,sx,getD_at hj,getD_at h1,decide_eq_false (show ¬ (s.ss[j - 1].Id≥s.ss[j].Id) by omega),Bool.and_false]
  ·rw [decide_eq_false h0,Bool.false_and]
 have e2:rpB s.ss[j].Last=true:=by
  unfold rpB
  rw [inB_y (by rcases hx.kind with ⟨h,_⟩ | h<;>omega) (by rcases hx.kind with ⟨h,_⟩ | h<;>omega),inB_y hx.place.1 hx.place.2,decide_eq_true (show ((s.ss[j].Last.Value.size:Nat):Int)≤60 by have:=hx.val;omega)];rfl
 unfold seP
 rw [e1,sx,getD_at hj,inB_y hx.id.1 hx.id.2,inB_y hx.seq.1 hx.seq.2,e2];rfl
theorem shB_of {a:List ByteArray} (h:∀x∈a,x.size=32):shB a=true:=by
 unfold shB
 rw [allF_iff]
 intro j _ hj
 have hj:j<a.length:=by omega
 rw [getD_at hj,h _ (List.getElem_mem _)];rfl
theorem InvS.ok {s:St} (h:InvS s):LedOK 257 s.led:=⟨by have:=h.lv;show s.lv.length≤_;omega,fun x hx=>by rw [h.lh x hx];decide,h.mq.bok,by have:=h.sl;show s.ss.length≤_;omega,fun x hx=>Nat.le_trans (h.so x hx).val (by decide)⟩
theorem InvS.ledB {s:St} (h:InvS s):ledB 257 s.led=true:=by
 unfold Mir.Y.ledB
 rw [decide_eq_false (show ¬ ((s.lv.length:Int) > 50) by have:=h.lv;omega),shB_of h.lh,h.mq.mapB h.ll,decide_eq_false (show ¬ ((s.ss.length:Int) > 8) by have:=h.sl;omega),h.seB];rfl
theorem InvS.okI {N:Nat} (hN:Big N) {s:St} (h:InvS s):impl_LedgerOK.m N s.led=some true:=by rw [implLed hN (n:=257) (by omega) _ h.ok,h.ledB]
theorem InvS.booksOf {N:Nat} (hN:Big N) {s:St} (h:InvS s):impl_booksOf.m N s.led=some s.bk:=by
 unfold impl_booksOf.m
 simp only [brEta]
 rw [Mq.pairs hN h.mq h.ll,ob_some,cloneS N _ (by have:=h.lv;omega),ob_some,cloneSe N _ (by have:=h.sl;omega),ob_some]
theorem InvS.ledger {N:Nat} (hN:Big N) {s:St} (h:InvS s):impl_books_ledger.m N s.bk=some s.led:=by
 unfold impl_books_ledger.m
 rw [Mq.of_pairs hN h.mq (by have:=h.ll;omega),ob_some]
 simp only [brEta]
theorem applyI {N:Nat} (hN:Big N) {s s':St} {c:Command} {r:Reply} (h:InvS s) (hc:CmdOK c) (p:Stp N s c r s'):impl_Apply.m N s.led c=some (s'.led,r,0):=by
 unfold impl_Apply.m
 simp only [brEta]
 rw [h.okI hN,ob_some,cmdI N hc,h.booksOf hN]
 simp only [ob_some,Bool.not_true,cond_false]
 rw [p.impl,ob_some,p.inv.ledger hN]
 simp only [ob_some,brEta]
end Mir.Y
