/- Sessions of a ledger by their numbers. -/
import Derived.Test.YtmjmhkpkmejbnaaGreatQSUB
namespace Mir.Y
set_option linter.unusedVariables false
set_option linter.unusedSimpArgs false
open Go
set_option linter.unusedSectionVars false
variable [UU]
structure SPart (ss:List Session) (id:Int) (A M B:List Session):Prop where
 eq:ss=A++(M++B)
 lo:∀a∈A,a.Id<id
 hi:∀b∈B,id<b.Id
 mid:M=[]∨∃z,M=[z]∧z.Id=id
def SSrt (ss:List Session):Prop:=ss.Pairwise fun x y=>x.Id<y.Id
theorem spart_of {id:Int}:∀ {ss:List Session},SSrt ss→∃A M B,SPart ss id A M B
 | [],_=>⟨[],[],[],rfl,fun a ha=>(by cases ha),fun a ha=>(by cases ha),.inl rfl⟩
 | a::r,hs=>by
  obtain ⟨h1,h2⟩:=List.pairwise_cons.1 hs
  by_cases k:a.Id<id
  ·obtain ⟨A,M,B,p⟩:=spart_of (id:=id) (ss:=r) h2
   refine ⟨a::A,M,B,by rw [p.eq];rfl,fun x hx=>?_,p.hi,p.mid⟩
   rcases List.mem_cons.1 hx with rfl | hx
   ·exact k
   ·exact p.lo x hx
  ·by_cases k2:a.Id=id
   ·exact ⟨[],[a],r,rfl,fun a ha=>(by cases ha),fun b hb'=>by rw [← k2];exact h1 b hb',.inr ⟨a,rfl,k2⟩⟩
   ·refine ⟨[],[],a::r,rfl,fun a ha=>(by cases ha),fun b hb'=>?_,.inl rfl⟩
    rcases List.mem_cons.1 hb' with rfl | hb'
    ·omega
    ·have:=h1 b hb';omega
theorem SPart.len {ss A M B:List Session} {id:Int} (p:SPart ss id A M B):ss.length=A.length+M.length+B.length:=by
 rw [p.eq,List.length_append,List.length_append];omega
theorem SPart.at {ss A M B:List Session} {id:Int} (p:SPart ss id A M B) {j:Nat} (hj:j<ss.length):(j<A.length→ss[j].Id<id)∧(A.length≤j→id≤ss[j].Id):=by
 have e:ss[j]=(A++(M++B))[j]'(by rw [← p.eq];exact hj):=by congr 1;exact p.eq
 constructor
 ·intro h1
  rw [e,List.getElem_append_left h1]
  exact p.lo _ (List.getElem_mem _)
 ·intro h1
  rw [e,List.getElem_append_right h1]
  have hm:(M++B)[j - A.length]'(by have:=p.len;rw [List.length_append];omega)∈M++B:=List.getElem_mem _
  rcases List.mem_append.1 hm with hm | hm
  ·rcases p.mid with rfl | ⟨z,rfl,hz⟩
   ·cases hm
   ·rw [List.mem_singleton] at hm;rw [hm,hz];exact Int.le_refl _
  ·exact Int.le_of_lt (p.hi _ hm)
theorem SPart.here {ss A B:List Session} {id:Int} (p:SPart ss id A [] B) (h:A.length<ss.length):id<ss[A.length].Id:=by
 have e:ss[A.length]=(A++([]++B))[A.length]'(by rw [← p.eq];exact h):=by congr 1;exact p.eq
 rw [e,List.getElem_append_right (Nat.le_refl _)]
 exact p.hi _ (by simp)
theorem SPart.this {ss A B:List Session} {z:Session} {id:Int} (p:SPart ss id A [z] B):∃h:A.length<ss.length,ss[A.length]=z:=by
 have h:A.length<ss.length:=by have:=p.len;simp at this;omega
 have e:ss[A.length]=(A++([z]++B))[A.length]'(by rw [← p.eq];exact h):=by congr 1;exact p.eq
 exact ⟨h,by rw [e,List.getElem_append_right (Nat.le_refl _)];simp⟩
theorem cmpI (N:Nat) (x y:Int):cmp_Compare_int.m N x y=some (if x<y then -1 else if y<x then 1 else 0):=by
 have e:∀z:Int,(z != z)=false:=fun z=>by simp
 simp only [cmp_Compare_int.m,cmp_isNaN_int.m,ob_some,e,cond_false]
 by_cases h:x<y
 ·simp [h]
 ·by_cases h2:y<x
  ·simp [h,h2]
  ·simp [h,h2]
theorem sessAt1 (N:Nat) (s:Session) (id:Int):impl_books_sessionAt_1.m N s id=some (if s.Id<id then -1 else if id<s.Id then 1 else 0):=by
 simp only [impl_books_sessionAt_1.m,cmpI,ob_some]
theorem sesEta (s:Session):Session.mk s.Id s.Seq (Reply.mk s.Last.Kind s.Last.Place s.Last.Value)=s:=rfl
theorem searchS {N:Nat} (hN:Big N) {ss A M B:List Session} {id:Int} (p:SPart ss id A M B) (hl:ss.length≤1000):slices_BinarySearchFunc_impl_Session_impl_Session_int__impl_books_sessionAt_1.m N ss id=some ((A.length:Int),!M.isEmpty):=by
 unfold slices_BinarySearchFunc_impl_Session_impl_Session_int__impl_books_sessionAt_1.m slices_BinarySearchFunc_impl_Session_impl_Session_int__impl_books_sessionAt_1.m0 slices_BinarySearchFunc_impl_Session_impl_Session_int__impl_books_sessionAt_1.lp3
 have hlen:=p.len
 refine miter_all (p:=fun r=>r=some ((A.length:Int),!M.isEmpty)) (fun v:Int×Int×Int=>(v.2.2 - v.2.1).toNat) (fun v=>∃i j:Nat,v=((ss.length:Int),(i:Int),(j:Int))∧i≤A.length∧A.length≤j∧j≤ss.length) ?_ N _ ⟨0,ss.length,rfl,Nat.zero_le _,by omega,Nat.le_refl _⟩ (by simp;omega)
 rintro v ⟨i,j,rfl,i1,i2,i3⟩ rec hrec
 simp only [slices_BinarySearchFunc_impl_Session_impl_Session_int__impl_books_sessionAt_1.step3]
 by_cases hij:i<j
 ·have hm:(i+j) / 2<ss.length:=by omega
  rw [decide_eq_true (show (i:Int)<(j:Int) by omega),cond_true,midW i j (by omega),nn_dec,lt_dec hm,Int.toNat_natCast,getD_at hm,sesEta,sessAt1]
  simp only [show (!decide ((1:Int)<0))=true from rfl,cond_true,ob_some]
  obtain ⟨q1,q2⟩:=p.at hm
  by_cases hlt:(i+j) / 2<A.length
  ·rw [if_pos (q1 hlt),show decide ((-1:Int)<0)=true from rfl,cond_true,w_up _ 1048576 (by omega) (by omega)]
   exact hrec _ ⟨(i+j) / 2+1,j,rfl,by omega,i2,i3⟩ (by simp only [];omega)
  ·have hge:A.length≤(i+j) / 2:=by omega
   have hq:=q2 hge
   rw [if_neg (by omega)]
   have e:decide ((if id<ss[(i+j) / 2].Id then (1:Int) else 0)<0)=false:=by
    by_cases h:id<ss[(i+j) / 2].Id
    ·rw [if_pos h];rfl
    ·rw [if_neg h];rfl
   rw [e,cond_false]
   exact hrec _ ⟨i,(i+j) / 2,rfl,i1,hge,by omega⟩ (by simp only [];omega)
 ·rw [decide_eq_false (show ¬ ((i:Int)<(j:Int)) by omega),cond_false]
  have hi:i=A.length:=by omega
  subst hi
  by_cases hL:A.length<ss.length
  ·rw [lt_dec hL,cond_true,nn_dec,Int.toNat_natCast,getD_at hL,sesEta,sessAt1]
   simp only [cond_true,ob_some]
   congr 2
   rcases p.mid with rfl | ⟨z,rfl,hz⟩
   ·have hx:=p.here hL
    rw [if_neg (by omega),if_pos hx];rfl
   ·obtain ⟨_,e2⟩:=p.this
    rw [e2,hz,if_neg (by omega),if_neg (by omega)];rfl
  ·rw [decide_eq_false (show ¬ ((A.length:Int)<(ss.length:Int)) by omega),cond_false]
   have:M=[]:=List.eq_nil_of_length_eq_zero (by omega)
   rw [this];rfl
theorem sessI {N:Nat} (hN:Big N) {lv:List ByteArray} {pr:List pairOf} {ss A M B:List Session} {id:Int} (p:SPart ss id A M B) (hl:ss.length≤1000):impl_books_sessionAt_.m N (books.mk lv pr ss) id=some ((A.length:Int),!M.isEmpty):=by
 simp only [impl_books_sessionAt_.m,searchS hN p hl,ob_some]
theorem sessS {N:Nat} (hN:Big N) {ss A M B:List Session} {id:Int} (p:SPart ss id A M B) (hl:ss.length≤1000):spec_l09Session.m N ss id=some (if M=[] then -1 else (A.length:Int)):=by
 have hlen:=p.len
 unfold spec_l09Session.m spec_l09Session.m0 spec_l09Session.lp2
 have hne:∀i (h:i<ss.length),i≠A.length∨M=[]→(ss[i].Id==id)=false:=by
  intro i h hi
  rw [beq_eq_false_iff_ne]
  obtain ⟨q1,q2⟩:=p.at h
  by_cases hlt:i<A.length
  ·have:=q1 hlt;omega
  ·have e:ss[i]=(A++(M++B))[i]'(by rw [← p.eq];exact h):=by congr 1;exact p.eq
   rcases p.mid with rfl | ⟨z,rfl,hz⟩
   ·have hm:ss[i]∈B:=by
     rw [e,List.getElem_append_right (by omega)]
     exact List.getElem_mem _
    have:=p.hi _ hm;omega
   ·have hne:i≠A.length:=hi.elim (fun h=>h) (fun h=>by cases h)
    have hm:ss[i]∈B:=by
     rw [e,List.getElem_append_right (by omega),List.getElem_append_right (by simp;omega)]
     exact List.getElem_mem _
    have:=p.hi _ hm;omega
 have stp:∀i,i<ss.length→((ss.getD i Session.dz).Id==id)=false→∀rec,spec_l09Session.step2 N ss id rec ((i:Nat):Int)=rec ((i+1:Nat):Int):=by
  intro i hi hf rec
  simp only [spec_l09Session.step2]
  rw [lt_dec hi,nn_dec,Int.toNat_natCast,hf,w_up i 1048576 (by omega) (by omega)];rfl
 by_cases hM:M=[]
 ·rw [if_pos hM]
  refine miter_up (n:=ss.length) (st:=fun i=>((i:Nat):Int)) (fun i hi rec=>stp i hi (by rw [getD_at hi];exact hne i hi (.inr hM)) rec) (fun rec=>?_) ss.length 0 N (by omega) (by omega)
  simp only [spec_l09Session.step2]
  rw [ge_dec];rfl
 ·rw [if_neg hM]
  obtain ⟨z,rfl,hz⟩:=p.mid.resolve_left hM
  obtain ⟨hA,e2⟩:=p.this
  refine miter_up (n:=A.length) (st:=fun i=>((i:Nat):Int)) (fun i hi rec=>stp i (by omega) (by rw [getD_at (by omega)];exact hne i (by omega) (.inl (by omega))) rec) (fun rec=>?_) A.length 0 N (by omega) (by omega)
  simp only [spec_l09Session.step2]
  rw [lt_dec hA,nn_dec,Int.toNat_natCast,getD_at hA,e2,hz]
  simp
def rk (k:Int):Reply:=⟨k,0,ByteArray.empty⟩
def newS (id:Int):Session:=⟨id,0,rk 0⟩
def opnR (ss A M B:List Session) (id:Int):Reply×List Session:=if M=[] then if ss.length=8 then (rk 6,ss) else (rk 1,A++newS id::B) else (rk 5,ss)
def shtR (ss A M B:List Session):Reply×List Session:=if M=[] then (rk 4,ss) else (rk 1,A++B)
theorem openI {N:Nat} (hN:Big N) {lv:List ByteArray} {pr:List pairOf} {ss A M B:List Session} {id:Int} (p:SPart ss id A M B) (hl:ss.length≤8):impl_books_open.m N (books.mk lv pr ss) id=some ((opnR ss A M B id).1,books.mk lv pr (opnR ss A M B id).2):=by
 unfold impl_books_open.m opnR
 have hlen:=p.len
 rw [sessI hN p (by omega),ob_some]
 rcases p.mid with rfl | ⟨z,rfl,hz⟩
 ·simp only [List.isEmpty_nil,Bool.not_true,cond_false,if_true]
  by_cases h8:ss.length=8
  ·rw [if_pos h8,show ((ss.length:Int)==8)=true by rw [h8];rfl];rfl
  ·rw [if_neg h8,show ((ss.length:Int)==8)=false by rw [beq_eq_false_iff_ne];omega,cond_false]
   unfold slices_Insert_impl_Session.m insM
   rw [nn_dec,decide_eq_true (show ((A.length:Nat):Int)≤(ss.length:Int) by omega),roomB (show ss.length+1≤1048576 by omega) (by omega),Int.toNat_natCast]
   show ob (some (ss.take A.length++([newS id]++ss.drop A.length))) _=_
   rw [ob_some,p.eq,List.take_left,List.drop_left]
   simp [rk]
 ·simp [rk]
theorem shutI {N:Nat} (hN:Big N) {lv:List ByteArray} {pr:List pairOf} {ss A M B:List Session} {id:Int} (p:SPart ss id A M B) (hl:ss.length≤8):impl_books_shut.m N (books.mk lv pr ss) id=some ((shtR ss A M B).1,books.mk lv pr (shtR ss A M B).2):=by
 unfold impl_books_shut.m shtR
 have hlen:=p.len
 rw [sessI hN p (by omega),ob_some]
 rcases p.mid with rfl | ⟨z,rfl,hz⟩
 ·simp [rk]
 ·simp only [List.isEmpty_cons,Bool.not_false,Bool.not_true,cond_false]
  rw [if_neg (by simp)]
  unfold slices_Delete_impl_Session.m delM
  simp only [List.length_cons,List.length_nil] at hlen
  rw [w_up _ 1048576 (by omega) (by omega),nn_dec,decide_eq_true (show ((A.length:Nat):Int)<((A.length+1:Nat):Int) by omega),decide_eq_true (show ((A.length+1:Nat):Int)≤(ss.length:Int) by omega),Int.toNat_natCast,Int.toNat_natCast]
  show ob (some (ss.take A.length++ss.drop (A.length+1))) _=_
  rw [ob_some,p.eq,List.take_left,← List.drop_drop,List.drop_left]
  simp [rk]
theorem roomSe {n:Nat} (h:n≤2000):room n 48=true:=by simp only [room,decide_eq_true_eq];omega
theorem specOpenL {N:Nat} (hN:Big N) {lv:List ByteArray} {b:Branch} {ss A B:List Session} {c:Command} (p:SPart ss c.Session A [] B) (hl:ss.length≤8) (v1 v2 v6:ByteArray) (v3 v4 v5:Int):spec_l09Open.lp13 N (Ledger.mk lv b ss) c ((0:Int),v1,v2,v3,v4,v5,v6)=some (Ledger.mk lv b (A++newS c.Session::B),rk 1):=by
 have hlen:=p.len
 simp only [List.length_nil,Nat.add_zero] at hlen
 unfold spec_l09Open.lp13
 have finL:(bif (decide (0≤((A.length:Nat):Int))) then
   bif (decide (((A.length:Nat):Int)≤((ss.length:Nat):Int))) then
   bif (room (([]:List Session).length+(ss.take (Int.toNat ((A.length:Nat):Int))).length) 48) then
   bif (room ((([]:List Session)++(ss.take (Int.toNat ((A.length:Nat):Int)))).length+([(Session.mk c.Session (0:Int) (Reply.mk (0:Int) (0:Int) ByteArray.empty))]).length) 48) then
   bif (decide (0≤((A.length:Nat):Int))) then
   bif (decide (((A.length:Nat):Int)≤((ss.length:Nat):Int))) then
   bif (room (((([]:List Session)++(ss.take (Int.toNat ((A.length:Nat):Int))))++[(Session.mk c.Session (0:Int) (Reply.mk (0:Int) (0:Int) ByteArray.empty))]).length+(ss.drop (Int.toNat ((A.length:Nat):Int))).length) 48) then
   (let w2:List Session:=(((([]:List Session)++(ss.take (Int.toNat ((A.length:Nat):Int))))++[(Session.mk c.Session (0:Int) (Reply.mk (0:Int) (0:Int) ByteArray.empty))])++(ss.drop (Int.toNat ((A.length:Nat):Int))))
   some ((Ledger.mk lv (Branch.mk b.Key b.Value b.At b.Kids) w2),(Reply.mk (1:Int) (0:Int) ByteArray.empty)))
   else none else none else none else none else none else none else none)=some (Ledger.mk lv b (A++newS c.Session::B),rk 1):=by
  rw [nn_dec,decide_eq_true (show ((A.length:Nat):Int)≤(ss.length:Int) by omega),Int.toNat_natCast,brEta]
  rw [roomSe (by simp;omega),roomSe (by simp;omega),roomSe (by simp;omega)]
  simp only [cond_true]
  rw [p.eq,List.take_left,List.drop_left]
  simp [newS,rk]
 refine miter_up (n:=A.length) (st:=fun i=>(((i:Nat):Int),v1,v2,v3,v4,v5,v6)) (fun i hi rec=>?_) (fun rec=>?_) A.length 0 N (by omega) (by omega)
 ·simp only [spec_l09Open.step13]
  have hi2:i<ss.length:=by omega
  have:=(p.at hi2).1 hi
  rw [lt_dec hi2,nn_dec,Int.toNat_natCast,getD_at hi2,decide_eq_true this,w_up i 1048576 (by omega) (by omega)];rfl
 ·simp only [spec_l09Open.step13]
  by_cases hA:A.length<ss.length
  ·have:=p.here hA
   rw [lt_dec hA]
   simp only [cond_true]
   rw [show decide ((ss.getD (Int.toNat ((A.length:Nat):Int)) Session.dz).Id<c.Session)=false by rw [Int.toNat_natCast,getD_at hA];exact decide_eq_false (by omega),cond_false]
   rw [nn_dec,cond_true]
   rw [nn_dec] at finL
   exact finL
  ·rw [decide_eq_false (show ¬ ((A.length:Int)<(ss.length:Int)) by omega),cond_false]
   exact finL
theorem specOpen {N:Nat} (hN:Big N) {lv:List ByteArray} {b:Branch} {ss A M B:List Session} {c:Command} (hk:c.Kind=4) (p:SPart ss c.Session A M B) (hl:ss.length≤8):spec_l09Open.m N (Ledger.mk lv b ss) c=some (Ledger.mk lv b (opnR ss A M B c.Session).2,(opnR ss A M B c.Session).1):=by
 have hlen:=p.len
 unfold spec_l09Open.m spec_l09Open.m0 opnR
 simp only [brEta]
 rw [sessS hN p (by omega),ob_some,hk,show ((4:Int)==5)=false from rfl,cond_false]
 rcases p.mid with rfl | ⟨z,rfl,hz⟩
 ·rw [if_pos rfl,show decide ((-1:Int)≥0)=false from rfl,cond_false]
  simp only [if_true]
  by_cases h8:ss.length=8
  ·rw [if_pos h8,show ((ss.length:Int)==8)=true by rw [h8];rfl];rfl
  ·rw [if_neg h8,show ((ss.length:Int)==8)=false by rw [beq_eq_false_iff_ne];omega,cond_false]
   exact specOpenL hN p hl _ _ _ _ _ _
 ·rw [if_neg (by simp),if_neg (by simp),show decide (((A.length:Nat):Int)≥0)=true from nn_dec _]
  rfl
theorem specShut {N:Nat} (hN:Big N) {lv:List ByteArray} {b:Branch} {ss A M B:List Session} {c:Command} (hk:c.Kind=5) (p:SPart ss c.Session A M B) (hl:ss.length≤8):spec_l09Open.m N (Ledger.mk lv b ss) c=some (Ledger.mk lv b (shtR ss A M B).2,(shtR ss A M B).1):=by
 have hlen:=p.len
 unfold spec_l09Open.m spec_l09Open.m0 shtR
 simp only [brEta]
 rw [sessS hN p (by omega),ob_some,hk,show ((5:Int)==5)=true from rfl,cond_true]
 rcases p.mid with rfl | ⟨z,rfl,hz⟩
 ·rw [if_pos rfl,if_pos rfl,show decide ((-1:Int)<0)=true from rfl];rfl
 ·simp only [List.length_cons,List.length_nil] at hlen
  rw [if_neg (by simp),if_neg (by simp),show decide (((A.length:Nat):Int)<0)=false from decide_eq_false (by omega),cond_false]
  rw [nn_dec,decide_eq_true (show ((A.length:Nat):Int)≤(ss.length:Int) by omega),w_up _ 1048576 (by omega) (by omega),nn_dec,decide_eq_true (show ((A.length+1:Nat):Int)≤(ss.length:Int) by omega),Int.toNat_natCast,Int.toNat_natCast]
  rw [roomSe (by simp;omega),roomSe (by simp;omega)]
  simp only [cond_true]
  rw [p.eq,List.take_left,← List.drop_drop,List.drop_left]
  simp [rk]
end Mir.Y
