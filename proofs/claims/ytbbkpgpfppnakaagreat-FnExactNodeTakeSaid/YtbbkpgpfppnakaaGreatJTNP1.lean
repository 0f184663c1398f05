/- Pure laws: messages; NodePropose. -/
import Derived.Test.YtbbkpgpfppnakaaGreatJTMB1
namespace Mir.Y
set_option linter.unusedVariables false
set_option linter.unusedSimpArgs false
open Go
theorem eqMsg {N:Nat} (hN:Big N) (x:Message) (h:x.Entries.length≤1048576):laws_eqMessage.m N x x=some true:=by
 unfold laws_eqMessage.m
 simp only [bne_self_eq_false,cond_false,eqEntryS hN _ h,ob_some,Bool.not_true,beq_self_eq_true]
theorem eqMsgS {N:Nat} (hN:Big N) (a:List Message) (h:a.length≤1048576) (he:∀x∈a,x.Entries.length≤1048576):laws_eqMessageS.m N a a=some true:=by
 unfold laws_eqMessageS.m laws_eqMessageS.m0 laws_eqMessageS.lp4
 simp only [bne_self_eq_false,cond_false]
 exact miter_up (n:=a.length) (st:=fun i=>(i:Int)) (fun i hi rec=>by
  simp only [laws_eqMessageS.step4,lt_dec hi,nn_dec,cond_true,Int.toNat_natCast,getD_at hi,eqMsg hN _ (he _ (List.getElem_mem hi)),ob_some,Bool.not_true,cond_false]
  rw [w_up i _ hi h]) (fun rec=>by simp [laws_eqMessageS.step4]) a.length 0 N (by omega) (by omega)
theorem getD_set' {α:Type} {l:List α} {i:Nat} (h:i<l.length) (x d:α):(l.set i x).getD i d=x:=by
 rw [List.getD_eq_getElem?_getD,List.getElem?_set_self h];rfl
noncomputable def fMsg (N:Nat) (c:Int) (x:Message):Int×Message:=((marks (fEnt N) (c+7) x.Entries).1+1,⟨c,c+1,c+2,c+3,c+4,c+5,c+6,(marks (fEnt N) (c+7) x.Entries).2,(Int.tmod (marks (fEnt N) (c+7) x.Entries).1 3==0)⟩)
theorem fMsg_count (N:Nat) (c:Int) (x:Message) (h0:0≤c) (h1:c≤8000000) (hx:x.Entries.length≤100):(fMsg N c x).1=c+8+3 * x.Entries.length:=by
 simp only [fMsg]
 rw [marks_count (fEnt_count N) (by omega) (by omega) (by omega) (by omega)];omega
theorem marks_msg (N:Nat):∀(a:List Message) (c:Int),0≤c→c+400 * a.length≤7900000→(∀x∈a,x.Entries.length≤100)→c≤(marks (fMsg N) c a).1∧(marks (fMsg N) c a).1≤c+400 * a.length
 | [],c,h0,hb,he=>by simp [marks]
 | x::a,c,h0,hb,he=>by
  have hx:=he x List.mem_cons_self
  have e:=fMsg_count N c x h0 (by rw [List.length_cons] at hb;omega) hx
  rw [List.length_cons] at hb
  have ih:=marks_msg N a (fMsg N c x).1 (by omega) (by push_cast at hb;omega) (fun y hy=>he y (List.mem_cons_of_mem _ hy))
  simp only [marks,List.length_cons]
  push_cast
  omega
theorem msg_take (N:Nat) {a:List Message} {c:Int} (h0:0≤c) (hl:a.length≤10) (hb:c≤7800000) (he:∀x∈a,x.Entries.length≤100) (i:Nat):0≤(marks (fMsg N) c (a.take i)).1∧(marks (fMsg N) c (a.take i)).1≤7900000:=by
 have h1:(a.take i).length≤10:=by rw [List.length_take];omega
 have:=marks_msg N (a.take i) c h0 (by omega) (fun x hx=>he x (List.mem_of_mem_take hx))
 omega
theorem markMsgS {N:Nat} (hN:Big N) (a:List Message) (c:Int) (h0:0≤c) (hl:a.length≤10) (hb:c≤7800000) (he:∀x∈a,x.Entries.length≤100):laws_markMessageS.m N a c=some (marks (fMsg N) c a):=by
 unfold laws_markMessageS.m laws_markMessageS.m0 laws_markMessageS.lp2
 have:=miter_up (step:=fun rec=>laws_markMessageS.step2 N a c rec) (n:=a.length) (st:=fun i=>((marks (fMsg N) c (a.take i)).1,(i:Int),(marks (fMsg N) c (a.take i)).2++a.drop i)) (r:=some (marks (fMsg N) c a)) (fun i hi rec=>by
  obtain ⟨k0,k1⟩:=msg_take N h0 hl hb he i
  have hlen:((marks (fMsg N) c (a.take i)).2++a.drop i).length=a.length:=by simp [marks_length];omega
  have hm:(marks (fMsg N) c (a.take i)).2.length=i:=by rw [marks_length];simp;omega
  have hg:((marks (fMsg N) c (a.take i)).2++a.drop i).getD i Message.dz=a[i]:=by
   rw [getD_at (by omega),List.getElem_append_right (by omega)];simp [hm]
  have ht:a.take (i+1)=a.take i++[a[i]]:=by rw [List.take_add_one,List.getElem?_eq_getElem hi];rfl
  rw [ht,marks_snoc]
  have hst:∀y:Message,((marks (fMsg N) c (a.take i)).2++a.drop i).set i y=((marks (fMsg N) c (a.take i)).2++[y])++a.drop (i+1):=fun y=>by
   rw [List.set_append_right _ _ (by omega),hm,Nat.sub_self,List.drop_eq_getElem_cons hi,List.set_cons_zero];simp
  simp only
  rw [← hst]
  generalize (marks (fMsg N) c (a.take i)).1=v at k0 k1
  generalize (marks (fMsg N) c (a.take i)).2++a.drop i=L at hlen hg
  have hi':i<L.length:=by omega
  have e1:w64 (v+1)=v+1:=w_small (by omega) (by omega)
  have e2:w64 (v+1+1)=v+2:=by rw [w_small (by omega) (by omega)];omega
  have e3:w64 (v+2+1)=v+3:=by rw [w_small (by omega) (by omega)];omega
  have e4:w64 (v+3+1)=v+4:=by rw [w_small (by omega) (by omega)];omega
  have e5:w64 (v+4+1)=v+5:=by rw [w_small (by omega) (by omega)];omega
  have e6:w64 (v+5+1)=v+6:=by rw [w_small (by omega) (by omega)];omega
  have e7:w64 (v+6+1)=v+7:=by rw [w_small (by omega) (by omega)];omega
  have hx:=he _ (List.getElem_mem hi)
  have em:=markEntryS hN (a[i]).Entries (v+7) (by omega) (by omega) (by omega)
  have ec:=fMsg_count N v a[i] k0 (by omega) hx
  have e8:w64 ((marks (fEnt N) (v+7) (a[i]).Entries).1+1)=(fMsg N v a[i]).1:=by
   simp only [fMsg] at ec ⊢
   exact w_small (by omega) (by omega)
  have et:decide (i<L.length)=true:=decide_eq_true hi'
  unfold laws_markMessageS.step2
  simp (config:={ zeta:=false }) only [lt_dec hi',nn_dec,cond_true,e1,e2,e3,e4,e5,e6,e7,Int.toNat_natCast]
  extract_lets w1 w2 w3 w4 w5 w6 w7
  have hw1:w1=L.set i (Message.mk v (a[i]).From (a[i]).To (a[i]).Term (a[i]).Index (a[i]).LogTerm (a[i]).Commit (a[i]).Entries (a[i]).Ok):=by show L.set i (Message.mk v (L.getD i Message.dz).From (L.getD i Message.dz).To (L.getD i Message.dz).Term (L.getD i Message.dz).Index (L.getD i Message.dz).LogTerm (L.getD i Message.dz).Commit (L.getD i Message.dz).Entries (L.getD i Message.dz).Ok)=_;rw [hg]
  have hw2:w2=L.set i (Message.mk v (v+1) (a[i]).To (a[i]).Term (a[i]).Index (a[i]).LogTerm (a[i]).Commit (a[i]).Entries (a[i]).Ok):=by show w1.set i (Message.mk (w1.getD i Message.dz).Kind (v+1) (w1.getD i Message.dz).To (w1.getD i Message.dz).Term (w1.getD i Message.dz).Index (w1.getD i Message.dz).LogTerm (w1.getD i Message.dz).Commit (w1.getD i Message.dz).Entries (w1.getD i Message.dz).Ok)=_;rw [hw1,getD_set' hi',List.set_set]
  have hw3:w3=L.set i (Message.mk v (v+1) (v+2) (a[i]).Term (a[i]).Index (a[i]).LogTerm (a[i]).Commit (a[i]).Entries (a[i]).Ok):=by show w2.set i (Message.mk (w2.getD i Message.dz).Kind (w2.getD i Message.dz).From (v+2) (w2.getD i Message.dz).Term (w2.getD i Message.dz).Index (w2.getD i Message.dz).LogTerm (w2.getD i Message.dz).Commit (w2.getD i Message.dz).Entries (w2.getD i Message.dz).Ok)=_;rw [hw2,getD_set' hi',List.set_set]
  have hw4:w4=L.set i (Message.mk v (v+1) (v+2) (v+3) (a[i]).Index (a[i]).LogTerm (a[i]).Commit (a[i]).Entries (a[i]).Ok):=by show w3.set i (Message.mk (w3.getD i Message.dz).Kind (w3.getD i Message.dz).From (w3.getD i Message.dz).To (v+3) (w3.getD i Message.dz).Index (w3.getD i Message.dz).LogTerm (w3.getD i Message.dz).Commit (w3.getD i Message.dz).Entries (w3.getD i Message.dz).Ok)=_;rw [hw3,getD_set' hi',List.set_set]
  have hw5:w5=L.set i (Message.mk v (v+1) (v+2) (v+3) (v+4) (a[i]).LogTerm (a[i]).Commit (a[i]).Entries (a[i]).Ok):=by show w4.set i (Message.mk (w4.getD i Message.dz).Kind (w4.getD i Message.dz).From (w4.getD i Message.dz).To (w4.getD i Message.dz).Term (v+4) (w4.getD i Message.dz).LogTerm (w4.getD i Message.dz).Commit (w4.getD i Message.dz).Entries (w4.getD i Message.dz).Ok)=_;rw [hw4,getD_set' hi',List.set_set]
  have hw6:w6=L.set i (Message.mk v (v+1) (v+2) (v+3) (v+4) (v+5) (a[i]).Commit (a[i]).Entries (a[i]).Ok):=by show w5.set i (Message.mk (w5.getD i Message.dz).Kind (w5.getD i Message.dz).From (w5.getD i Message.dz).To (w5.getD i Message.dz).Term (w5.getD i Message.dz).Index (v+5) (w5.getD i Message.dz).Commit (w5.getD i Message.dz).Entries (w5.getD i Message.dz).Ok)=_;rw [hw5,getD_set' hi',List.set_set]
  have hw7:w7=L.set i (Message.mk v (v+1) (v+2) (v+3) (v+4) (v+5) (v+6) (a[i]).Entries (a[i]).Ok):=by show w6.set i (Message.mk (w6.getD i Message.dz).Kind (w6.getD i Message.dz).From (w6.getD i Message.dz).To (w6.getD i Message.dz).Term (w6.getD i Message.dz).Index (w6.getD i Message.dz).LogTerm (v+6) (w6.getD i Message.dz).Entries (w6.getD i Message.dz).Ok)=_;rw [hw6,getD_set' hi',List.set_set]
  clear_value w7 w6 w5 w4 w3 w2 w1
  subst hw1 hw2 hw3 hw4 hw5 hw6 hw7
  simp (config:={ zeta:=false }) only [List.length_set,lt_dec hi',et,cond_true,getD_set' hi',em,ob_some,show (!decide ((3:Int)=0))=true from rfl]
  extract_lets w9 w10
  have hw9:w9=L.set i (Message.mk v (v+1) (v+2) (v+3) (v+4) (v+5) (v+6) (marks (fEnt N) (v+7) (a[i]).Entries).2 (a[i]).Ok):=by show (L.set i _).set i _=_;rw [List.set_set]
  have hw10:w10=L.set i (Message.mk v (v+1) (v+2) (v+3) (v+4) (v+5) (v+6) (marks (fEnt N) (v+7) (a[i]).Entries).2 (Int.tmod (marks (fEnt N) (v+7) (a[i]).Entries).1 3==0)):=by show w9.set i (Message.mk (w9.getD i Message.dz).Kind (w9.getD i Message.dz).From (w9.getD i Message.dz).To (w9.getD i Message.dz).Term (w9.getD i Message.dz).Index (w9.getD i Message.dz).LogTerm (w9.getD i Message.dz).Commit (w9.getD i Message.dz).Entries (Int.tmod (marks (fEnt N) (v+7) (a[i]).Entries).1 3==0))=_;rw [hw9,getD_set' hi',List.set_set]
  clear_value w10 w9
  subst hw9 hw10
  simp only [List.length_set,lt_dec hi',cond_true]
  rw [e8]
  rw [w_up i _ hi (by omega)]
  rfl) (fun rec=>by
  have hml:(marks (fMsg N) c (a.take a.length)).2.length=a.length:=by rw [marks_length];simp
  rw [List.take_length] at hml
  rw [List.take_length,List.drop_length,List.append_nil]
  unfold laws_markMessageS.step2
  simp (config:={ zeta:=false }) only [hml,ge_dec,cond_false]) a.length 0 N (by omega) (by omega)
 simpa [marks] using this
theorem heldMsgS {N:Nat} (hN:Big N) (a:List Message) (c:Int) (h0:0≤c) (hl:a.length≤10) (hb:c≤7800000) (he:∀x∈a,x.Entries.length≤100):laws_heldMessageS.m N (marks (fMsg N) c a).2 c=some (marks (fMsg N) c a).1:=by
 unfold laws_heldMessageS.m laws_heldMessageS.m0 laws_heldMessageS.lp2
 refine loop_held (f:=fMsg N) (a:=a) (fun i hi rec hg=>?_) (fun rec=>by simp [laws_heldMessageS.step2,marks_length]) (by omega)
 obtain ⟨k0,k1⟩:=msg_take N h0 hl hb he i
 have hlen:(marks (fMsg N) c a).2.length=a.length:=marks_length
 have hx:=he _ (List.getElem_mem hi)
 generalize (marks (fMsg N) c (a.take i)).1=v at k0 k1 hg
 have e1:w64 (v+1)=v+1:=w_small (by omega) (by omega)
 have e2:w64 (v+1+1)=v+2:=by rw [w_small (by omega) (by omega)];omega
 have e3:w64 (v+2+1)=v+3:=by rw [w_small (by omega) (by omega)];omega
 have e4:w64 (v+3+1)=v+4:=by rw [w_small (by omega) (by omega)];omega
 have e5:w64 (v+4+1)=v+5:=by rw [w_small (by omega) (by omega)];omega
 have e6:w64 (v+5+1)=v+6:=by rw [w_small (by omega) (by omega)];omega
 have e7:w64 (v+6+1)=v+7:=by rw [w_small (by omega) (by omega)];omega
 have em:=heldEntryS hN (a[i]).Entries (v+7) (by omega) (by omega) (by omega)
 have ec:=fMsg_count N v a[i] k0 (by omega) hx
 have e8:w64 ((marks (fEnt N) (v+7) (a[i]).Entries).1+1)=(fMsg N v a[i]).1:=by
  simp only [fMsg] at ec ⊢
  exact w_small (by omega) (by omega)
 have en:decide ((marks (fEnt N) (v+7) (a[i]).Entries).1<0)=false:=by
  simp only [fMsg] at ec
  exact decide_eq_false (by omega)
 simp only [laws_heldMessageS.step2,hlen,lt_dec hi,nn_dec,cond_true,Int.toNat_natCast,List.getD_eq_getElem?_getD,hg,Option.getD_some]
 have f1:(fMsg N v a[i]).2=⟨v,v+1,v+2,v+3,v+4,v+5,v+6,(marks (fEnt N) (v+7) (a[i]).Entries).2,(Int.tmod (marks (fEnt N) (v+7) (a[i]).Entries).1 3==0)⟩:=rfl
 simp only [f1,e1,e2,e3,e4,e5,e6,e7,bne_self_eq_false,cond_false,em,ob_some,en,show (!decide ((3:Int)=0))=true from rfl,cond_true,beq_self_eq_true,Bool.not_true,e8]
 rw [w_up i _ hi (by omega)]
theorem hasB_iff (a:List Int) (x:Int):hasB a x=true↔x∈a:=by
 unfold hasB
 rw [Bool.not_eq_true',← Bool.not_eq_true,allF_iff]
 constructor
 ·intro h
  apply Classical.byContradiction
  intro hx
  apply h
  intro j _ hj
  have hj:j<a.length:=by omega
  rw [ix,getD_at hj,Bool.not_eq_true',beq_eq_false_iff_ne]
  rintro rfl
  exact hx (List.getElem_mem hj)
 ·intro hx h
  obtain ⟨j,hj,rfl⟩:=List.getElem_of_mem hx
  have:=h j (Nat.zero_le _) (by omega)
  rw [ix,getD_at hj] at this
  simp at this
theorem ids_ge {f:Nat→Int} {n:Nat} (h:idsB f n=true):∀j,j<n→(j:Int)≤f j∧0≤f j∧f j≤6:=by
 unfold idsB at h
 rw [allF_iff] at h
 intro j
 induction j with
 | zero=>
  intro hj
  have:=h 0 (Nat.le_refl _) (by omega)
  unfold inB at this
  simp only [Bool.and_eq_true,decide_eq_true_eq] at this
  omega
 | succ j ih=>
  intro hj
  have h1:=ih (by omega)
  have h2:=h (j+1) (Nat.zero_le _) (by omega)
  unfold inB at h2
  simp only [Bool.and_eq_true,decide_eq_true_eq,Bool.not_eq_true',Bool.and_eq_false_iff,decide_eq_false_iff_not] at h2
  have h3:¬ f (j+1 - 1)≥f (j+1):=by rcases h2.2 with h | h;omega;exact h
  rw [Nat.add_sub_cancel] at h3
  omega
structure Mem (M:List Int):Prop where
 len:M.length≤7
 lo:∀x∈M,0≤x∧x≤6
theorem mem_of {M:List Int} (h:idsB (ix M) M.length=true):Mem M:=by
 have hg:=ids_ge h
 refine ⟨?_,fun x hx=>?_⟩
 ·rcases Nat.eq_zero_or_pos M.length with h0 | h0
  ·omega
  ·have:=hg (M.length - 1) (by omega)
   omega
 ·obtain ⟨j,hj,rfl⟩:=List.getElem_of_mem hx
  have:=hg j hj
  rw [ix,getD_at hj] at this
  omega
theorem memL_ids {a:List Entry} {s:List Int} (hs:idsB (ix s) s.length=true) (ha:allMem a):∀n,n≤a.length→idsB (ix (memL a s n)) (memL a s n).length=true
 | 0,_=>hs
 | n+1,h=>by
  unfold memL
  cases hk:(ex a n).Kind==2 with
  | true=>
   rw [cond_true,bl_length,idsB_congr (g:=fun j=>sb (ex a n).Data (j:Int)) (fun j hj=>bl_ix _ hj)]
   have:=ha n (by omega) hk
   unfold memB at this
   rw [Bool.and_eq_true] at this
   exact this.1
  | false=>exact memL_ids hs ha n (by omega)
theorem memL_congr {a b:List Entry} {s:List Int}:∀n,(∀j,j<n→ex a j=ex b j)→memL a s n=memL b s n
 | 0,_=>rfl
 | n+1,h=>by
  unfold memL
  rw [h n (by omega),memL_congr n fun j hj=>h j (by omega)]
def mostB (p:Int→Bool) (M:List Int):Bool:=decide (2 * ((cnB (fun j=>p (ix M j)) M.length:Nat):Int) > (M.length:Int))
theorem cnB_congr {d e:Nat→Bool}:∀n,(∀j,j<n→d j=e j)→cnB d n=cnB e n
 | 0,_=>rfl
 | n+1,h=>by
  show cnB d n+(d n).toNat=cnB e n+(e n).toNat
  rw [cnB_congr n fun j hj=>h j (by omega),h n (by omega)]
theorem ix_mem {M:List Int} {j:Nat} (h:j<M.length):ix M j∈M:=by rw [ix,getD_at h];exact List.getElem_mem h
theorem mostB_congr {p q:Int→Bool} {M:List Int} (h:∀x∈M,p x=q x):mostB p M=mostB q M:=by
 unfold mostB
 rw [cnB_congr M.length fun j hj=>h _ (ix_mem hj)]
theorem l10Most {N:Nat} (hN:Big N) (ids M:List Int) (hi:ids.length≤100) (hM:M.length≤100):spec_l10Most.m N ids M=some (mostB (hasB ids) M):=by
 unfold spec_l10Most.m spec_l10Most.m0 spec_l10Most.lp3
 exact miter_up (step:=fun rec=>spec_l10Most.step3 N ids M rec) (n:=M.length) (st:=fun i=>(((cnB (fun j=>hasB ids (ix M j)) i:Nat):Int),(i:Int))) (fun i hi' rec=>by
  have hc:=cnB_le (fun j=>hasB ids (ix M j)) i
  have hh:spec_l10Has.m N ids (ix M i)=some (hasB ids (ix M i)):=l10Has hN _ _ (by simp only [M20];omega)
  have b1:spec_l01Bit.m N (hasB ids (ix M i))=some (((hasB ids (ix M i)).toNat:Nat):Int):=by cases hasB ids (ix M i)<;>rfl
  have ht:(hasB ids (ix M i)).toNat≤1:=by cases hasB ids (ix M i)<;>simp
  simp only [spec_l10Most.step3,lt_dec hi',nn_dec,cond_true,Int.toNat_natCast,ixe,hh,ob_some,b1]
  rw [w_up i _ hi' (by omega),w_small (by omega) (by omega),show cnB (fun j=>hasB ids (ix M j)) (i+1)=cnB (fun j=>hasB ids (ix M j)) i+(hasB ids (ix M i)).toNat from rfl]
  push_cast
  rfl) (fun rec=>by
  have hc:=cnB_le (fun j=>hasB ids (ix M j)) M.length
  simp only [spec_l10Most.step3,ge_dec,cond_false]
  rw [w_small (by omega) (by omega)]
  rfl) M.length 0 N (by omega) (by omega)
def hasIt (x:Node) (place:Int) (m:Int):Bool:=(m==x.Id)||decide (ix x.Match m.toNat≥place)
theorem workEta (w:worker):worker.mk (Node.mk w.Node.Id w.Node.Term w.Node.Vote w.Node.Log w.Node.Start w.Node.Role w.Node.Votes w.Node.Next w.Node.Match w.Node.Commit w.Node.Elapsed w.Node.Wait w.Node.Up) w.sent=w:=rfl
theorem isMost {N:Nat} (hN:Big N) (w:worker) (place:Int) (M:List Int) (hm:impl_Node_members.m N w.Node=some M) (hM:Mem M) (h7:w.Node.Match.length=7):impl_worker_isMost__impl_worker_commit_1_.m N w w place=some (mostB (hasIt w.Node place) M):=by
 unfold impl_worker_isMost__impl_worker_commit_1_.m impl_worker_isMost__impl_worker_commit_1_.m0
 rw [nodeEta,hm,ob_some]
 unfold impl_worker_isMost__impl_worker_commit_1_.lp3
 have hl:=hM.len
 exact miter_up (step:=fun rec=>impl_worker_isMost__impl_worker_commit_1_.step3 N w w place rec) (n:=M.length) (st:=fun i=>(((cnB (fun j=>hasIt w.Node place (ix M j)) i:Nat):Int),(M.length:Int),(i:Int),M)) (fun i hi' rec=>by
  have hc:=cnB_le (fun j=>hasIt w.Node place (ix M j)) i
  have hx:=hM.lo _ (ix_mem hi')
  have c1:impl_worker_commit_1.m N (ix M i) w place=some (hasIt w.Node place (ix M i)):=by
   unfold impl_worker_commit_1.m hasIt
   rw [decide_eq_true (show 0≤ix M i by omega),decide_eq_true (show ix M i<(w.Node.Match.length:Int) by omega)]
   cases (ix M i==w.Node.Id)<;>rfl
  simp only [impl_worker_isMost__impl_worker_commit_1_.step3,lt_dec hi',nn_dec,cond_true,Int.toNat_natCast,ixe,c1,ob_some]
  rw [w_up i _ hi' (by omega),w_small (x:=((cnB (fun j=>hasIt w.Node place (ix M j)) i:Nat):Int)+1) (by omega) (by omega),show cnB (fun j=>hasIt w.Node place (ix M j)) (i+1)=cnB (fun j=>hasIt w.Node place (ix M j)) i+(hasIt w.Node place (ix M i)).toNat from rfl]
  cases hasIt w.Node place (ix M i)<;>simp) (fun rec=>by
  have hc:=cnB_le (fun j=>hasIt w.Node place (ix M j)) M.length
  simp only [impl_worker_isMost__impl_worker_commit_1_.step3,ge_dec,cond_false]
  rw [w_small (by omega) (by omega)]
  rfl) M.length 0 N (by omega) (by omega)
def idl (x:Node) (place:Int) (i:Nat):List Int:=[x.Id]++((List.range i).filter fun j=>decide (ix x.Match j≥place)&&((j:Int) != x.Id)).map fun (j:Nat)=>(j:Int)
theorem idl_len (x:Node) (place:Int) (i:Nat):(idl x place i).length≤i+1:=by
 unfold idl
 have:=List.length_filter_le (fun j=>decide (ix x.Match j≥place)&&((j:Int) != x.Id)) (List.range i)
 rw [List.length_range] at this
 simp only [List.length_append,List.length_singleton,List.length_map];omega
theorem idl_succ (x:Node) (place:Int) (i:Nat):idl x place (i+1)=bif decide (ix x.Match i≥place)&&((i:Int) != x.Id) then idl x place i++[(i:Int)] else idl x place i:=by
 unfold idl
 rw [List.range_succ,List.filter_append,List.map_append]
 cases h:decide (ix x.Match i≥place)&&((i:Int) != x.Id)<;>simp [List.filter,h]
theorem has_idl (x:Node) (place:Int) {m:Int} (h0:0≤m) (h6:m≤6):hasB (idl x place 7) m=hasIt x place m:=by
 rw [Bool.eq_iff_iff,hasB_iff]
 unfold idl hasIt
 simp only [List.mem_append,List.mem_singleton,List.mem_map,List.mem_filter,List.mem_range,Bool.and_eq_true,decide_eq_true_eq,bne_iff_ne,ne_eq,Bool.or_eq_true,beq_iff_eq]
 constructor
 ·rintro (h | ⟨j,⟨_,h1,_⟩,rfl⟩)
  ·exact .inl h
  ·exact .inr h1
 ·rintro (h | h)
  ·exact .inl h
  ·by_cases e:m=x.Id
   ·exact .inl e
   ·exact .inr ⟨m.toNat,⟨by omega,h,by omega⟩,by omega⟩
def withC (x:Node) (c:Int):Node:=⟨x.Id,x.Term,x.Vote,x.Log,x.Start,x.Role,x.Votes,x.Next,x.Match,c,x.Elapsed,x.Wait,x.Up⟩
def advC (x:Node) (M:List Int):Nat→Int
 | 0=>x.Commit
 | k+1=>bif decide (((k+1:Nat):Int) > x.Commit) then (bif (ex x.Log k).Term==x.Term then (bif mostB (hasIt x ((k+1:Nat):Int)) M then ((k+1:Nat):Int) else advC x M k) else x.Commit) else x.Commit
theorem advance {N:Nat} (hN:Big N) (x:Node) (M:List Int) (sent:List Message) (hms:spec_l10Members_.m N x=some M) (hmi:∀x':Node,x'.Log=x.Log→x'.Start=x.Start→impl_Node_members.m N x'=some M) (hM:Mem M) (h7:x.Match.length=7) (hl:x.Log.length≤100) (hc0:0≤x.Commit) (hc1:x.Commit≤x.Log.length) :
  ∃c:Int,spec_l10Advance.m N x=some (withC x c)∧impl_worker_commit.m N ⟨x,sent⟩=some ⟨withC x c,sent⟩∧0≤c∧c≤x.Log.length∧c=advC x M x.Log.length:=by
 unfold spec_l10Advance.m spec_l10Advance.m0 impl_worker_commit.m impl_worker_commit.m0
 rw [hms,ob_some]
 unfold spec_l10Advance.lp3 impl_worker_commit.lp2
 have main:∀(k K:Nat),k<K→k≤x.Log.length→∃c:Int,miter (fun rec=>spec_l10Advance.step3 N x (spec_l10Advance.lp7 N x rec) rec) K (M,(k:Int),x.Id,x.Term,x.Vote,x.Log,x.Start,x.Role,x.Votes,x.Next,x.Match,x.Commit,x.Elapsed,x.Wait,x.Up,(0:Int),(0:Int),(0:Int),(0:Int),(0:Int),(0:Int),(0:Int))=some (withC x c)∧miter (fun rec=>impl_worker_commit.step2 N ⟨x,sent⟩ rec) K (k:Int)=some ⟨withC x c,sent⟩∧0≤c∧c≤x.Log.length∧c=advC x M k:=by
  intro k
  induction k with
  | zero=>
   intro K hK _
   obtain ⟨K,rfl⟩:∃j,K=j+1:=⟨K - 1,by omega⟩
   have un:∀ {α R:Type} (g:(α→Option R)→α→Option R) (s:α),miter g (K+1) s=g (miter g K) s:=fun _ _=>rfl
   rw [un,un]
   generalize hr1:miter (fun rec=>spec_l10Advance.step3 N x (spec_l10Advance.lp7 N x rec) rec) K=rec1
   generalize hr2:miter (fun rec=>impl_worker_commit.step2 N ⟨x,sent⟩ rec) K=rec2
   simp only [spec_l10Advance.step3,impl_worker_commit.step2]
   rw [decide_eq_false (show ¬ ((0:Nat):Int) > x.Commit by omega)]
   exact ⟨x.Commit,rfl,rfl,hc0,hc1,rfl⟩
  | succ k ih=>
   intro K hK hk
   obtain ⟨K,rfl⟩:∃j,K=j+1:=⟨K - 1,by omega⟩
   have e1:w64 (((k+1:Nat):Int) - 1)=(k:Int):=by rw [w_small (by omega) (by omega)];omega
   have un:∀ {α R:Type} (g:(α→Option R)→α→Option R) (s:α),miter g (K+1) s=g (miter g K) s:=fun _ _=>rfl
   rw [un,un]
   generalize hr1:miter (fun rec=>spec_l10Advance.step3 N x (spec_l10Advance.lp7 N x rec) rec) K=rec1
   generalize hr2:miter (fun rec=>impl_worker_commit.step2 N ⟨x,sent⟩ rec) K=rec2
   simp only [spec_l10Advance.step3,impl_worker_commit.step2,e1]
   by_cases hc:((k+1:Nat):Int) > x.Commit
   ·have kd:decide ((k:Int)<(x.Log.length:Int))=true:=lt_dec (by omega)
    have tk:impl_Node_termAt.m N x ((k+1:Nat):Int)=some (ex x.Log k).Term:=by
     unfold impl_Node_termAt.m
     rw [e1,nn_dec,kd,show (((k+1:Nat):Int)==0)=false by rw [beq_eq_false_iff_ne];omega]
     rfl
    rw [decide_eq_true hc,nodeEta,tk,nn_dec,kd]
    simp only [cond_true,ob_some,Int.toNat_natCast,exe]
    cases ht:(ex x.Log k).Term==x.Term with
    | false=>exact ⟨x.Commit,rfl,rfl,hc0,hc1,by rw [advC,decide_eq_true hc,ht];rfl⟩
    | true=>
     simp only [cond_true]
     have im:=isMost hN ⟨x,sent⟩ ((k+1:Nat):Int) M (hmi x rfl rfl) hM h7
     have inner:∀r3,spec_l10Advance.lp7 N x r3 (M,((k+1:Nat):Int),(0:Int),x.Id,x.Term,x.Vote,x.Log,x.Start,x.Role,x.Votes,x.Next,x.Match,x.Commit,x.Elapsed,x.Wait,x.Up,(0:Int),(0:Int),(0:Int),(0:Int),(0:Int),(0:Int),(0:Int),[x.Id])=bif mostB (hasIt x ((k+1:Nat):Int)) M then some (withC x ((k+1:Nat):Int)) else r3 (M,(k:Int),x.Id,x.Term,x.Vote,x.Log,x.Start,x.Role,x.Votes,x.Next,x.Match,x.Commit,x.Elapsed,x.Wait,x.Up,(0:Int),(0:Int),(0:Int),(0:Int),(0:Int),(0:Int),(0:Int)):=by
      intro r3
      unfold spec_l10Advance.lp7
      exact miter_up (step:=fun rec=>spec_l10Advance.step7 N x r3 rec) (n:=7) (st:=fun j=>(M,((k+1:Nat):Int),(j:Int),x.Id,x.Term,x.Vote,x.Log,x.Start,x.Role,x.Votes,x.Next,x.Match,x.Commit,x.Elapsed,x.Wait,x.Up,(0:Int),(0:Int),(0:Int),(0:Int),(0:Int),(0:Int),(0:Int),idl x ((k+1:Nat):Int) j)) (fun j hj rec=>by
       have hlj:=idl_len x ((k+1:Nat):Int) j
       simp only [spec_l10Advance.step7,decide_eq_true (show (j:Int)<7 by omega),nn_dec,decide_eq_true (show (j:Int)<(x.Match.length:Int) by omega),cond_true,Int.toNat_natCast,ixe]
       rw [w_up j 7 hj (by omega),roomB (by rw [List.length_singleton];omega) (by omega),cond_true,idl_succ]
       by_cases hq:ix x.Match j≥((k+1:Nat):Int)
       ·simp only [hq,decide_true,cond_true,Bool.true_and];cases ((j:Int) != x.Id)<;>rfl
       ·simp only [hq,decide_false,cond_false,Bool.false_and]) (fun rec=>by
       have hlj:=idl_len x ((k+1:Nat):Int) 7
       simp only [spec_l10Advance.step7]
       rw [decide_eq_false (show ¬ ((7:Nat):Int)<7 by omega),cond_false,l10Most hN _ _ (by omega) (by have:=hM.len;omega),ob_some,e1,mostB_congr (q:=hasIt x ((k+1:Nat):Int)) fun m hm=>has_idl x _ (hM.lo m hm).1 (hM.lo m hm).2]
       rfl) 7 0 N (by omega) (by omega)
     have im':impl_worker_isMost__impl_worker_commit_1_.m N (worker.mk x sent) (worker.mk x sent) ((k+1:Nat):Int)=some (mostB (hasIt x ((k+1:Nat):Int)) M):=im
     rw [inner,im',ob_some]
     have ac:advC x M (k+1)=bif mostB (hasIt x ((k+1:Nat):Int)) M then ((k+1:Nat):Int) else advC x M k:=by rw [advC,decide_eq_true hc,ht];rfl
     rw [ac]
     cases mostB (hasIt x ((k+1:Nat):Int)) M with
     | true=>exact ⟨((k+1:Nat):Int),rfl,rfl,by omega,by omega,rfl⟩
     | false=>
      obtain ⟨c,i1,i2,i3,i4,i5⟩:=ih K (by omega) (by omega)
      rw [hr1] at i1
      rw [hr2] at i2
      exact ⟨c,i1,i2,i3,i4,i5⟩
   ·rw [decide_eq_false hc]
    exact ⟨x.Commit,rfl,rfl,hc0,hc1,by rw [advC,decide_eq_false hc];rfl⟩
 obtain ⟨c,h1,h2,h3⟩:=main x.Log.length N (by omega) (Nat.le_refl _)
 exact ⟨c,h1,h2,h3⟩
end Mir.Y
