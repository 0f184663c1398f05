/- Lists of commands are applied from nothing. -/
import Derived.Test.YtmjmhkpkmejbnaaGreatQSY5
namespace Mir.Y
set_option linter.unusedVariables false
set_option linter.unusedSimpArgs false
open Go
set_option linter.unusedSectionVars false
variable [UU]
@[reducible] def st0:St:=⟨[],[],eB,[]⟩
theorem inv0:InvS st0:=⟨.inl ⟨rfl,rfl⟩,Nat.zero_le _,fun l hl=>absurd hl List.not_mem_nil,Nat.zero_le _,fun x hx=>absurd hx List.not_mem_nil,List.Pairwise.nil,Nat.zero_le _,fun x hx=>absurd hx List.not_mem_nil⟩
structure Run (N:Nat) (l:List Command) (S:Nat→St) (R:Nat→Reply):Prop where
 z:S 0=st0
 inv:∀i,i≤l.length→InvS (S i)
 stp:∀(i:Nat) (h:i<l.length),Stp N (S i) l[i] (R i) (S (i+1))
theorem run_ex {N:Nat} (hN:Big N) (l:List Command) (hl:∀c∈l,CmdOK c):∃S R,Run N l S R:=by
 have tot:∀p:St×Command,∃q:Reply×St,InvS p.1→CmdOK p.2→Stp N p.1 p.2 q.1 q.2:=by
  rintro ⟨s,c⟩
  by_cases h:InvS s∧CmdOK c
  ·obtain ⟨r,s',k⟩:=stepB hN s c h.1 h.2
   exact ⟨(r,s'),fun _ _=>k⟩
  ·exact ⟨(rk 0,s),fun h1 h2=>absurd ⟨h1,h2⟩ h⟩
 obtain ⟨f,hf⟩:=Classical.axiomOfChoice tot
 let S:Nat→St:=fun n=>Nat.rec (motive:=fun _=>St) st0 (fun i s=>(f (s,l.getD i Command.dz)).2) n
 have hS:∀i,S (i+1)=(f (S i,l.getD i Command.dz)).2:=fun i=>rfl
 have hi:∀i,i≤l.length→InvS (S i):=by
  intro i
  induction i with
  | zero=>intro _;exact inv0
  | succ i ih=>
   intro h
   rw [hS]
   exact (hf (S i,l.getD i Command.dz) (ih (by omega)) (by show CmdOK (l.getD i Command.dz);rw [getD_at (show i<l.length by omega)];exact hl _ (List.getElem_mem _))).inv
 refine ⟨S,fun i=>(f (S i,l.getD i Command.dz)).1,rfl,hi,fun i h=>?_⟩
 have:=hf (S i,l.getD i Command.dz) (hi i (by omega)) (by show CmdOK (l.getD i Command.dz);rw [getD_at h];exact hl _ (List.getElem_mem _))
 rw [hS]
 rwa [getD_at h] at this ⊢
theorem Run.take {N:Nat} {l:List Command} {S:Nat→St} {R:Nat→Reply} (h:Run N l S R) (n:Nat):Run N (l.take n) S R:=by
 refine ⟨h.z,fun i hi=>h.inv i (by rw [List.length_take] at hi;omega),fun i hi=>?_⟩
 have hi2:i<l.length:=by rw [List.length_take] at hi;omega
 rw [List.getElem_take]
 exact h.stp i hi2
def rps (R:Nat→Reply) (n:Nat):List Reply:=(List.range n).map R
theorem rps_succ (R:Nat→Reply) (n:Nat):rps R (n+1)=rps R n++[R n]:=by simp [rps,List.range_succ]
theorem rps_len (R:Nat→Reply) (n:Nat):(rps R n).length=n:=by simp [rps]
theorem room32 {n:Nat} (h:n≤1000):room n 32=true:=by simp only [room,decide_eq_true_eq];omega
theorem specOwn {N:Nat} (hN:Big N) {s:St} (h:InvS s):spec_l09Own.m N s.led=some s.led:=by
 unfold spec_l09Own.m
 simp only [brEta]
 rw [room16 (by have:=h.lv;simp;omega),cond_true,Mq.own hN h.mq,ob_some,roomSe (by have:=h.sl;simp;omega),cond_true]
 simp only [brEta,List.nil_append]
theorem applyAllS {N:Nat} (hN:Big N) {l:List Command} {S:Nat→St} {R:Nat→Reply} (h:Run N l S R) (hl:l.length≤100) (hc:∀c∈l,CmdOK c):spec_ApplyAll.m N l=some ((S l.length).led,rps R l.length,0):=by
 unfold spec_ApplyAll.m spec_ApplyAll.m0 spec_ApplyAll.lp8
 rw [decide_eq_false (show ¬ ((l.length:Int) > 4096) by omega),decide_eq_false (show ¬ ((l.length:Int) > 120) by omega),cond_false,cond_false]
 obtain ⟨M,rfl⟩:∃M,N=M+1:=⟨N - 1,by omega⟩
 have e0:miter (fun rec=>spec_ApplyAll.step8 (M+1) l rec) (M+1) (.s0 0 ByteArray.empty ByteArray.empty 0 ByteArray.empty ByteArray.empty 0 [])=miter (fun rec=>spec_ApplyAll.step8 (M+1) l rec) (M+1) (.s1 0 ByteArray.empty ByteArray.empty 0 [] ByteArray.empty ByteArray.empty 0 [] [] []):=by
  rw [miter_s,miter_s];rfl
 rw [e0]
 have hup:=miter_up (step:=fun rec=>spec_ApplyAll.step8 (M+1) l rec) (n:=l.length) (st:=fun i=>.s1 (i:Int) ByteArray.empty ByteArray.empty 0 (S i).lv (S i).b.Key (S i).b.Value (S i).b.At (S i).b.Kids (S i).ss (rps R i)) (r:=some ((S l.length).led,rps R l.length,0)) (fun i hi rec=>by
  simp only [spec_ApplyAll.step8,brEta]
  have hst:=(h.stp i hi).spec
  rw [lt_dec hi,nn_dec,Int.toNat_natCast,getD_at hi,cmdS (M+1) (hc _ (List.getElem_mem _)),hst,w_up i 1048576 (by omega) (by omega),rps_succ]
  simp only [cond_true,ob_some,Bool.not_true,cond_false]
  rw [room32 (by rw [rps_len];simp;omega)]
  rfl) (fun rec=>by
  simp only [spec_ApplyAll.step8,brEta]
  have hl:=specOwn hN (h.inv l.length (Nat.le_refl _))
  rw [ge_dec,cond_false,hl]
  simp only [ob_some,brEta]) l.length 0 (M+1) (by omega) (by omega)
 simp only [h.z] at hup
 exact hup
end Mir.Y
