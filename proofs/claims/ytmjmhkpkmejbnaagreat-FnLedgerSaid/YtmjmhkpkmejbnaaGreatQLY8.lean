/- FnLedger. -/
import Derived.Test.YtmjmhkpkmejbnaaGreatQLY7
namespace Mir.Y
set_option linter.unusedVariables false
set_option linter.unusedSimpArgs false
open Go
set_option linter.unusedSectionVars false
variable [UU]
theorem stepL {N:Nat} (hN:Big N) (a0:List Int) {l:List Command} {S:Nat→St} {R:Nat→Reply} (h:Run N l S R) (hc:∀c∈l,CmdOK c) (hl:l.length≤100) (k v:ByteArray) (t:Int) (lv:List ByteArray) (kd:List Branch) (ss:List Session) {i:Nat} (hi:i<l.length) (rec:laws_FnLedger.A12→Option Bool) :
    laws_FnLedger.step12 N a0 rec (.s1 ((S i).lv.length:Int) (i:Int) l k v t lv kd ss (rps R l.length) (rps R l.length) (S i).b.Key (S i).b.Value (S i).b.At (S i).lv (S i).b.Kids (S i).ss)=rec (.s1 ((S (i+1)).lv.length:Int) ((i+1:Nat):Int) l k v t lv kd ss (rps R l.length) (rps R l.length) (S (i+1)).b.Key (S (i+1)).b.Value (S (i+1)).b.At (S (i+1)).lv (S (i+1)).b.Kids (S (i+1)).ss)∨
    laws_FnLedger.step12 N a0 rec (.s1 ((S i).lv.length:Int) (i:Int) l k v t lv kd ss (rps R l.length) (rps R l.length) (S i).b.Key (S i).b.Value (S i).b.At (S i).lv (S i).b.Kids (S i).ss)=rec (.s2 ((S (i+1)).lv.length:Int) ((i+1:Nat):Int) l k v t lv kd ss (rps R l.length) (rps R l.length) (S (i+1)).b.Key (S (i+1)).b.Value (S (i+1)).b.At (S (i+1)).lv (S (i+1)).b.Kids (S (i+1)).ss):=by
  have hcc:=hc _ (List.getElem_mem hi)
  have st:=h.stp i hi
  have inv':=h.inv (i+1) (by omega)
  have ap:=applyI hN (h.inv i (by omega)) hcc st
  have sm:=inv'.same hN
  have wi:w64 ((i:Int)+1)=((i+1:Nat):Int):=w_up i 1048576 (by omega) (by omega)
  have hlv:=(h.inv i (by omega)).lv
  have wl:w64 (((S i).lv.length:Int)+1)=(((S i).lv.length+1:Nat):Int):=w_up _ 1048576 (by omega) (by omega)
  have sf:∀x:Int,(x==x)=true:=fun x=>beq_self_eq_true x
  have sn:((0:Int) != 0)=false:=rfl
  simp only [laws_FnLedger.step12,brEta,lt_dec hi,nn_dec,rps_len,Int.toNat_natCast,getD_at hi,rps_at R hi,ap,ob_some,cond_true,cond_false,sf,seq_self,Bool.and_self,Bool.not_true,sn,wi,wl]
  have ag:=fun (h4:l[i].Kind<4) (hr:(R i).Kind=1∨(R i).Kind=2∨(R i).Kind=6)=>againI hN inv' hcc (st.again h4 hr)
  rcases st.more with e | ⟨e,k1,k2⟩
  · have hlen:(S (i+1)).lv.length=(S i).lv.length:=by rw [e]
    have e1:decide (((S (i+1)).lv.length:Int) > ((S i).lv.length:Int))=false:=decide_eq_false (by omega)
    have e2:(((S (i+1)).lv.length:Int) != ((S i).lv.length:Int))=false:=by rw [bne_eq_false_iff_eq];omega
    simp only [e1,e2,cond_false]
    rw [hlen]
    by_cases h4:l[i].Kind<4
    · by_cases r1:(R i).Kind=1
      · simp only [decide_eq_true h4,cond_true,ag h4 (.inl r1),sm,ob_some,r1,sf,seq_self,Bool.and_self,Bool.not_true,sn,cond_false]
        first | exact .inl rfl | exact .inl trivial
      · have b1:((R i).Kind==(1:Int))=false:=beq_eq_false_iff_ne.2 r1
        by_cases r2:(R i).Kind=2
        · simp only [decide_eq_true h4,cond_true,ag h4 (.inr (.inl r2)),sm,ob_some,b1,r2,sf,seq_self,Bool.and_self,Bool.not_true,sn,cond_false]
          first | exact .inl rfl | exact .inl trivial
        · have b2:((R i).Kind==(2:Int))=false:=beq_eq_false_iff_ne.2 r2
          by_cases r6:(R i).Kind=6
          · simp only [decide_eq_true h4,cond_true,ag h4 (.inr (.inr r6)),sm,ob_some,b1,b2,r6,sf,seq_self,Bool.and_self,Bool.not_true,sn,cond_false]
            first | exact .inl rfl | exact .inl trivial
          · have b6:((R i).Kind==(6:Int))=false:=beq_eq_false_iff_ne.2 r6
            simp only [decide_eq_true h4,cond_true,b1,b2,b6,cond_false]
            first | exact .inr rfl | exact .inr trivial
    · simp only [decide_eq_false h4,cond_false]
      first | exact .inr rfl | exact .inr trivial
  · have hlen:(S (i+1)).lv.length=(S i).lv.length+1:=by rw [e];simp
    have e1:decide (((S (i+1)).lv.length:Int) > ((S i).lv.length:Int))=true:=decide_eq_true (by omega)
    have e2:(((S (i+1)).lv.length:Int) != (((S i).lv.length+1:Nat):Int))=false:=by rw [bne_eq_false_iff_eq];omega
    have e3:((R i).Place != (((S i).lv.length+1:Nat):Int))=false:=by
      rw [bne_eq_false_iff_eq,k2];simp
    have e4:((R i).Kind != (1:Int))=false:=by rw [bne_eq_false_iff_eq,k1]
    have b1:((R i).Kind==(1:Int))=true:=by rw [k1];rfl
    simp only [e1,e2,e3,e4,cond_false,cond_true]
    rw [hlen]
    by_cases h4:l[i].Kind<4
    · simp only [decide_eq_true h4,cond_true,ag h4 (.inl k1),sm,ob_some,b1,sf,seq_self,Bool.and_self,Bool.not_true,sn,cond_false]
      first | exact .inl rfl | exact .inl trivial
    · simp only [decide_eq_false h4,cond_false]
      first | exact .inr rfl | exact .inr trivial
def ixA:laws_FnLedger.A12→Int
  | .s0 _ v _ _ _ _ _ _ _ _ _ _ _ _=>v
  | .s1 _ v _ _ _ _ _ _ _ _ _ _ _ _ _ _ _=>v
  | .s2 _ v _ _ _ _ _ _ _ _ _ _ _ _ _ _ _=>v
theorem pureFnLedger (a0:List Int) (h0:∃n,WfE E (WfA E n) (.slice 5 (.int .u8)) a0):∃N,laws_FnLedger.m N a0=some true:=by
  refine ⟨16777216,?_⟩
  have hN:Big 16777216:=Nat.le_refl _
  have b0:=wfBytes h0
  unfold laws_FnLedger.m laws_FnLedger.m0
  by_cases l0:a0.length > 1048576
  · rw [decide_eq_true (show (a0.length:Int) > 1048576 by omega)];rfl
  rw [decide_eq_false (show ¬ (a0.length:Int) > 1048576 by omega),cond_false]
  obtain ⟨l,e1,n1,n2,hc⟩:=commandsS hN a0 (by omega) b0
  rw [e1,ob_some]
  obtain ⟨S,R,run⟩:=run_ex hN l hc
  have inv':=run.inv l.length (Nat.le_refl _)
  rw [implAll hN run (by omega) hc,ob_some,applyAllS hN run (by omega) hc,ob_some]
  simp only [brEta]
  rw [inv'.same hN,inv'.okI hN]
  have sn:((0:Int) != 0)=false:=rfl
  have sl:((l.length:Int) != (l.length:Int))=false:=by rw [bne_eq_false_iff_eq]
  simp only [ob_some,rps_len,sn,sl,cond_false,Bool.not_true]
  unfold laws_FnLedger.lp12
  refine miter_all (p:=fun r=>r=some true) (fun v=>((l.length:Int) - ixA v).toNat) (fun v=>(∃i:Nat,i≤l.length∧(v = .s1 ((S i).lv.length:Int) (i:Int) l (S l.length).b.Key (S l.length).b.Value (S l.length).b.At (S l.length).lv (S l.length).b.Kids (S l.length).ss (rps R l.length) (rps R l.length) (S i).b.Key (S i).b.Value (S i).b.At (S i).lv (S i).b.Kids (S i).ss∨v = .s2 ((S i).lv.length:Int) (i:Int) l (S l.length).b.Key (S l.length).b.Value (S l.length).b.At (S l.length).lv (S l.length).b.Kids (S l.length).ss (rps R l.length) (rps R l.length) (S i).b.Key (S i).b.Value (S i).b.At (S i).lv (S i).b.Kids (S i).ss))∨v = .s0 0 0 l (S l.length).b.Key (S l.length).b.Value (S l.length).b.At (S l.length).lv (S l.length).b.Kids (S l.length).ss (rps R l.length) (rps R l.length) ByteArray.empty ByteArray.empty 0) ?_ _ _ (.inr rfl) (by simp only [ixA];omega)
  have main:∀(i:Nat) (hi:i≤l.length) (rec:laws_FnLedger.A12→Option Bool),(∀b,((∃j:Nat,j≤l.length∧(b = .s1 ((S j).lv.length:Int) (j:Int) l (S l.length).b.Key (S l.length).b.Value (S l.length).b.At (S l.length).lv (S l.length).b.Kids (S l.length).ss (rps R l.length) (rps R l.length) (S j).b.Key (S j).b.Value (S j).b.At (S j).lv (S j).b.Kids (S j).ss∨b = .s2 ((S j).lv.length:Int) (j:Int) l (S l.length).b.Key (S l.length).b.Value (S l.length).b.At (S l.length).lv (S l.length).b.Kids (S l.length).ss (rps R l.length) (rps R l.length) (S j).b.Key (S j).b.Value (S j).b.At (S j).lv (S j).b.Kids (S j).ss))∨b = .s0 0 0 l (S l.length).b.Key (S l.length).b.Value (S l.length).b.At (S l.length).lv (S l.length).b.Kids (S l.length).ss (rps R l.length) (rps R l.length) ByteArray.empty ByteArray.empty 0)→((l.length:Int) - ixA b).toNat<l.length - i→rec b=some true)→
      laws_FnLedger.step12 16777216 a0 rec (.s1 ((S i).lv.length:Int) (i:Int) l (S l.length).b.Key (S l.length).b.Value (S l.length).b.At (S l.length).lv (S l.length).b.Kids (S l.length).ss (rps R l.length) (rps R l.length) (S i).b.Key (S i).b.Value (S i).b.At (S i).lv (S i).b.Kids (S i).ss)=some true:=by
    intro i hi rec hrec
    by_cases hil:i<l.length
    · rcases stepL hN a0 run hc (by omega) (S l.length).b.Key (S l.length).b.Value (S l.length).b.At (S l.length).lv (S l.length).b.Kids (S l.length).ss hil rec with e | e
      · rw [e];exact hrec _ (.inl ⟨i+1,by omega,.inl rfl⟩) (by simp only [ixA];omega)
      · rw [e];exact hrec _ (.inl ⟨i+1,by omega,.inr rfl⟩) (by simp only [ixA];omega)
    · obtain rfl:i=l.length:=by omega
      obtain ⟨r,hr⟩:=inv'.ldRoot hN
      simp only [laws_FnLedger.step12,brEta,ge_dec,cond_false,hr,ob_some,cond_true,seq_self]
      rfl
  rintro v (⟨i,hi,rfl | rfl⟩ | rfl) rec hrec
  · exact main i hi rec (fun b hb hlt=>hrec b hb (show ((l.length:Int) - ixA b).toNat<((l.length:Int) - (i:Int)).toNat by omega))
  · exact main i hi rec (fun b hb hlt=>hrec b hb (show ((l.length:Int) - ixA b).toNat<((l.length:Int) - (i:Int)).toNat by omega))
  · have:=main 0 (Nat.zero_le _) rec (fun b hb hlt=>hrec b hb (show ((l.length:Int) - ixA b).toNat<((l.length:Int) - 0).toNat by omega))
    simp only [run.z] at this
    exact this
end Mir.Y
