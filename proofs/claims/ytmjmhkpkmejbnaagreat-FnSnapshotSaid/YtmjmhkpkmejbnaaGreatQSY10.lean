/- FnSnapshot. -/
import Derived.Test.YtmjmhkpkmejbnaaGreatQSY9
namespace Mir.Y
set_option linter.unusedVariables false
set_option linter.unusedSimpArgs false
open Go
set_option linter.unusedSectionVars false
variable [UU]
theorem take_snoc {α:Type} (l:List α) (i:Nat) (h:i<l.length):l.take i++[l[i]]=l.take (i+1):=by
 rw [List.take_add_one,List.getElem?_eq_getElem h];rfl
theorem flat_at {α:Type} (g:α→List Int) (l:List α) (i:Nat) (h:i<l.length):(l.drop i).flatMap g=g l[i]++(l.drop (i+1)).flatMap g:=by
 rw [List.drop_eq_getElem_cons h,List.flatMap_cons]
theorem room48 {n:Nat} (h:n≤2000):room n 48=true:=roomSe h
theorem rd17 {N:Nat} (hN:Big N) (a0:ByteArray) {s:St} (h:InvS s):impl_readSnapshot.lp17 N a0 (.s7 1 ByteArray.empty ByteArray.empty 0 (strOf []) false s.lv (s.L.map prO) s.ss)=some (s.led,true):=by
 unfold impl_readSnapshot.lp17
 have hll:=h.ll
 refine miter_up (step:=fun rec=>impl_readSnapshot.step17 N a0 rec) (n:=s.L.length - 1) (st:=fun i=>.s7 ((i+1:Nat):Int) ByteArray.empty ByteArray.empty 0 (strOf []) false s.lv (s.L.map prO) s.ss) (fun i hi rec=>?_) (fun rec=>?_) (s.L.length - 1) 0 N (by omega) (by omega)
 ·have hi1:i<s.L.length:=by omega
  have hi2:i+1<s.L.length:=by omega
  have e1:w64 (((i+1:Nat):Int) - 1)=(i:Int):=w_dn (i+1) (by omega) (by omega)
  have hs:=List.pairwise_iff_getElem.1 h.mq.srt i (i+1) hi1 hi2 (by omega)
  have e2:slt (prO s.L[i]).hash (prO s.L[i+1]).hash=true:=slt_of (hb_size _) (hb_size _) hs
  simp only [impl_readSnapshot.step17]
  rw [List.length_map,lt_dec hi2,e1,nn_dec,lt_dec hi1,nn_dec,Int.toNat_natCast,Int.toNat_natCast,prO_at hi1,prO_at hi2,e2,w_up (i+1) 1048576 (by omega) (by omega)]
  rfl
 ·simp only [impl_readSnapshot.step17]
  rw [List.length_map,decide_eq_false (show ¬ (((s.L.length - 1+1:Nat):Int)<(s.L.length:Int)) by omega),show strOf []=ByteArray.empty from rfl,seq_self,h.ledger hN]
  simp only [cond_false,Bool.not_true,ob_some,brEta]
  rw [h.okI hN,ob_some]
theorem rd13 {N:Nat} (hN:Big N) (a0:ByteArray) {s:St} (h:InvS s):impl_readSnapshot.lp13 N a0 (.s7 (s.ss.length:Int) 0 ByteArray.empty ByteArray.empty 0 (strOf (s.ss.flatMap gS)) false s.lv (s.L.map prO) [])=some (s.led,true):=by
 unfold impl_readSnapshot.lp13
 have hsl:=h.sl
 have hup:=miter_up (step:=fun rec=>impl_readSnapshot.step13 N a0 (impl_readSnapshot.lp17 N a0) rec) (n:=s.ss.length) (st:=fun i=>.s7 (s.ss.length:Int) (i:Int) ByteArray.empty ByteArray.empty 0 (strOf ((s.ss.drop i).flatMap gS)) false s.lv (s.L.map prO) (s.ss.take i)) (r:=some (s.led,true)) (fun i hi rec=>by
  simp only [impl_readSnapshot.step13]
  have hr:=sesR hN (h.so _ (List.getElem_mem hi)) ((s.ss.drop (i+1)).flatMap gS)
  rw [lt_dec hi,flat_at gS s.ss i hi,hr]
  simp only [ob_some,cond_true]
  rw [room48 (by rw [List.length_take];simp;omega),w_up i 1048576 (by omega) (by omega)]
  simp only [cond_true]
  rw [sesEta,take_snoc s.ss i hi]) (fun rec=>by
  simp only [impl_readSnapshot.step13]
  rw [ge_dec,cond_false,List.drop_length,List.take_length]
  exact rd17 hN a0 h) s.ss.length 0 N (by omega) (by omega)
 exact hup
theorem rd7 {N:Nat} (hN:Big N) (a0:ByteArray) {s:St} (h:InvS s):impl_readSnapshot.lp7 N a0 (.s3 (s.L.length:Int) 0 ByteArray.empty ByteArray.empty 0 (strOf (s.L.flatMap gP++([wu8 (s.ss.length:Int)]++s.ss.flatMap gS))) false s.lv [])=some (s.led,true):=by
 unfold impl_readSnapshot.lp7
 have hll:=h.ll
 have hsl:=h.sl
 have hup:=miter_up (step:=fun rec=>impl_readSnapshot.step7 N a0 (impl_readSnapshot.lp13 N a0) rec) (n:=s.L.length) (st:=fun i=>.s3 (s.L.length:Int) (i:Int) ByteArray.empty ByteArray.empty 0 (strOf ((s.L.drop i).flatMap gP++([wu8 (s.ss.length:Int)]++s.ss.flatMap gS))) false s.lv ((s.L.take i).map prO)) (r:=some (s.led,true)) (fun i hi rec=>by
  simp only [impl_readSnapshot.step7]
  have hg:=h.mq.good _ (List.getElem_mem hi)
  have hks:=hg.2.1.2
  have hvs:=hg.2.2.1
  have e:(s.L.drop i).flatMap gP++([wu8 (s.ss.length:Int)]++s.ss.flatMap gS)=[wu8 (s.L[i].Key.size:Int)]++(bytesOf s.L[i].Key++([wu8 (s.L[i].Value.size:Int)]++(bytesOf s.L[i].Value++((s.L.drop (i+1)).flatMap gP++([wu8 (s.ss.length:Int)]++s.ss.flatMap gS))))):=by
   rw [flat_at gP s.L i hi];simp [gP]
  have r1:=cntR hN (s:=s.L[i].Key) (by omega) ([wu8 (s.L[i].Value.size:Int)]++(bytesOf s.L[i].Value++((s.L.drop (i+1)).flatMap gP++([wu8 (s.ss.length:Int)]++s.ss.flatMap gS))))
  have r2:=cntR hN (s:=s.L[i].Value) (by omega) ((s.L.drop (i+1)).flatMap gP++([wu8 (s.ss.length:Int)]++s.ss.flatMap gS))
  rw [lt_dec hi,e,r1]
  simp only [ob_some,cond_true]
  rw [r2]
  simp only [ob_some]
  rw [implHash hN _ (by omega)]
  simp only [ob_some]
  rw [room48 (by rw [List.length_map,List.length_take];simp;omega),w_up i 1048576 (by omega) (by omega)]
  simp only [cond_true]
  rw [← take_snoc s.L i hi,List.map_append]
  rfl) (fun rec=>by
  simp only [impl_readSnapshot.step7]
  have r1:=num1R hN (k:=s.ss.length) (by omega) (s.ss.flatMap gS)
  rw [ge_dec,cond_false,List.drop_length,List.take_length,List.flatMap_nil,List.nil_append,r1]
  simp only [ob_some]
  have:=rd13 hN a0 h
  exact (RS.full13 N a0 N (.s4 (s.ss.length:Int) 0 ByteArray.empty ByteArray.empty 0 (strOf (s.ss.flatMap gS)) false s.lv (s.L.map prO))).trans this) s.L.length 0 N (by omega) (by omega)
 exact hup
theorem rd3 {N:Nat} (hN:Big N) (a0:ByteArray) {s:St} (h:InvS s):impl_readSnapshot.lp3 N a0 (.s1 (s.lv.length:Int) 0 ByteArray.empty ByteArray.empty 0 (strOf (s.lv.flatMap bytesOf++([wu8 (s.L.length:Int)]++(s.L.flatMap gP++([wu8 (s.ss.length:Int)]++s.ss.flatMap gS))))) false [])=some (s.led,true):=by
 unfold impl_readSnapshot.lp3
 have hlv:=h.lv
 have hll:=h.ll
 have hup:=miter_up (step:=fun rec=>impl_readSnapshot.step3 N a0 (impl_readSnapshot.lp7 N a0) rec) (n:=s.lv.length) (st:=fun i=>.s1 (s.lv.length:Int) (i:Int) ByteArray.empty ByteArray.empty 0 (strOf ((s.lv.drop i).flatMap bytesOf++([wu8 (s.L.length:Int)]++(s.L.flatMap gP++([wu8 (s.ss.length:Int)]++s.ss.flatMap gS))))) false (s.lv.take i)) (r:=some (s.led,true)) (fun i hi rec=>by
  simp only [impl_readSnapshot.step3]
  have h32:=h.lh _ (List.getElem_mem hi)
  have r1:=takeR N (bytesOf s.lv[i]) ((s.lv.drop (i+1)).flatMap bytesOf++([wu8 (s.L.length:Int)]++(s.L.flatMap gP++([wu8 (s.ss.length:Int)]++s.ss.flatMap gS))))
  rw [bytesOf_length,h32,show (((32:Nat)):Int)=32 from rfl] at r1
  rw [lt_dec hi,flat_at bytesOf s.lv i hi,List.append_assoc,r1]
  simp only [ob_some,cond_true]
  rw [strOf_bytesOf,room16 (by rw [List.length_take];simp;omega),w_up i 1048576 (by omega) (by omega)]
  simp only [cond_true]
  rw [take_snoc s.lv i hi]) (fun rec=>by
  simp only [impl_readSnapshot.step3]
  have r1:=num1R hN (k:=s.L.length) (by omega) (s.L.flatMap gP++([wu8 (s.ss.length:Int)]++s.ss.flatMap gS))
  rw [ge_dec,cond_false,List.drop_length,List.take_length,List.flatMap_nil,List.nil_append,r1]
  simp only [ob_some]
  exact (RS.full7 N a0 N (.s1 (s.L.length:Int) 0 ByteArray.empty ByteArray.empty 0 (strOf (s.L.flatMap gP++([wu8 (s.ss.length:Int)]++s.ss.flatMap gS))) false s.lv)).trans (rd7 hN a0 h)) s.lv.length 0 N (by omega) (by omega)
 exact hup
theorem InvS.ls {s:St} (h:InvS s):lsOf 257 s.b=s.L:=by
 unfold lsOf
 rcases h.mq.em with ⟨e,hL⟩ | ⟨e,_,hL⟩
 ·rw [e,hL];rfl
 ·rw [e,hL];rfl
theorem InvS.snapE {s:St} (h:InvS s):snap 257 s.led=[wu8 (s.lv.length:Int)]++(s.lv.flatMap bytesOf++([wu8 (s.L.length:Int)]++(s.L.flatMap gP++([wu8 (s.ss.length:Int)]++s.ss.flatMap gS)))):=by
 show snC s.lv (lsOf 257 s.b) s.ss s.ss.length=_
 rw [h.ls]
 simp only [snC,snB,snA,List.take_length,List.append_assoc]
theorem readSn {N:Nat} (hN:Big N) {s:St} (h:InvS s):impl_ReadSnapshot.m N (snap 257 s.led)=some (s.led,0):=by
 unfold impl_ReadSnapshot.m
 have hlen:(snap 257 s.led).length≤5579:=snC_len (ledSn h.ledB).2 _
 rw [decide_eq_false (show ¬ (((snap 257 s.led).length:Int) > 65536) by omega),cond_false]
 unfold impl_readSnapshot.m impl_readSnapshot.m0
 have r1:=num1R hN (k:=s.lv.length) (by have:=h.lv;omega) (s.lv.flatMap bytesOf++([wu8 (s.L.length:Int)]++(s.L.flatMap gP++([wu8 (s.ss.length:Int)]++s.ss.flatMap gS))))
 have e:ob (impl_reader_number.m N (reader.mk (strOf (snap 257 s.led)) false) 1) (fun y1=>impl_readSnapshot.lp3 N (strOf (snap 257 s.led)) (.s0 y1.1 0 ByteArray.empty ByteArray.empty 0 y1.2.s y1.2.bad))=some (s.led,true):=by
  have r1':impl_reader_number.m N (reader.mk (strOf (snap 257 s.led)) false) 1=some ((s.lv.length:Int),rdq (s.lv.flatMap bytesOf++([wu8 (s.L.length:Int)]++(s.L.flatMap gP++([wu8 (s.ss.length:Int)]++s.ss.flatMap gS))))):=by rw [h.snapE];exact r1
  rw [r1',ob_some]
  exact (RS.full3 N _ N (.s0 (s.lv.length:Int) 0 ByteArray.empty ByteArray.empty 0 (strOf (s.lv.flatMap bytesOf++([wu8 (s.L.length:Int)]++(s.L.flatMap gP++([wu8 (s.ss.length:Int)]++s.ss.flatMap gS))))) false)).trans (rd3 hN _ h)
 rw [e,ob_some]
 simp only [Bool.not_true,cond_false,brEta]
theorem pureFnSnapshot (a0 a1:List Int) (h0:∃n,WfE E (WfA E n) (.slice 5 (.int .u8)) a0) (h1:∃n,WfE E (WfA E n) (.slice 5 (.int .u8)) a1):∃N,laws_FnSnapshot.m N a0 a1=some true:=by
 refine ⟨16777216,?_⟩
 have hN:Big 16777216:=Nat.le_refl _
 have b0:=wfBytes h0
 have b1:=wfBytes h1
 unfold laws_FnSnapshot.m
 by_cases l0:a0.length > 1048576
 ·rw [decide_eq_true (show (a0.length:Int) > 1048576 by omega)];rfl
 rw [decide_eq_false (show ¬ (a0.length:Int) > 1048576 by omega),cond_false]
 by_cases l1:a1.length > 1048576
 ·rw [decide_eq_true (show (a1.length:Int) > 1048576 by omega)];rfl
 rw [decide_eq_false (show ¬ (a1.length:Int) > 1048576 by omega)]
 simp only [cond_false]
 obtain ⟨l,e1,n1,n2,hc⟩:=commandsS hN a0 (by omega) b0
 rw [e1,ob_some]
 obtain ⟨S,R,run⟩:=run_ex hN l hc
 have inv':=run.inv l.length (Nat.le_refl _)
 have hsn:snR 257 (S l.length).led=(snap 257 (S l.length).led,0):=by unfold snR;rw [inv'.ledB];rfl
 rw [applyAllS hN run (by omega) hc,ob_some]
 simp only [brEta]
 rw [implSB hN (n:=257) (by omega) _ inv'.ok,specSB hN (n:=257) (by omega) _ inv'.ok,hsn]
 simp only [ob_some]
 rw [readSn hN inv']
 have sn:((0:Int) != 0)=false:=rfl
 simp only [ob_some,sn,cond_false,seq_self,Bool.not_true]
 obtain ⟨c,e6,hcc⟩:=commandOfS (N:=16777216) a1 (by omega) b1
 rw [e6]
 simp only [ob_some]
 obtain ⟨r,s',st⟩:=stepB hN _ c inv' hcc
 have ap:=applyI hN inv' hcc st
 obtain ⟨q,hq⟩:=st.inv.ldRoot hN
 simp only [ap,hq,ob_some,brEta]
 simp [seq_self]
end Mir.Y
