/- Pure laws: what the copying, comparing, marking functions compute. -/
import Derived.Test.YtbbkpgpfppnakaaGreatJTM3
import Derived.Test.YtbbkpgpfppnakaaGreatEngC
namespace Mir.Y
set_option linter.unusedVariables false
set_option linter.unusedSimpArgs false
open Go
abbrev Big (N:Nat):Prop:=16777216≤N
theorem roomB {n b:Nat} (h:n≤1048576) (hb:b≤1024):room n b=true:=by
 have:=Nat.mul_le_mul h hb
 simp only [room,decide_eq_true_eq];omega
theorem lt_dec {i n:Nat} (h:i<n):decide ((i:Int)<(n:Int))=true:=decide_eq_true (by omega)
theorem nn_dec (i:Nat):decide (0≤(i:Int))=true:=decide_eq_true (by omega)
theorem ge_dec (n:Nat):decide ((n:Int)<(n:Int))=false:=decide_eq_false (by omega)
theorem toIntS {N:Nat} (hN:Big N) (a:List Int) (h:a.length≤1048576):laws_toIntS.m N a=some a:=by
 unfold laws_toIntS.m laws_toIntS.m0 laws_toIntS.lp3
 simp only [Int.toNat_natCast,roomB h (by omega:8≤1024),Int.natCast_nonneg,decide_true,cond_true]
 exact loop_fill (fun i hi v hv rec=>by
  simp only [laws_toIntS.step3,lt_dec hi,nn_dec,hv,cond_true,Int.toNat_natCast,getD_at hi]
  rw [w_up i _ hi h]) (fun rec=>by simp [laws_toIntS.step3]) (by omega)
theorem eqIntS {N:Nat} (hN:Big N) (a:List Int) (h:a.length≤1048576):laws_eqIntS.m N a a=some true:=by
 unfold laws_eqIntS.m laws_eqIntS.m0 laws_eqIntS.lp4
 simp only [bne_self_eq_false,cond_false]
 exact miter_up (n:=a.length) (st:=fun i=>(i:Int)) (fun i hi rec=>by
  simp only [laws_eqIntS.step4,lt_dec hi,nn_dec,cond_true,Int.toNat_natCast,bne_self_eq_false,cond_false]
  rw [w_up i _ hi h]) (fun rec=>by simp [laws_eqIntS.step4]) a.length 0 N (by omega) (by omega)
def fInt (c:Int) (_:Int):Int×Int:=(w64 (c+1),c)
theorem fInt_count (c x:Int) (h0:0≤c) (h1:c≤8388608):(fInt c x).1=c+1:=w_small (by omega) (by omega)
theorem markIntS {N:Nat} (hN:Big N) (a:List Int) (c:Int) (h:a.length≤1048576):laws_markIntS.m N a c=some (marks fInt c a):=by
 unfold laws_markIntS.m laws_markIntS.m0 laws_markIntS.lp2
 exact loop_mark (f:=fInt) (fun i hi v hv rec=>by
  simp only [laws_markIntS.step2,hv,lt_dec hi,nn_dec,cond_true,Int.toNat_natCast]
  rw [w_up i _ hi h];rfl) (fun rec=>by simp [laws_markIntS.step2,marks_length]) (by omega)
theorem heldIntS {N:Nat} (hN:Big N) (a:List Int) (c:Int) (h:a.length≤1048576):laws_heldIntS.m N (marks fInt c a).2 c=some (marks fInt c a).1:=by
 unfold laws_heldIntS.m laws_heldIntS.m0 laws_heldIntS.lp2
 refine loop_held (f:=fInt) (a:=a) (fun i hi rec hg=>?_) (fun rec=>by simp [laws_heldIntS.step2,marks_length]) (by omega)
 have hl:(marks fInt c a).2.length=a.length:=marks_length
 simp only [laws_heldIntS.step2,hl,lt_dec hi,nn_dec,cond_true,Int.toNat_natCast,List.getD_eq_getElem?_getD,hg,Option.getD_some]
 simp only [fInt,bne_self_eq_false,cond_false]
 rw [w_up i _ hi h]
theorem size_append (a b:ByteArray):(a++b).size=a.size+b.size:=by simp
theorem markText {N:Nat} (hN:Big N) (c:Int) (h:c≤8388616):∃s,laws_markText.m N c=some s:=by
 unfold laws_markText.m laws_markText.m0
 by_cases h0:c≤0
 ·rw [decide_eq_true h0];exact ⟨_,rfl⟩
 ·rw [decide_eq_false h0,cond_false,laws_markText.lp4]
  refine miter_all (p:=fun (r:Option ByteArray)=>∃s,r=some s) (fun q:Int×ByteArray=>q.1.toNat) (fun q=>0≤q.1∧q.1+q.2.size≤8388616) ?_ N (c,ByteArray.empty) ⟨by simp only;omega,by simpa using h⟩ (by simp only;omega)
  rintro ⟨v,s⟩ ⟨hv,hs⟩ rec hrec
  simp only at hv hs
  have one:∀x:Int,(strOf [x]).size=1:=fun x=>rfl
  simp only [laws_markText.step4]
  by_cases hv0:v > 0
  ·have e10:decide ((10:Int)=0)=false:=rfl
   have hq:Int.tdiv v 10=v / 10:=Int.tdiv_eq_ediv_of_nonneg hv
   have hw:w64 (Int.tdiv v 10)=v / 10:=by rw [hq];exact w_small (by omega) (by omega)
   rw [decide_eq_true hv0,cond_true,e10,Bool.not_false,cond_true,one,decide_eq_true (by omega),cond_true,cond_true,hw]
   refine hrec _ ⟨by simp only;omega,?_⟩ (by simp only;omega)
   simp only [size_append,one]
   omega
  ·have e1:(⟨#[109]⟩:ByteArray).size=1:=rfl
   rw [decide_eq_false hv0,cond_false,e1,decide_eq_true (by omega),cond_true]
   exact ⟨_,rfl⟩
noncomputable def txt (N:Nat) (c:Int):ByteArray:=(laws_markText.m N c).getD ByteArray.empty
theorem txt_eq {N:Nat} (hN:Big N) (c:Int) (h:c≤8388616):laws_markText.m N c=some (txt N c):=by
 obtain ⟨s,hs⟩:=markText hN c h
 rw [txt,hs];rfl
theorem toEntryS {N:Nat} (hN:Big N) (a:List Entry) (h:a.length≤1048576):laws_toEntryS.m N a=some a:=by
 unfold laws_toEntryS.m laws_toEntryS.m0 laws_toEntryS.lp3
 simp only [Int.toNat_natCast,roomB h (by omega:32≤1024),Int.natCast_nonneg,decide_true,cond_true]
 exact loop_fill (fun i hi v hv rec=>by
  simp only [laws_toEntryS.step3,laws_toEntry.m,ob_some,lt_dec hi,nn_dec,hv,cond_true,Int.toNat_natCast,getD_at hi]
  rw [w_up i _ hi h]) (fun rec=>by simp [laws_toEntryS.step3]) (by omega)
theorem eqEntry (N:Nat) (x:Entry):laws_eqEntry.m N x x=some true:=by simp [laws_eqEntry.m,seq_self]
theorem eqEntryS {N:Nat} (hN:Big N) (a:List Entry) (h:a.length≤1048576):laws_eqEntryS.m N a a=some true:=by
 unfold laws_eqEntryS.m laws_eqEntryS.m0 laws_eqEntryS.lp4
 simp only [bne_self_eq_false,cond_false]
 exact miter_up (n:=a.length) (st:=fun i=>(i:Int)) (fun i hi rec=>by
  simp only [laws_eqEntryS.step4,lt_dec hi,nn_dec,cond_true,Int.toNat_natCast,eqEntry,ob_some,Bool.not_true,cond_false]
  rw [w_up i _ hi h]) (fun rec=>by simp [laws_eqEntryS.step4]) a.length 0 N (by omega) (by omega)
noncomputable def fEnt (N:Nat) (c:Int) (_:Entry):Int×Entry:=(w64 (w64 (w64 (c+1)+1)+1),⟨c,w64 (c+1),txt N (w64 (w64 (c+1)+1))⟩)
theorem fEnt_count (N:Nat) (c:Int) (x:Entry) (h0:0≤c) (h1:c≤8388608):(fEnt N c x).1=c+3:=by
 simp only [fEnt]
 rw [w_small (x:=c+1) (by omega) (by omega),w_small (x:=c+1+1) (by omega) (by omega),w_small (by omega) (by omega)];omega
theorem fEnt_txt {c:Int} (h0:0≤c) (h1:c≤8388608):w64 (w64 (c+1)+1)≤8388616:=by
 rw [w_small (x:=c+1) (by omega) (by omega),w_small (by omega) (by omega)];omega
theorem count_take {X:Type} {f:Int→X→Int×X} {d:Int} (h:∀c x,0≤c→c≤8388608→(f c x).1=c+d) (hd:0≤d) (hd4:d≤16) {c:Int} {a:List X} (h0:0≤c) (hb:c+d * a.length≤8388608) (i:Nat):0≤(marks f c (a.take i)).1∧(marks f c (a.take i)).1≤8388608:=by
 have hl:d * ((a.take i).length:Int)≤d * (a.length:Int):=Int.mul_le_mul_of_nonneg_left (by simp;omega) hd
 have hm:0≤d * ((a.take i).length:Int):=Int.mul_nonneg hd (by omega)
 rw [marks_count h hd hd4 h0 (by omega)]
 omega
theorem markEntryS {N:Nat} (hN:Big N) (a:List Entry) (c:Int) (h:a.length≤1048576) (h0:0≤c) (hb:c+3 * a.length≤8388608):laws_markEntryS.m N a c=some (marks (fEnt N) c a):=by
 unfold laws_markEntryS.m laws_markEntryS.m0 laws_markEntryS.lp2
 exact loop_mark (f:=fEnt N) (fun i hi v hv rec=>by
  obtain ⟨k0,k1⟩:=count_take (fEnt_count N) (by omega) (by omega) h0 hb i
  have hi':i<v.length:=by omega
  simp only [laws_markEntryS.step2,hv,lt_dec hi,nn_dec,cond_true,Int.toNat_natCast,List.length_set,txt_eq hN _ (fEnt_txt k0 k1),ob_some,List.set_set,getD_at hi',List.getD_eq_getElem?_getD,List.getElem?_set_self hi',Option.getD_some]
  rw [w_up i _ hi h];rfl) (fun rec=>by simp [laws_markEntryS.step2,marks_length]) (by omega)
theorem heldEntryS {N:Nat} (hN:Big N) (a:List Entry) (c:Int) (h:a.length≤1048576) (h0:0≤c) (hb:c+3 * a.length≤8388608):laws_heldEntryS.m N (marks (fEnt N) c a).2 c=some (marks (fEnt N) c a).1:=by
 unfold laws_heldEntryS.m laws_heldEntryS.m0 laws_heldEntryS.lp2
 refine loop_held (f:=fEnt N) (a:=a) (fun i hi rec hg=>?_) (fun rec=>by simp [laws_heldEntryS.step2,marks_length]) (by omega)
 obtain ⟨k0,k1⟩:=count_take (fEnt_count N) (by omega) (by omega) h0 hb i
 have hl:(marks (fEnt N) c a).2.length=a.length:=marks_length
 simp only [laws_heldEntryS.step2,hl,lt_dec hi,nn_dec,cond_true,Int.toNat_natCast,List.getD_eq_getElem?_getD,hg,Option.getD_some]
 simp only [fEnt,bne_self_eq_false,cond_false,txt_eq hN _ (fEnt_txt k0 k1),ob_some,seq_self,Bool.not_true]
 rw [w_up i _ hi h]
structure NodeSz (x:Node) (n:Nat):Prop where
 Log:x.Log.length≤n
 Start:x.Start.length≤n
 Votes:x.Votes.length≤n
 Next:x.Next.length≤n
 Match:x.Match.length≤n
theorem toNode {N:Nat} (hN:Big N) (x:Node) (h:NodeSz x 1048576):laws_toNode.m N x=some x:=by
 unfold laws_toNode.m
 rw [toEntryS hN _ h.Log,ob_some,toIntS hN _ h.Start,ob_some,toIntS hN _ h.Votes,ob_some,toIntS hN _ h.Next,ob_some,toIntS hN _ h.Match]
 rfl
theorem eqNode {N:Nat} (hN:Big N) (x:Node) (h:NodeSz x 1048576):laws_eqNode.m N x x=some true:=by
 unfold laws_eqNode.m
 simp [eqEntryS hN _ h.Log,eqIntS hN _ h.Start,eqIntS hN _ h.Votes,eqIntS hN _ h.Next,eqIntS hN _ h.Match]
theorem markNode {N:Nat} (hN:Big N) (x:Node) (c:Int) (h:NodeSz x 1048576) (h0:0≤c) (hc:c≤1000000):∃k y,laws_markNode.m N x c=some (k,y)∧NodeSz y 1048576∧laws_heldNode.m N y c=some k∧c≤k∧k≤c+7340032∧
  y.Id=x.Id∧y.Term=x.Term∧y.Vote=x.Vote∧y.Role=x.Role∧y.Commit=x.Commit∧y.Elapsed=x.Elapsed∧y.Wait=x.Wait∧y.Up=x.Up:=by
 have cnt:∀ {k:Int} {a:List Int},0≤k→k≤7340032→a.length≤1048576→(marks fInt k a).1=k+a.length:=fun hk hk2 ha=>by
  rw [marks_count fInt_count (by omega) (by omega) hk (by omega)];omega
 have cE:(marks (fEnt N) c x.Log).1=c+3 * x.Log.length:=marks_count (fEnt_count N) (by omega) (by omega) h0 (by have:=h.Log;omega)
 obtain ⟨l1,l2,l3,l4,l5⟩:=h
 obtain ⟨Id,Term,Vote,Log,Start,Role,Votes,Next,Match,Commit,Elapsed,Wait,Up⟩:=x
 simp only at l1 l2 l3 l4 l5 cE
 let k1:=(marks (fEnt N) c Log).1
 have e1:k1=c+3 * Log.length:=cE
 let k2:=(marks fInt k1 Start).1
 have e2:k2=k1+Start.length:=cnt (by omega) (by omega) l2
 let k3:=(marks fInt k2 Votes).1
 have e3:k3=k2+Votes.length:=cnt (by omega) (by omega) l3
 let k4:=(marks fInt k3 Next).1
 have e4:k4=k3+Next.length:=cnt (by omega) (by omega) l4
 let k5:=(marks fInt k4 Match).1
 have e5:k5=k4+Match.length:=cnt (by omega) (by omega) l5
 refine ⟨k5,⟨Id,Term,Vote,(marks (fEnt N) c Log).2,(marks fInt k1 Start).2,Role,(marks fInt k2 Votes).2,(marks fInt k3 Next).2,(marks fInt k4 Match).2,Commit,Elapsed,Wait,Up⟩,?_,?_,?_,by omega,by omega,rfl,rfl,rfl,rfl,rfl,rfl,rfl,rfl⟩
 ·unfold laws_markNode.m
  simp only [markEntryS hN Log c l1 h0 (by omega),ob_some,markIntS hN _ _ l2,markIntS hN _ _ l3,markIntS hN _ _ l4,markIntS hN _ _ l5]
  rfl
 ·exact ⟨by simpa [marks_length] using l1,by simpa [marks_length] using l2,by simpa [marks_length] using l3,by simpa [marks_length] using l4,by simpa [marks_length] using l5⟩
 ·unfold laws_heldNode.m
  have p1:decide (k1<0)=false:=decide_eq_false (by omega)
  have p2:decide (k2<0)=false:=decide_eq_false (by omega)
  have p3:decide (k3<0)=false:=decide_eq_false (by omega)
  have p4:decide (k4<0)=false:=decide_eq_false (by omega)
  have p5:decide (k5<0)=false:=decide_eq_false (by omega)
  rw [heldEntryS hN Log c l1 h0 (by omega),ob_some,p1,cond_false]
  rw [heldIntS hN Start k1 l2,ob_some,p2,cond_false]
  rw [heldIntS hN Votes k2 l3,ob_some,p3,cond_false]
  rw [heldIntS hN Next k3 l4,ob_some,p4,cond_false]
  rw [heldIntS hN Match k4 l5,ob_some,p5,cond_false]
end Mir.Y
