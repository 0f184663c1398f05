/- Pure laws: words of 32 bits. -/
import Derived.Test.YtmjmhkpkmejbnaaGreatQSL
namespace Mir.Y
set_option linter.unusedVariables false
set_option linter.unusedSimpArgs false
open Go
set_option linter.unusedSectionVars false
variable [UU]
theorem wrap32 (v:BitVec 32):IntKind.wrap .u32 (v.toNat:Int)=(v.toNat:Int):=by
 have:=v.isLt
 simp only [IntKind.wrap,IntKind.bits,IntKind.signed]
 simp
 omega
theorem or32 (x y:Int):ibit .or .u32 x y=((BitVec.ofInt 32 x ||| BitVec.ofInt 32 y).toNat:Int):=wrap32 (BitVec.ofInt 32 x ||| BitVec.ofInt 32 y)
theorem and32 (x y:Int):ibit .and .u32 x y=((BitVec.ofInt 32 x &&& BitVec.ofInt 32 y).toNat:Int):=wrap32 (BitVec.ofInt 32 x &&& BitVec.ofInt 32 y)
theorem xor32 (x y:Int):ibit .xor .u32 x y=((BitVec.ofInt 32 x ^^^ BitVec.ofInt 32 y).toNat:Int):=wrap32 (BitVec.ofInt 32 x ^^^ BitVec.ofInt 32 y)
theorem of32 (v:BitVec 32):BitVec.ofInt 32 (v.toNat:Int)=v:=by
 apply BitVec.eq_of_toNat_eq
 simp
theorem or_comm32 (x y:Int):ibit .or .u32 x y=ibit .or .u32 y x:=by rw [or32,or32,BitVec.or_comm]
def chI (e f g:Int):Int:=ibit .or .u32 (ibit .and .u32 e f) (ibit .and .u32 (ibit .xor .u32 (if IntKind.signed .u32 then -1 else IntKind.max .u32) e) g)
def chS (e f g:Int):Int:=ibit .xor .u32 (ibit .and .u32 e f) (ibit .and .u32 (ibit .xor .u32 (if IntKind.signed .u32 then -1 else IntKind.max .u32) e) g)
theorem ones32:BitVec.ofInt 32 (if IntKind.signed .u32 then -1 else IntKind.max .u32)=BitVec.allOnes 32:=by decide
theorem ch_eq (e f g:Int):chI e f g=chS e f g:=by
 unfold chI chS
 rw [or32,xor32,and32,and32,xor32,of32,of32,of32,ones32]
 congr 2
 generalize BitVec.ofInt 32 e=a
 generalize BitVec.ofInt 32 f=b
 generalize BitVec.ofInt 32 g=c
 apply BitVec.eq_of_getLsbD_eq
 intro i hi
 simp only [BitVec.getLsbD_or,BitVec.getLsbD_and,BitVec.getLsbD_xor,BitVec.getLsbD_allOnes,hi,decide_true]
 cases a.getLsbD i<;>cases b.getLsbD i<;>cases c.getLsbD i<;>rfl
def mjI (a b c:Int):Int:=ibit .or .u32 (ibit .or .u32 (ibit .and .u32 a b) (ibit .and .u32 a c)) (ibit .and .u32 b c)
def mjS (a b c:Int):Int:=ibit .xor .u32 (ibit .xor .u32 (ibit .and .u32 a b) (ibit .and .u32 a c)) (ibit .and .u32 b c)
theorem mj_eq (a b c:Int):mjI a b c=mjS a b c:=by
 unfold mjI mjS
 rw [or32,xor32,or32,xor32,and32,and32,and32,of32,of32,of32,of32,of32]
 congr 1
 generalize BitVec.ofInt 32 a=x
 generalize BitVec.ofInt 32 b=y
 generalize BitVec.ofInt 32 c=z
 congr 1
 apply BitVec.eq_of_getLsbD_eq
 intro i hi
 simp only [BitVec.getLsbD_or,BitVec.getLsbD_and,BitVec.getLsbD_xor]
 cases x.getLsbD i<;>cases y.getLsbD i<;>cases z.getLsbD i<;>rfl
def tn (x:Int) (n:Nat):Int:=ibit .or .u32 (Int.fdiv x (2 ^ n)) (wu32 (x * 2 ^ (32 - n)))
def tn' (x:Int) (n:Nat):Int:=ibit .or .u32 (wu32 (x * 2 ^ (32 - n))) (Int.fdiv x (2 ^ n))
theorem tn'_eq (x:Int) (n:Nat):tn' x n=tn x n:=or_comm32 _ _
theorem tS2 (N:Nat) (x:Int):spec_l01Turn.m N x 2=some (tn x 2):=by kernel_rfl
theorem tS6 (N:Nat) (x:Int):spec_l01Turn.m N x 6=some (tn x 6):=by kernel_rfl
theorem tS7 (N:Nat) (x:Int):spec_l01Turn.m N x 7=some (tn x 7):=by kernel_rfl
theorem tS11 (N:Nat) (x:Int):spec_l01Turn.m N x 11=some (tn x 11):=by kernel_rfl
theorem tS13 (N:Nat) (x:Int):spec_l01Turn.m N x 13=some (tn x 13):=by kernel_rfl
theorem tS17 (N:Nat) (x:Int):spec_l01Turn.m N x 17=some (tn x 17):=by kernel_rfl
theorem tS18 (N:Nat) (x:Int):spec_l01Turn.m N x 18=some (tn x 18):=by kernel_rfl
theorem tS19 (N:Nat) (x:Int):spec_l01Turn.m N x 19=some (tn x 19):=by kernel_rfl
theorem tS22 (N:Nat) (x:Int):spec_l01Turn.m N x 22=some (tn x 22):=by kernel_rfl
theorem tS25 (N:Nat) (x:Int):spec_l01Turn.m N x 25=some (tn x 25):=by kernel_rfl
theorem tI2 (N:Nat) (x:Int):impl_turned.m N x 2=some (tn x 2):=(by kernel_rfl:_=some (tn' x 2)).trans (congrArg some (tn'_eq x 2))
theorem tI6 (N:Nat) (x:Int):impl_turned.m N x 6=some (tn x 6):=(by kernel_rfl:_=some (tn' x 6)).trans (congrArg some (tn'_eq x 6))
theorem tI7 (N:Nat) (x:Int):impl_turned.m N x 7=some (tn x 7):=(by kernel_rfl:_=some (tn' x 7)).trans (congrArg some (tn'_eq x 7))
theorem tI11 (N:Nat) (x:Int):impl_turned.m N x 11=some (tn x 11):=(by kernel_rfl:_=some (tn' x 11)).trans (congrArg some (tn'_eq x 11))
theorem tI13 (N:Nat) (x:Int):impl_turned.m N x 13=some (tn x 13):=(by kernel_rfl:_=some (tn' x 13)).trans (congrArg some (tn'_eq x 13))
theorem tI17 (N:Nat) (x:Int):impl_turned.m N x 17=some (tn x 17):=(by kernel_rfl:_=some (tn' x 17)).trans (congrArg some (tn'_eq x 17))
theorem tI18 (N:Nat) (x:Int):impl_turned.m N x 18=some (tn x 18):=(by kernel_rfl:_=some (tn' x 18)).trans (congrArg some (tn'_eq x 18))
theorem tI19 (N:Nat) (x:Int):impl_turned.m N x 19=some (tn x 19):=(by kernel_rfl:_=some (tn' x 19)).trans (congrArg some (tn'_eq x 19))
theorem tI22 (N:Nat) (x:Int):impl_turned.m N x 22=some (tn x 22):=(by kernel_rfl:_=some (tn' x 22)).trans (congrArg some (tn'_eq x 22))
theorem tI25 (N:Nat) (x:Int):impl_turned.m N x 25=some (tn x 25):=(by kernel_rfl:_=some (tn' x 25)).trans (congrArg some (tn'_eq x 25))
theorem w4 {i:Nat} (h:i≤262144):w64 ((4:Int) * (i:Int))=((4 * i:Nat):Int):=by
 rw [w_small (by omega) (by omega)];omega
theorem wp1 {n:Nat} (h:n≤1048576):w64 ((n:Int)+1)=((n+1:Nat):Int):=by
 rw [w_small (by omega) (by omega)];omega
theorem wp2 {n:Nat} (h:n≤1048576):w64 ((n:Int)+2)=((n+2:Nat):Int):=by
 rw [w_small (by omega) (by omega)];omega
theorem wp3 {n:Nat} (h:n≤1048576):w64 ((n:Int)+3)=((n+3:Nat):Int):=by
 rw [w_small (by omega) (by omega)];omega
theorem wm {n k:Nat} (hk:k≤n) (h:n≤1048576):w64 ((n:Int) - (k:Int))=((n - k:Nat):Int):=by
 rw [w_small (by omega) (by omega)];omega
def wd (b:Nat→Int) (i:Nat):Int:=ibit .or .u32 (ibit .or .u32 (ibit .or .u32 (wu32 ((wu32 (b (4 * i))) * 2 ^ (min (Int.toNat (24:Int)) 32))) (wu32 ((wu32 (b (4 * i+1))) * 2 ^ (min (Int.toNat (16:Int)) 32)))) (wu32 ((wu32 (b (4 * i+2))) * 2 ^ (min (Int.toNat (8:Int)) 32)))) (wu32 (b (4 * i+3)))
def we (w:List Int) (i:Nat):Int:=wu32 ((wu32 ((wu32 ((w.getD (i - 16) 0)+(ibit .xor .u32 (ibit .xor .u32 (tn (w.getD (i - 15) 0) 7) (tn (w.getD (i - 15) 0) 18)) (Int.fdiv (w.getD (i - 15) 0) (2 ^ (min (Int.toNat (3:Int)) 32))))))+(w.getD (i - 7) 0)))+(ibit .xor .u32 (ibit .xor .u32 (tn (w.getD (i - 2) 0) 17) (tn (w.getD (i - 2) 0) 19)) (Int.fdiv (w.getD (i - 2) 0) (2 ^ (min (Int.toNat (10:Int)) 32)))))
def wl (b:Nat→Int):Nat→List Int
 | 0=>List.replicate 64 0
 | i+1=>(wl b i).set i (if i<16 then wd b i else we (wl b i) i)
theorem wl_length (b:Nat→Int):∀i,(wl b i).length=64
 | 0=>rfl
 | i+1=>by simp [wl,wl_length b i]
theorem specW1 {N:Nat} (hN:Big N) (a0 a1 a2:List Int) (h1:a1.length=64):spec_l01Block.lp2 N a0 a1 a2 (0,List.replicate 64 0)=spec_l01Block.lp6 N a0 a1 a2 (16,wl (fun j=>a1.getD j 0) 16):=by
 unfold spec_l01Block.lp2
 exact miter_up (n:=16) (st:=fun i=>((i:Int),wl (fun j=>a1.getD j 0) i)) (fun i hi rec=>by
  have e1:=w4 (i:=i) (by omega)
  have e2:=wp1 (n:=4 * i) (by omega)
  have e3:=wp2 (n:=4 * i) (by omega)
  have e4:=wp3 (n:=4 * i) (by omega)
  have e5:=w_up i 16 hi (by omega)
  have hl:=wl_length (fun j=>a1.getD j 0) i
  simp only [spec_l01Block.step2,e1,e2,e3,e4,e5,h1,hl,nn_dec,Int.toNat_natCast,cond_true,decide_eq_true (show (i:Int)<16 by omega),decide_eq_true (show ((4 * i:Nat):Int)<((64:Nat):Int) by omega),decide_eq_true (show ((4 * i+1:Nat):Int)<((64:Nat):Int) by omega),decide_eq_true (show ((4 * i+2:Nat):Int)<((64:Nat):Int) by omega),decide_eq_true (show ((4 * i+3:Nat):Int)<((64:Nat):Int) by omega),decide_eq_true (show (i:Int)<((64:Nat):Int) by omega),wl,if_pos hi]
  rfl) (fun rec=>by rfl) 16 0 N (by omega) (by omega)
theorem specW2 {N:Nat} (hN:Big N) (a0 a1 a2:List Int) (b:Nat→Int):spec_l01Block.lp6 N a0 a1 a2 (16,wl b 16)=bif room (([]:List Int).length+a0.length) 4 then spec_l01Block.lp13 N a0 a1 a2 (0,wl b 64,[]++a0) else none:=by
 unfold spec_l01Block.lp6
 exact miter_up (n:=48) (st:=fun j=>(((j+16:Nat):Int),wl b (j+16))) (fun j hj rec=>by
  obtain ⟨i,hi⟩:∃i,i=j+16:=⟨_,rfl⟩
  have hi2:j+1+16=i+1:=by omega
  rw [← hi,hi2]
  have h16:16≤i:=by omega
  have h64:i<64:=by omega
  have hl:=wl_length b i
  have e15:w64 ((i:Int) - 15)=((i - 15:Nat):Int):=wm (k:=15) (by omega) (by omega)
  have e2:w64 ((i:Int) - 2)=((i - 2:Nat):Int):=wm (k:=2) (by omega) (by omega)
  have e16:w64 ((i:Int) - 16)=((i - 16:Nat):Int):=wm (k:=16) (by omega) (by omega)
  have e7:w64 ((i:Int) - 7)=((i - 7:Nat):Int):=wm (k:=7) (by omega) (by omega)
  have e5:=w_up i 64 h64 (by omega)
  simp only [spec_l01Block.step6,e15,e2,e16,e7,e5,hl,nn_dec,Int.toNat_natCast,cond_true,decide_eq_true (show (i:Int)<64 by omega),decide_eq_true (show ((i - 15:Nat):Int)<((64:Nat):Int) by omega),decide_eq_true (show ((i - 2:Nat):Int)<((64:Nat):Int) by omega),decide_eq_true (show ((i - 16:Nat):Int)<((64:Nat):Int) by omega),decide_eq_true (show ((i - 7:Nat):Int)<((64:Nat):Int) by omega),decide_eq_true (show (i:Int)<((64:Nat):Int) by omega),tS7,tS18,tS17,tS19,ob_some]
  have hw:wl b (i+1)=(wl b i).set i (we (wl b i) i):=by simp only [wl,if_neg (show ¬ i<16 by omega)]
  rw [hw]
  rfl) (fun rec=>by rfl) 48 0 N (by omega) (by omega)
theorem implW {N:Nat} (hN:Big N) (s:ByteArray) (hs:s.size=64):impl_wordsOf.m N s=some (wl (fun j=>sb s (j:Int)) 64):=by
 unfold impl_wordsOf.m impl_wordsOf.m0 impl_wordsOf.lp3
 exact miter_up (n:=64) (st:=fun i=>((i:Int),List.replicate 64 (0:Int),wl (fun j=>sb s (j:Int)) i)) (fun i hi rec=>by
  have e5:=w_up i 64 hi (by omega)
  by_cases h16:i<16
  ·have e1:=w4 (i:=i) (by omega)
   have e2:=wp1 (n:=4 * i) (by omega)
   have e3:=wp2 (n:=4 * i) (by omega)
   have e4:=wp3 (n:=4 * i) (by omega)
   simp only [impl_wordsOf.step3,e1,e2,e3,e4,e5,hs,nn_dec,Int.toNat_natCast,cond_true,decide_eq_true (show (i:Int)<64 by omega),decide_eq_true (show (i:Int)<16 by omega),decide_eq_true (show ((4 * i:Nat):Int)<((64:Nat):Int) by omega),decide_eq_true (show ((4 * i+1:Nat):Int)<((64:Nat):Int) by omega),decide_eq_true (show ((4 * i+2:Nat):Int)<((64:Nat):Int) by omega),decide_eq_true (show ((4 * i+3:Nat):Int)<((64:Nat):Int) by omega),wl,if_pos h16]
   rfl
  ·have e15:w64 ((i:Int) - 15)=((i - 15:Nat):Int):=wm (k:=15) (by omega) (by omega)
   have e2:w64 ((i:Int) - 2)=((i - 2:Nat):Int):=wm (k:=2) (by omega) (by omega)
   have e16:w64 ((i:Int) - 16)=((i - 16:Nat):Int):=wm (k:=16) (by omega) (by omega)
   have e7:w64 ((i:Int) - 7)=((i - 7:Nat):Int):=wm (k:=7) (by omega) (by omega)
   simp only [impl_wordsOf.step3,e15,e2,e16,e7,e5,nn_dec,Int.toNat_natCast,cond_true,cond_false,decide_eq_true (show (i:Int)<64 by omega),decide_eq_false (show ¬ (i:Int)<16 by omega),decide_eq_true (show ((i - 15:Nat):Int)<64 by omega),decide_eq_true (show ((i - 2:Nat):Int)<64 by omega),decide_eq_true (show ((i - 16:Nat):Int)<64 by omega),decide_eq_true (show ((i - 7:Nat):Int)<64 by omega),tI7,tI18,tI17,tI19,ob_some]
   have hw:wl (fun j=>sb s (j:Int)) (i+1)=(wl (fun j=>sb s (j:Int)) i).set i (we (wl (fun j=>sb s (j:Int)) i) i):=by simp only [wl,if_neg h16]
   rw [hw]
   rfl) (fun rec=>by rfl) 64 0 N (by omega) (by omega)
def rp (v:List Int) (k w:Int):Int:=wu32 ((wu32 ((wu32 ((wu32 ((v.getD 7 0)+(ibit .xor .u32 (ibit .xor .u32 (tn (v.getD 4 0) 6) (tn (v.getD 4 0) 11)) (tn (v.getD 4 0) 25))))+chS (v.getD 4 0) (v.getD 5 0) (v.getD 6 0)))+k))+w)
def rd (v:List Int) (k w:Int):List Int:=[wu32 (rp v k w+(wu32 ((ibit .xor .u32 (ibit .xor .u32 (tn (v.getD 0 0) 2) (tn (v.getD 0 0) 13)) (tn (v.getD 0 0) 22))+mjS (v.getD 0 0) (v.getD 1 0) (v.getD 2 0)))),v.getD 0 0,v.getD 1 0,v.getD 2 0,wu32 (v.getD 3 0+rp v k w),v.getD 4 0,v.getD 5 0,v.getD 6 0]
def vl (h w k:List Int):Nat→List Int
 | 0=>h
 | i+1=>rd (vl h w k i) (k.getD i 0) (w.getD i 0)
theorem vl_length {h w k:List Int} (hh:h.length=8):∀i,(vl h w k i).length=8
 | 0=>hh
 | _+1=>rfl
theorem specR {N:Nat} (hN:Big N) (h a1 k w:List Int) (hh:h.length=8) (hk:k.length=64) (hw:w.length=64):spec_l01Block.lp13 N h a1 k (0,w,h)=spec_l01Block.lp21 N h a1 k (0,h,vl h w k 64):=by
 unfold spec_l01Block.lp13
 exact miter_up (n:=64) (st:=fun i=>((i:Int),w,vl h w k i)) (fun i hi rec=>by
  have e5:=w_up i 64 hi (by omega)
  have hl:=vl_length (w:=w) (k:=k) hh i
  simp only [spec_l01Block.step13,e5,hl,hk,hw,nn_dec,Int.toNat_natCast,cond_true,decide_eq_true (show (i:Int)<64 by omega),decide_eq_true (show (i:Int)<((64:Nat):Int) by omega),tS2,tS6,tS11,tS13,tS22,tS25,ob_some]
  rfl) (fun rec=>by rfl) 64 0 N (by omega) (by omega)
theorem implR {N:Nat} (hN:Big N) (h k w r8:List Int) (s:ByteArray):impl_blockHash.lp3 N h k s (0,r8,h,w)=impl_blockHash.lp11 N h k s (0,r8,vl h w k 64):=by
 unfold impl_blockHash.lp3
 exact miter_up (n:=64) (st:=fun i=>((i:Int),r8,vl h w k i,w)) (fun i hi rec=>by
  have e5:=w_up i 64 hi (by omega)
  simp only [impl_blockHash.step3,e5,nn_dec,Int.toNat_natCast,cond_true,decide_eq_true (show (i:Int)<64 by omega),tI2,tI6,tI11,tI13,tI22,tI25,ob_some]
  show rec (_,r8,[wu32 (wu32 (wu32 (wu32 (wu32 (_+_)+chI ((vl h w k i).getD 4 0) ((vl h w k i).getD 5 0) ((vl h w k i).getD 6 0))+_)+_)+wu32 (_+mjI ((vl h w k i).getD 0 0) ((vl h w k i).getD 1 0) ((vl h w k i).getD 2 0))),_,_,_,wu32 (_+wu32 (wu32 (wu32 (wu32 (_+_)+chI ((vl h w k i).getD 4 0) ((vl h w k i).getD 5 0) ((vl h w k i).getD 6 0))+_)+_)),_,_,_],w)=_
  rw [ch_eq,mj_eq]
  rfl) (fun rec=>by rfl) 64 0 N (by omega) (by omega)
def adds (h v:List Int):List Int:=[wu32 (h.getD 0 0+v.getD 0 0),wu32 (h.getD 1 0+v.getD 1 0),wu32 (h.getD 2 0+v.getD 2 0),wu32 (h.getD 3 0+v.getD 3 0),wu32 (h.getD 4 0+v.getD 4 0),wu32 (h.getD 5 0+v.getD 5 0),wu32 (h.getD 6 0+v.getD 6 0),wu32 (h.getD 7 0+v.getD 7 0)]
theorem eight {l:List Int} (h:l.length=8):∃a b c d e f g i,l=[a,b,c,d,e,f,g,i]:=by
 match l,h with
 | [a,b,c,d,e,f,g,i],_=>exact ⟨a,b,c,d,e,f,g,i,rfl⟩
theorem specA {N:Nat} (hN:Big N) (h a1 k v:List Int) (hh:h.length=8) (hv:v.length=8):spec_l01Block.lp21 N h a1 k (0,h,v)=some (adds h v):=by
 obtain ⟨M,rfl⟩:∃M,N=M+9:=⟨N - 9,by omega⟩
 obtain ⟨a,b,c,d,e,f,g,i,rfl⟩:=eight hh
 obtain ⟨a',b',c',d',e',f',g',i',rfl⟩:=eight hv
 unfold spec_l01Block.lp21
 kernel_rfl
theorem implA {N:Nat} (hN:Big N) (h k v r8:List Int) (s:ByteArray) (hh:h.length=8) (hv:v.length=8):impl_blockHash.lp11 N h k s (0,r8,v)=some (adds h v):=by
 obtain ⟨M,rfl⟩:∃M,N=M+9:=⟨N - 9,by omega⟩
 obtain ⟨a,b,c,d,e,f,g,i,rfl⟩:=eight hh
 obtain ⟨a',b',c',d',e',f',g',i',rfl⟩:=eight hv
 have:impl_blockHash.lp11 (M+9) [a,b,c,d,e,f,g,i] k s (0,r8,[a',b',c',d',e',f',g',i'])=some [wu32 (a'+a),wu32 (b'+b),wu32 (c'+c),wu32 (d'+d),wu32 (e'+e),wu32 (f'+f),wu32 (g'+g),wu32 (i'+i)]:=by
  unfold impl_blockHash.lp11
  kernel_rfl
 rw [this]
 simp only [adds,Int.add_comm a',Int.add_comm b',Int.add_comm c',Int.add_comm d',Int.add_comm e',Int.add_comm f',Int.add_comm g',Int.add_comm i']
 rfl
def blk (h k:List Int) (b:Nat→Int):List Int:=adds h (vl h (wl b 64) k 64)
theorem specBlk {N:Nat} (hN:Big N) (h a1 k:List Int) (hh:h.length=8) (h1:a1.length=64) (hk:k.length=64):spec_l01Block.m N h a1 k=some (blk h k fun j=>a1.getD j 0):=by
 unfold spec_l01Block.m spec_l01Block.m0
 have e:room 64 4=true:=by decide
 rw [e,specW1 hN h a1 k h1,specW2 hN h a1 k,roomB (by simp [hh]) (by omega),List.nil_append,specR hN h a1 k _ hh hk (wl_length _ _),specA hN h a1 k _ hh (vl_length hh _)]
 rfl
theorem implBlk {N:Nat} (hN:Big N) (h k:List Int) (s:ByteArray) (hh:h.length=8) (hs:s.size=64):impl_blockHash.m N h k s=some (blk h k fun j=>sb s (j:Int)):=by
 unfold impl_blockHash.m impl_blockHash.m0
 rw [implW hN s hs,ob_some,implR hN,implA hN _ _ _ _ _ hh (vl_length hh _)]
 rfl
theorem bytesOf_append (a b:ByteArray):bytesOf (a++b)=bytesOf a++bytesOf b:=by simp only [bytesOf,ByteArray.data_append,Array.toList_append,List.map_append]
theorem bytesOf_length (a:ByteArray):(bytesOf a).length=a.size:=by rw [bytesOf,List.length_map,Array.length_toList];rfl
theorem sb_eq (s:ByteArray) (j:Nat):sb s (j:Int)=(bytesOf s).getD j 0:=by
 simp only [sb,bytesOf,Int.toNat_natCast,List.getD_eq_getElem?_getD,List.getElem?_map]
 cases s.data.toList[j]?<;>rfl
theorem bytesOf_extract (s:ByteArray) (a b:Nat):bytesOf (s.extract a b)=((bytesOf s).drop a).take (b - a):=by
 simp [bytesOf,List.map_take,List.map_drop,List.extract]
theorem strOf_bytes:∀(l:List Int),(∀x∈l,0≤x∧x<256)→bytesOf (strOf l)=l:=by
 intro l h
 simp only [bytesOf,strOf,List.map_map]
 conv=>rhs;rw [← List.map_id l]
 apply List.map_congr_left
 intro x hx
 obtain ⟨h1,h2⟩:=h x hx
 simp only [Function.comp,id]
 have:x.toNat<256:=by omega
 rw [UInt8.toNat_ofNat_of_lt' (by simpa using this)]
 omega
theorem strOf_append (a b:List Int):strOf a++strOf b=strOf (a++b):=by
 apply ByteArray.ext
 simp [strOf]
theorem strOf_size (a:List Int):(strOf a).size=a.length:=by show ((a.map _).toArray).size=_;rw [List.size_toArray,List.length_map]
theorem wu8_range (x:Int):0≤wu8 x∧wu8 x<256:=by
 simp only [wu8,IntKind.wrap,IntKind.bits,IntKind.signed]
 simp
 omega
theorem wu32_range (x:Int):0≤wu32 x∧wu32 x<4294967296:=by
 simp only [wu32,IntKind.wrap,IntKind.bits,IntKind.signed]
 simp
 omega
def f8 (x:Int):Int:=Int.fdiv x (2 ^ (min (Int.toNat (8:Int)) 64))
theorem f8_nat (n:Nat):f8 (n:Int)=((n / 256:Nat):Int):=by
 show Int.fdiv (n:Int) ((256:Nat):Int)=_
 exact (Int.ofNat_fdiv n 256).symm
theorem fdiv_nat (n k:Nat):Int.fdiv (n:Int) ((k:Nat):Int)=((n / k:Nat):Int):=(Int.ofNat_fdiv n k).symm
def d4 (x:Int):List Int:=[wu8 (f8 (f8 (f8 x))),wu8 (f8 (f8 x)),wu8 (f8 x),wu8 x]
def d8 (x:Int):List Int:=[wu8 (f8 (f8 (f8 (f8 (f8 (f8 (f8 x))))))),wu8 (f8 (f8 (f8 (f8 (f8 (f8 x)))))),wu8 (f8 (f8 (f8 (f8 (f8 x))))),wu8 (f8 (f8 (f8 (f8 x)))),wu8 (f8 (f8 (f8 x))),wu8 (f8 (f8 x)),wu8 (f8 x),wu8 x]
theorem number4 {N:Nat} (hN:Big N) (x:Int):impl_number.m N x 4=some (strOf (d4 x)):=by
 obtain ⟨M,rfl⟩:∃M,N=M+9:=⟨N - 9,by omega⟩
 unfold impl_number.m impl_number.m0 impl_number.lp3
 kernel_rfl
theorem number8 {N:Nat} (hN:Big N) (x:Int):impl_number.m N x 8=some (strOf (d8 x)):=by
 obtain ⟨M,rfl⟩:∃M,N=M+9:=⟨N - 9,by omega⟩
 unfold impl_number.m impl_number.m0 impl_number.lp3
 kernel_rfl
theorem number1 {N:Nat} (hN:Big N) (x:Int):impl_number.m N x 1=some (strOf [wu8 x]):=by
 obtain ⟨M,rfl⟩:∃M,N=M+9:=⟨N - 9,by omega⟩
 unfold impl_number.m impl_number.m0 impl_number.lp3
 kernel_rfl
theorem d4_eq (n:Nat):d4 (n:Int)=[wu8 (Int.fdiv n (2 ^ (min (Int.toNat (24:Int)) 32))),wu8 (Int.fdiv n (2 ^ (min (Int.toNat (16:Int)) 32))),wu8 (Int.fdiv n (2 ^ (min (Int.toNat (8:Int)) 32))),wu8 n]:=by
 have e1:Int.fdiv (n:Int) (2 ^ (min (Int.toNat (24:Int)) 32))=((n / 16777216:Nat):Int):=fdiv_nat n 16777216
 have e2:Int.fdiv (n:Int) (2 ^ (min (Int.toNat (16:Int)) 32))=((n / 65536:Nat):Int):=fdiv_nat n 65536
 have e3:Int.fdiv (n:Int) (2 ^ (min (Int.toNat (8:Int)) 32))=((n / 256:Nat):Int):=fdiv_nat n 256
 rw [e1,e2,e3]
 simp only [d4,f8_nat,Nat.div_div_eq_div_mul]
def dD (x:Int) (j:Nat):Int:=wu8 (Int.fdiv x (2 ^ (min (Int.toNat (wu64 (w64 ((8:Int) * (7 - (j:Int)))))) 64)))
theorem d8_eq (n:Nat):d8 (n:Int)=(List.range 8).map (dD n):=by
 have e0:dD n 0=wu8 ((n / 72057594037927936:Nat):Int):=congrArg wu8 (fdiv_nat n 72057594037927936)
 have e1:dD n 1=wu8 ((n / 281474976710656:Nat):Int):=congrArg wu8 (fdiv_nat n 281474976710656)
 have e2:dD n 2=wu8 ((n / 1099511627776:Nat):Int):=congrArg wu8 (fdiv_nat n 1099511627776)
 have e3:dD n 3=wu8 ((n / 4294967296:Nat):Int):=congrArg wu8 (fdiv_nat n 4294967296)
 have e4:dD n 4=wu8 ((n / 16777216:Nat):Int):=congrArg wu8 (fdiv_nat n 16777216)
 have e5:dD n 5=wu8 ((n / 65536:Nat):Int):=congrArg wu8 (fdiv_nat n 65536)
 have e6:dD n 6=wu8 ((n / 256:Nat):Int):=congrArg wu8 (fdiv_nat n 256)
 have e7:dD n 7=wu8 ((n / 1:Nat):Int):=congrArg wu8 (fdiv_nat n 1)
 show d8 (n:Int)=[dD n 0,dD n 1,dD n 2,dD n 3,dD n 4,dD n 5,dD n 6,dD n 7]
 rw [e0,e1,e2,e3,e4,e5,e6,e7]
 simp only [d8,f8_nat,Nat.div_div_eq_div_mul,Nat.div_one]
def zN (n:Nat):Nat:=(119 - n % 64) % 64
def padL (s:ByteArray):List Int:=((bytesOf s++[128])++List.replicate (zN s.size) 0)++(List.range 8).map (dD ((8 * s.size:Nat):Int))
def padN (n:Nat):Nat:=(n+9+zN n) / 64
theorem padL_length (s:ByteArray):(padL s).length=64 * padN s.size:=by
 simp only [padL,List.length_append,bytesOf_length,List.length_cons,List.length_nil,List.length_replicate,List.length_map,List.length_range,padN,zN]
 omega
def ini:List Int:=[1779033703,3144134277,1013904242,2773480762,1359893119,2600822924,528734635,1541459225]
def ks:List Int:=[1116352408,1899447441,3049323471,3921009573,961987163,1508970993,2453635748,2870763221,3624381080,310598401,607225278,1426881987,1925078388,2162078206,2614888103,3248222580,3835390401,4022224774,264347078,604807628,770255983,1249150122,1555081692,1996064986,2554220882,2821834349,2952996808,3210313671,3336571891,3584528711,113926993,338241895,666307205,773529912,1294757372,1396182291,1695183700,1986661051,2177026350,2456956037,2730485921,2820302411,3259730800,3345764771,3516065817,3600352804,4094571909,275423344,430227734,506948616,659060556,883997877,958139571,1322822218,1537002063,1747873779,1955562222,2024104815,2227730452,2361852424,2428436474,2756734187,3204031479,3329325298]
theorem constsS (N:Nat):spec_l01Consts.m N=some ks:=rfl
theorem constsI (N:Nat):impl_roundWords.m N=some ks:=rfl
theorem wordsI (N:Nat):impl_hashWords.m N=some ini:=rfl
def hs (P:List Int):Nat→List Int
 | 0=>ini
 | i+1=>blk (hs P i) ks fun j=>((P.drop (64 * i)).take 64).getD j 0
theorem hs_length (P:List Int):∀i,(hs P i).length=8
 | 0=>rfl
 | _+1=>rfl
def ob4 (x:Int):List Int:=[wu8 (Int.fdiv x (2 ^ (min (Int.toNat (24:Int)) 32))),wu8 (Int.fdiv x (2 ^ (min (Int.toNat (16:Int)) 32))),wu8 (Int.fdiv x (2 ^ (min (Int.toNat (8:Int)) 32))),wu8 x]
def outL (h:List Int):List Int:=ob4 (h.getD 0 0)++ob4 (h.getD 1 0)++ob4 (h.getD 2 0)++ob4 (h.getD 3 0)++ob4 (h.getD 4 0)++ob4 (h.getD 5 0)++ob4 (h.getD 6 0)++ob4 (h.getD 7 0)
def hb (s:ByteArray):ByteArray:=strOf (outL (hs (padL s) (padN s.size)))
theorem hb_size (s:ByteArray):(hb s).size=32:=by rw [hb,strOf_size];rfl
theorem roomS {n:Nat} (h:n≤4194304):room n 1=true:=by simp only [room,decide_eq_true_eq];omega
theorem specHash {N:Nat} (hN:Big N) (s:ByteArray) (h:s.size≤2097152):spec_l01Hash.m N (bytesOf s)=some (hb s):=by
 unfold spec_l01Hash.m spec_l01Hash.m0
 have hlen:=bytesOf_length s
 show (bif room (([]:List Int).length+(bytesOf s).length) 1 then bif room ((([]:List Int)++bytesOf s).length+([128]:List Int).length) 1 then spec_l01Hash.lp3 N (bytesOf s) (ini,([]++bytesOf s)++[128]) else none else none)=_
 rw [List.nil_append,roomS (by simp [hlen];omega),roomS (by simp [hlen];omega),cond_true,cond_true]
 have z1:spec_l01Hash.lp3 N (bytesOf s) (ini,bytesOf s++[128])=spec_l01Hash.lp6 N (bytesOf s) (7,ini,(bytesOf s++[128])++List.replicate (zN s.size) 0):=by
  unfold spec_l01Hash.lp3
  have:=miter_up (step:=fun rec=>spec_l01Hash.step3 N (bytesOf s) (spec_l01Hash.lp6 N (bytesOf s)) rec) (n:=zN s.size) (st:=fun j=>(ini,(bytesOf s++[128])++List.replicate j 0)) (r:=spec_l01Hash.lp6 N (bytesOf s) (7,ini,(bytesOf s++[128])++List.replicate (zN s.size) 0)) (fun j hj rec=>by
   have hl:((bytesOf s++[128])++List.replicate j (0:Int)).length=s.size+1+j:=by simp [hlen];omega
   have hm:((Int.tmod (((bytesOf s++[128])++List.replicate j (0:Int)).length:Int) 64) != 56)=true:=by
    rw [hl,show Int.tmod ((s.size+1+j:Nat):Int) 64=(((s.size+1+j) % 64:Nat):Int) from rfl]
    simp only [zN] at hj
    simp only [bne_iff_ne,ne_eq]
    omega
   simp only [spec_l01Hash.step3,hm,cond_true,show (!decide ((64:Int)=0))=true from rfl]
   rw [roomS (by rw [hl];simp only [zN] at hj;simp;omega),cond_true,List.append_assoc (bytesOf s++[128]),← List.replicate_succ']) (fun rec=>by
   have hl:((bytesOf s++[128])++List.replicate (zN s.size) (0:Int)).length=s.size+1+zN s.size:=by simp [hlen];omega
   have hm:((Int.tmod (((bytesOf s++[128])++List.replicate (zN s.size) (0:Int)).length:Int) 64) != 56)=false:=by
    rw [hl,show Int.tmod ((s.size+1+zN s.size:Nat):Int) 64=(((s.size+1+zN s.size) % 64:Nat):Int) from rfl]
    simp only [zN,bne_eq_false_iff_eq]
    omega
   simp only [spec_l01Hash.step3,hm,cond_true,cond_false,show (!decide ((64:Int)=0))=true from rfl]) (zN s.size) 0 N (by omega) (by simp only [zN];omega)
  simpa using this
 rw [z1]
 have hzz:zN s.size<64:=by simp only [zN];omega
 have z2:spec_l01Hash.lp6 N (bytesOf s) (7,ini,(bytesOf s++[128])++List.replicate (zN s.size) 0)=spec_l01Hash.lp11 N (bytesOf s) (0,ini,padL s,ks):=by
  unfold spec_l01Hash.lp6
  have e8:w64 ((8:Int) * ((bytesOf s).length:Int))=((8 * s.size:Nat):Int):=by rw [hlen,w_small (by omega) (by omega)];omega
  have hneg:∀j,j<8→decide (wu64 (w64 ((8:Int) * (7 - ((j:Nat):Int))))<0)=false:=by decide
  have:=miter_up (step:=fun rec=>spec_l01Hash.step6 N (bytesOf s) (spec_l01Hash.lp11 N (bytesOf s)) rec) (n:=8) (st:=fun j=>(7 - ((j:Nat):Int),ini,((bytesOf s++[128])++List.replicate (zN s.size) 0)++(List.range j).map (dD ((8 * s.size:Nat):Int)))) (r:=spec_l01Hash.lp11 N (bytesOf s) (0,ini,padL s,ks)) (fun j hj rec=>by
   have e1:w64 (7 - (j:Int) - 1)=7 - ((j+1:Nat):Int):=by rw [w_small (by omega) (by omega)];omega
   simp only [spec_l01Hash.step6,decide_eq_true (show 7 - (j:Int)≥0 by omega),hneg j hj,Bool.not_false,cond_true,e8,e1]
   rw [roomS (by simp [hlen];omega),cond_true,List.append_assoc,List.range_succ,List.map_append]
   rfl) (fun rec=>by
   simp only [spec_l01Hash.step6,decide_eq_false (show ¬ (7:Int) - ((8:Nat):Int)≥0 by omega),cond_false,constsS,ob_some]
   rfl) 8 0 N (by omega) (by omega)
  simpa using this
 rw [z2]
 have hP:=padL_length s
 have hpn:padN s.size≤32769:=by simp only [padN,zN];omega
 have z3:spec_l01Hash.lp11 N (bytesOf s) (0,ini,padL s,ks)=spec_l01Hash.lp16 N (bytesOf s) (0,hs (padL s) (padN s.size),[]):=by
  unfold spec_l01Hash.lp11
  exact miter_up (step:=fun rec=>spec_l01Hash.step11 N (bytesOf s) (spec_l01Hash.lp16 N (bytesOf s)) rec) (n:=padN s.size) (st:=fun i=>(((64 * i:Nat):Int),hs (padL s) i,padL s,ks)) (fun i hi rec=>by
   have e1:w64 (((64 * i:Nat):Int)+64)=((64 * (i+1):Nat):Int):=by rw [w_small (by omega) (by omega)];omega
   have e2:64 * (i+1) - 64 * i=64:=by omega
   have hb1:(((padL s).drop (64 * i)).take 64).length=64:=by rw [List.length_take,List.length_drop,hP];omega
   simp only [spec_l01Hash.step11,hP,e1,nn_dec,cond_true,Int.toNat_natCast,e2,decide_eq_true (show ((64 * i:Nat):Int)<((64 * padN s.size:Nat):Int) by omega),decide_eq_true (show ((64 * (i+1):Nat):Int)≤((64 * padN s.size:Nat):Int) by omega),decide_eq_true (show ((64 * i:Nat):Int)≤((64 * (i+1):Nat):Int) by omega),decide_eq_true (show 64 * i+64≤64 * padN s.size by omega),specBlk hN _ _ ks (hs_length _ i) hb1 rfl,ob_some]
   rfl) (fun rec=>by
   simp only [spec_l01Hash.step11,hP,ge_dec,cond_false]) (padN s.size) 0 N (by omega) (by omega)
 rw [z3]
 obtain ⟨a,b,c,d,e,f,g,i,hh⟩:=eight (hs_length (padL s) (padN s.size))
 unfold hb
 rw [hh]
 obtain ⟨M,rfl⟩:∃M,N=M+9:=⟨N - 9,by omega⟩
 have key:∀l,spec_l01Hash.lp16 (M+9) l (0,[a,b,c,d,e,f,g,i],[])=some (strOf (outL [a,b,c,d,e,f,g,i])):=by
  intro l
  unfold spec_l01Hash.lp16
  kernel_rfl
 exact key _
theorem rep0 (n:Nat):bytesOf (strings_Repeat.rep ⟨#[0]⟩ n)=List.replicate n 0:=by
 have:∀n,(List.replicate n ([0]:List UInt8)).flatten=List.replicate n 0:=by
  intro n
  induction n with
  | zero=>rfl
  | succ n ih=>rw [List.replicate_succ,List.flatten_cons,ih,List.replicate_succ];rfl
 simp only [bytesOf,strings_Repeat.rep,this,List.map_replicate]
 rfl
theorem d8_range (x:Int):∀y∈d8 x,0≤y∧y<256:=by
 intro y hy
 simp only [d8,List.mem_cons,List.not_mem_nil,or_false] at hy
 rcases hy with rfl | rfl | rfl | rfl | rfl | rfl | rfl | rfl<;>exact wu8_range _
theorem adds_range (h v:List Int):∀j,0≤(adds h v).getD j 0∧(adds h v).getD j 0<4294967296:=by
 intro j
 match j with
 | 0=>exact wu32_range _
 | 1=>exact wu32_range _
 | 2=>exact wu32_range _
 | 3=>exact wu32_range _
 | 4=>exact wu32_range _
 | 5=>exact wu32_range _
 | 6=>exact wu32_range _
 | 7=>exact wu32_range _
 | j+8=>exact (by decide:0≤(0:Int)∧(0:Int)<4294967296)
theorem hs_range (P:List Int) (i:Nat) (hi:0<i) (j:Nat):0≤(hs P i).getD j 0∧(hs P i).getD j 0<4294967296:=by
 obtain ⟨i,rfl⟩:∃k,i=k+1:=⟨i - 1,by omega⟩
 exact adds_range _ _ j
theorem d4_ob (x:Int) (h0:0≤x) (h1:x<4294967296):d4 (w64 x)=ob4 x:=by
 obtain ⟨n,rfl⟩:=Int.eq_ofNat_of_zero_le h0
 rw [w64_eq (by omega) (by omega),d4_eq]
 rfl
theorem implOut {N:Nat} (hN:Big N) (s0:ByteArray) (h:List Int) (hl:h.length=8) (hr:∀j,0≤h.getD j 0∧h.getD j 0<4294967296):impl_hash.lp9 N s0 (ByteArray.empty,h,0)=some (strOf (outL h)):=by
 unfold impl_hash.lp9
 have e:strOf (outL h)=strOf ((List.range 8).flatMap fun j=>ob4 (h.getD j 0)):=by
  congr 1
 rw [e]
 exact miter_up (step:=fun rec=>impl_hash.step9 N s0 rec) (n:=8) (st:=fun i=>(strOf ((List.range i).flatMap fun j=>ob4 (h.getD j 0)),h,(i:Int))) (fun i hi rec=>by
  obtain ⟨h0,h1⟩:=hr i
  have hsz:(strOf ((List.range i).flatMap fun j=>ob4 (h.getD j 0))).size=4 * i:=by
   rw [strOf_size]
   have:∀n,((List.range n).flatMap fun j=>ob4 (h.getD j 0)).length=4 * n:=by
    intro n
    induction n with
    | zero=>rfl
    | succ n ih=>rw [List.range_succ,List.flatMap_append,List.length_append,ih];simp [ob4];omega
   exact this i
  have hs4:(strOf (ob4 (h.getD i 0))).size=4:=by rw [strOf_size];rfl
  simp only [impl_hash.step9,nn_dec,cond_true,Int.toNat_natCast,decide_eq_true (show (i:Int)<8 by omega),number4 hN,ob_some,d4_ob _ h0 h1,hsz,hs4]
  rw [decide_eq_true (show 4 * i+4≤9223372036854775807 by omega),cond_true,strOf_append,w_up i 8 hi (by omega),List.range_succ,List.flatMap_append]
  rfl) (fun rec=>by rfl) 8 0 N (by omega) (by omega)
theorem implHash {N:Nat} (hN:Big N) (s:ByteArray) (h:s.size≤2097152):impl_hash.m N s=some (hb s):=by
 unfold impl_hash.m impl_hash.m0
 have q1:(⟨#[128]⟩:ByteArray).size=1:=rfl
 have q2:(!decide ((64:Int)=0))=true:=rfl
 have ez:Int.tmod (w64 ((119:Int) - Int.tmod (s.size:Int) 64)) 64=((zN s.size:Nat):Int):=by
  have e1:Int.tmod (s.size:Int) 64=((s.size % 64:Nat):Int):=rfl
  have e2:w64 ((119:Int) - ((s.size % 64:Nat):Int))=((119 - s.size % 64:Nat):Int):=by
   rw [w_small (by omega) (by omega)];omega
  rw [e1,e2]
  rfl
 have e8:w64 ((8:Int) * (s.size:Int))=((8 * s.size:Nat):Int):=by rw [w_small (by omega) (by omega)];omega
 have hz:zN s.size<64:=by simp only [zN];omega
 have hrep:strings_Repeat.m N ⟨#[0]⟩ ((zN s.size:Nat):Int)=some (strings_Repeat.rep ⟨#[0]⟩ (zN s.size)):=by
  unfold strings_Repeat.m
  have:(⟨#[0]⟩:ByteArray).size=1:=rfl
  rw [decide_eq_true (show (0:Int)≤((zN s.size:Nat):Int) by omega),decide_eq_true (show ((zN s.size:Nat):Int)≤9223372036854775807 by omega),Int.toNat_natCast,this,decide_eq_true (show 1 * zN s.size≤140737488355328 by omega)]
  rfl
 have hrs:(strings_Repeat.rep ⟨#[0]⟩ (zN s.size)).size=zN s.size:=by
  rw [← bytesOf_length,rep0,List.length_replicate]
 have hd8:(strOf (d8 ((8 * s.size:Nat):Int))).size=8:=by rw [strOf_size];rfl
 rw [q1,decide_eq_true (show s.size+1≤9223372036854775807 by omega),q2,ez,hrep,e8,number8 hN,wordsI,constsI]
 simp only [cond_true,ob_some,size_append,q1,hrs,hd8]
 rw [decide_eq_true (show s.size+1+zN s.size≤9223372036854775807 by omega),decide_eq_true (show s.size+1+zN s.size+8≤9223372036854775807 by omega),cond_true,cond_true]
 generalize hall:(s++⟨#[128]⟩)++strings_Repeat.rep ⟨#[0]⟩ (zN s.size)++strOf (d8 ((8 * s.size:Nat):Int))=all
 have hB:bytesOf all=padL s:=by
  rw [← hall,bytesOf_append,bytesOf_append,bytesOf_append,rep0,strOf_bytes _ (d8_range _),d8_eq]
  rfl
 have hsz:all.size=64 * padN s.size:=by rw [← bytesOf_length,hB,padL_length]
 have hpn:padN s.size≤32769:=by simp only [padN,zN];omega
 have hpp:0<padN s.size:=by simp only [padN,zN];omega
 have z3:impl_hash.lp4 N s (all,0,ini,ks)=impl_hash.lp9 N s (ByteArray.empty,hs (padL s) (padN s.size),0):=by
  unfold impl_hash.lp4
  exact miter_up (step:=fun rec=>impl_hash.step4 N s (impl_hash.lp9 N s) rec) (n:=padN s.size) (st:=fun i=>(all,((64 * i:Nat):Int),hs (padL s) i,ks)) (fun i hi rec=>by
   have e1:w64 (((64 * i:Nat):Int)+64)=((64 * (i+1):Nat):Int):=by rw [w_small (by omega) (by omega)];omega
   have e2:64 * (i+1) - 64 * i=64:=by omega
   have hx:bytesOf (all.extract (64 * i) (64 * (i+1)))=((padL s).drop (64 * i)).take 64:=by rw [bytesOf_extract,hB,e2]
   have hxs:(all.extract (64 * i) (64 * (i+1))).size=64:=by
    rw [← bytesOf_length,hx,List.length_take,List.length_drop,padL_length];omega
   have hblk:(blk (hs (padL s) i) ks fun j=>sb (all.extract (64 * i) (64 * (i+1))) (j:Int))=hs (padL s) (i+1):=by
    show _=blk (hs (padL s) i) ks _
    congr 1
    funext j
    rw [sb_eq,hx]
   simp only [impl_hash.step4,hsz,e1,nn_dec,cond_true,Int.toNat_natCast,decide_eq_true (show ((64 * i:Nat):Int)<((64 * padN s.size:Nat):Int) by omega),decide_eq_true (show ((64 * (i+1):Nat):Int)≤((64 * padN s.size:Nat):Int) by omega),decide_eq_true (show ((64 * i:Nat):Int)≤((64 * (i+1):Nat):Int) by omega),implBlk hN _ ks _ (hs_length _ i) hxs,ob_some,hblk]) (fun rec=>by
   simp only [impl_hash.step4,hsz,ge_dec,cond_false]) (padN s.size) 0 N (by omega) (by omega)
 rw [z3,implOut hN s _ (hs_length _ _) (hs_range _ _ hpp)]
 rfl
structure SrcOK (s:l00Src) (t:Nat):Prop where
 at_:s.«at» = (t:Int)
 len:s.code.length≤2000000
 lo:0≤s.seed
 hi:s.seed<2147483648
 bytes:∀x∈s.code,0≤x∧x<256
theorem srcNew {a:List Int} (hl:a.length≤2000000) (hb:∀x∈a,0≤x∧x<256):SrcOK (l00Src.mk a 0 (Int.tmod (a.length:Int) 1000)) 0:=by
 have h:=Int.tmod_lt_of_pos (a.length:Int) (show (0:Int)<1000 by omega)
 have h0:=Int.tmod_nonneg (1000:Int) (show (0:Int)≤(a.length:Int) by omega)
 have h2:Int.tmod (a.length:Int) 1000<2147483648:=by omega
 exact ⟨rfl,hl,h0,h2,hb⟩
theorem srcS (N:Nat) (a:List Int):spec_l00Source.m N a=some (l00Src.mk a 0 (Int.tmod (a.length:Int) 1000)):=by kernel_rfl
theorem getD_rng {a:List Int} (hb:∀x∈a,0≤x∧x<256) (i:Nat):0≤a.getD i 0∧a.getD i 0<256:=by
 rw [List.getD_eq_getElem?_getD]
 cases h:a[i]? with
 | none=>exact ⟨Int.le_refl _,by decide⟩
 | some x=>exact hb x (List.mem_of_getElem? h)
theorem srcByte (N:Nat) {s:l00Src} {t:Nat} (h:SrcOK s t) (ht:t≤4000000):∃b q,spec_l00Src_byte_.m N s=some (b,q)∧0≤b∧b<256∧SrcOK q (t+1):=by
 obtain ⟨h1,h2,h3,h4,h5⟩:=h
 obtain ⟨code,at_,seed⟩:=s
 have h1:at_=(t:Int):=h1
 have h2:code.length≤2000000:=h2
 have h3:0≤seed:=h3
 have h4:seed<2147483648:=h4
 have h5:∀x∈code,0≤x∧x<256:=h5
 subst h1
 have e1:w64 ((t:Int)+1)=((t+1:Nat):Int):=by rw [w_small (by omega) (by omega)];omega
 have e2:w64 (((t+1:Nat):Int) - 1)=(t:Int):=by rw [w_small (by omega) (by omega)];omega
 have ht0:(t:Int).toNat=t:=Int.toNat_natCast t
 have gg:0≤code.getD t 0∧code.getD t 0<256:=getD_rng h5 t
 obtain ⟨g0,g1⟩:=gg
 have e3:w64 (code.getD t 0)=code.getD t 0:=w_small (by omega) (by omega)
 have m31:∀x:Int,0≤x→0≤Int.tmod x 2147483648∧Int.tmod x 2147483648<2147483648:=fun x hx=>⟨Int.tmod_nonneg _ hx,Int.tmod_lt_of_pos x (by omega)⟩
 unfold spec_l00Src_byte_.m
 simp only [e1,e2,ht0,e3]
 by_cases hc:((t+1:Nat):Int)≤(code.length:Int)
 ·rw [decide_eq_true hc,cond_true,nn_dec,cond_true,decide_eq_true (show (t:Int)<(code.length:Int) by omega)]
  refine ⟨_,_,rfl,g0,g1,⟨rfl,h2,?_,?_,h5⟩⟩
  all_goals
   have q1:w64 (seed * 31)=seed * 31:=w64_eq (by omega) (by omega)
   have q2:w64 (seed * 31+code.getD t 0)=seed * 31+code.getD t 0:=w64_eq (by omega) (by omega)
   have q3:w64 (seed * 31+code.getD t 0+7)=seed * 31+code.getD t 0+7:=w64_eq (by omega) (by omega)
   have q4:=m31 (seed * 31+code.getD t 0+7) (by omega)
   simp only [q1,q2,q3]
  ·exact q4.1
  ·exact q4.2
 ·rw [decide_eq_false hc,cond_false]
  by_cases hd:((t+1:Nat):Int) > 3000
  ·rw [decide_eq_true hd,cond_true]
   exact ⟨_,_,rfl,Int.le_refl _,by decide,⟨rfl,h2,h3,h4,h5⟩⟩
  ·rw [decide_eq_false hd,cond_false]
   have q1:w64 (seed * 1103515245)=seed * 1103515245:=w64_eq (by omega) (by omega)
   have q2:w64 (seed * 1103515245+12345)=seed * 1103515245+12345:=w64_eq (by omega) (by omega)
   have q4:=m31 (seed * 1103515245+12345) (by omega)
   simp only [q1,q2]
   generalize Int.tmod (seed * 1103515245+12345) 2147483648=z at q4
   have d0:0≤Int.tdiv z 65536:=Int.tdiv_nonneg q4.1 (by omega)
   have d1:Int.tdiv z 65536≤z:=Int.tdiv_le_self _ q4.1
   have q5:w64 (Int.tdiv z 65536)=Int.tdiv z 65536:=w64_eq (by omega) (by omega)
   rw [q5]
   exact ⟨_,_,rfl,Int.tmod_nonneg _ d0,Int.tmod_lt_of_pos _ (by omega),⟨rfl,h2,q4.1,q4.2,h5⟩⟩
theorem nextS (N:Nat) {s:l00Src} {t:Nat} (h:SrcOK s t) (ht:t≤4000000) {n:Int} (h1:1<n) (hn:n≤256):∃b q,spec_l00Src_next_.m N s n=some (b,q)∧0≤b∧b<n∧SrcOK q (t+1):=by
 obtain ⟨b,q,e,b0,b1,hq⟩:=srcByte N h ht
 unfold spec_l00Src_next_.m
 rw [decide_eq_false (show ¬ n≤1 by omega),cond_false,decide_eq_true hn,cond_true,e,ob_some,decide_eq_false (show ¬ n=0 by omega)]
 exact ⟨_,_,rfl,Int.tmod_nonneg _ b0,Int.tmod_lt_of_pos _ (by omega),hq⟩
theorem wfBytes {a:List Int} (h:∃n,WfE E (WfA E n) (.slice 5 (.int .u8)) a):∀x∈a,0≤x∧x<256:=by
 obtain ⟨n,h⟩:=h
 cases n with
 | zero=>exact False.elim h
 | succ n=>
  intro x hx
  have:=h.2 x hx
  have hw:(Lit.int .u8 x).wf=true:=by cases n<;>exact this
  simp only [Lit.wf,Bool.and_eq_true,decide_eq_true_eq] at hw
  have h1:IntKind.min .u8=0:=rfl
  have h2:IntKind.max .u8=255:=rfl
  rw [h1,h2] at hw
  omega
end Mir.Y
