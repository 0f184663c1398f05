/- Pure laws: branches and ledgers: sizes, copies, equality. -/
import Derived.Test.YtmjmhkpkmejbnaaGreatQSSA
import Derived.Laws.Strings
namespace Mir.Y
set_option linter.unusedVariables false
set_option linter.unusedSimpArgs false
open Go
set_option linter.unusedSectionVars false
variable [UU]
abbrev K20:Nat:=1048576
theorem brEta (b:Branch):Branch.mk b.Key b.Value b.At b.Kids=b:=by cases b;rfl
def wfB:Nat→Branch→Prop
 | 0,_=>False
 | n+1,b=>b.Key.size≤maxLen∧b.Value.size≤maxLen∧b.Kids.length≤maxLen∧∀x∈b.Kids,wfB n x
def bok:Nat→Branch→Prop
 | 0,_=>False
 | n+1,b=>b.Key.size≤K20∧b.Value.size≤K20∧b.Kids.length≤K20∧∀x∈b.Kids,bok n x
structure LedWf (n:Nat) (x:Ledger):Prop where
 Leaves:x.Leaves.length≤maxLen
 Leaf:∀s∈x.Leaves,s.size≤maxLen
 Map:wfB n x.Map
 Sessions:x.Sessions.length≤maxLen
 Value:∀s∈x.Sessions,s.Last.Value.size≤maxLen
structure LedOK (n:Nat) (x:Ledger):Prop where
 Leaves:x.Leaves.length≤1048576
 Leaf:∀s∈x.Leaves,s.size≤K20
 Map:bok n x.Map
 Sessions:x.Sessions.length≤1048576
 Value:∀s∈x.Sessions,s.Last.Value.size≤K20
theorem ledEta (x:Ledger):Ledger.mk x.Leaves (Branch.mk x.Map.Key x.Map.Value x.Map.At x.Map.Kids) x.Sessions=x:=by rw [brEta]
theorem bytesOf_inj {a b:ByteArray} (h:bytesOf a=bytesOf b):a=b:=by
 have h1:a.data.toList=b.data.toList:=by
  unfold bytesOf at h
  refine (List.map_inj_right (fun x y hxy=>?_)).1 h
  exact UInt8.toNat_inj.1 (Int.ofNat.inj hxy)
 cases a;cases b
 simp only at h1
 exact congrArg _ (Array.toList_inj.1 h1)
theorem seq_iff {a b:ByteArray}:seq a b=true↔a=b:=by
 constructor
 ·intro h
  unfold seq at h
  have e1:=ByteArray.toList_eq a
  have e2:=ByteArray.toList_eq b
  rw [e1,e2,beq_iff_eq] at h
  cases a;cases b
  simp only at h
  exact congrArg _ (Array.toList_inj.1 h)
 ·rintro rfl;exact seq_self a
theorem seq_dec {a b:ByteArray} {p:Prop} [Decidable p] (h:a=b↔p):seq a b=decide p:=by
 rw [Bool.eq_iff_iff,seq_iff,decide_eq_true_iff];exact h
def isBy (l:List Int):Prop:=∀x∈l,0≤x∧x<256
theorem strOf_inj {a b:List Int} (ha:isBy a) (hb:isBy b):strOf a=strOf b↔a=b:=by
 constructor
 ·intro h
  have:=congrArg bytesOf h
  rwa [strOf_bytes a ha,strOf_bytes b hb] at this
 ·rintro rfl;rfl
theorem strOf_take {l:List Int} (h:isBy l) (k:Nat):(strOf l).extract 0 k=strOf (l.take k):=by
 apply bytesOf_inj
 rw [bytesOf_extract,strOf_bytes l h,strOf_bytes _ (fun x hx=>h x (List.mem_of_mem_take hx))]
 simp
def bt (h:ByteArray) (i:Nat):Nat:=((sb h ((i / 8:Nat):Int)).toNat / 2 ^ (7 - i % 8)) % 2
theorem bt_lt (h:ByteArray) (i:Nat):bt h i<2:=Nat.mod_lt _ (by omega)
theorem bitI:∀n,n<256→∀r,r<8→ibit .and .i64 (w64 (Int.fdiv ((n:Nat):Int) (2 ^ (min (Int.toNat (w64 ((7:Int) - ((r:Nat):Int)))) 8)))) (1:Int)=((n / 2 ^ (7 - r) % 2:Nat):Int)∧decide (w64 ((7:Int) - ((r:Nat):Int))<0)=false:=by decide +kernel
theorem bitS:∀n,n<256→∀r,r<8→ibit .and .i64 (w64 (Int.fdiv ((n:Nat):Int) (2 ^ (min (Int.toNat (wu64 (w64 ((7:Int) - ((r:Nat):Int))))) 8)))) (1:Int)=((n / 2 ^ (7 - r) % 2:Nat):Int)∧decide (wu64 (w64 ((7:Int) - ((r:Nat):Int)))<0)=false:=by decide +kernel
theorem bitT:∀n,n<256→∀r,r<8→wu8 ((48:Int)+(ibit .and .u8 (Int.fdiv ((n:Nat):Int) (2 ^ (min (Int.toNat (wu64 ((7:Int) - ((r:Nat):Int)))) 8))) (1:Int)))=((48+n / 2 ^ (7 - r) % 2:Nat):Int)∧decide (wu64 ((7:Int) - ((r:Nat):Int))<0)=false:=by decide +kernel
theorem sbN (h:ByteArray) (j:Nat):∃n:Nat,sb h (j:Int)=(n:Int)∧n<256∧(sb h (j:Int)).toNat=n:=by
 have:=sb_range h (j:Int)
 exact ⟨(sb h (j:Int)).toNat,by omega,by omega,rfl⟩
theorem implBit (N:Nat) {h:ByteArray} (hh:h.size=32) {i:Nat} (hi:i<256):impl_bit.m N h (i:Int)=some (bt h i:Int):=by
 unfold impl_bit.m
 have e1:Int.tdiv (i:Int) 8=((i / 8:Nat):Int):=rfl
 have e2:Int.tmod (i:Int) 8=((i % 8:Nat):Int):=rfl
 have e3:w64 ((i / 8:Nat):Int)=((i / 8:Nat):Int):=w_small (by omega) (by omega)
 obtain ⟨n,h1,h2,h3⟩:=sbN h (i / 8)
 obtain ⟨k1,k2⟩:=bitI n h2 (i % 8) (Nat.mod_lt _ (by omega))
 simp only [e1,e2,e3,h1,k1,k2,nn_dec,decide_eq_true (show ((i / 8:Nat):Int)<(h.size:Int) by omega),cond_true,Bool.not_false,show (!decide ((8:Int)=0))=true from rfl]
 rw [bt,h3]
theorem specBit (N:Nat) {h:ByteArray} (hh:h.size=32) {i:Nat} (hi:i<256):spec_l07Bit.m N h (i:Int)=some (bt h i:Int):=by
 unfold spec_l07Bit.m
 have e1:Int.tdiv (i:Int) 8=((i / 8:Nat):Int):=rfl
 have e2:Int.tmod (i:Int) 8=((i % 8:Nat):Int):=rfl
 have e3:w64 ((i / 8:Nat):Int)=((i / 8:Nat):Int):=w_small (by omega) (by omega)
 obtain ⟨n,h1,h2,h3⟩:=sbN h (i / 8)
 obtain ⟨k1,k2⟩:=bitS n h2 (i % 8) (Nat.mod_lt _ (by omega))
 simp only [e1,e2,e3,h1,k1,k2,nn_dec,decide_eq_true (show ((i / 8:Nat):Int)<(h.size:Int) by omega),cond_true,Bool.not_false,show (!decide ((8:Int)=0))=true from rfl]
 rw [bt,h3]
def bitL (h:ByteArray) (n:Nat):List Int:=(List.range n).map fun i=>((48+bt h i:Nat):Int)
theorem bitL_length (h:ByteArray) (n:Nat):(bitL h n).length=n:=by simp [bitL]
theorem bitL_snoc (h:ByteArray) (n:Nat):bitL h n++[((48+bt h n:Nat):Int)]=bitL h (n+1):=by simp [bitL,List.range_succ]
theorem bitL_by (h:ByteArray) (n:Nat):isBy (bitL h n):=by
 intro x hx
 simp only [bitL,List.mem_map] at hx
 obtain ⟨i,_,rfl⟩:=hx
 have:=bt_lt h i
 omega
theorem bitL_take (h:ByteArray) {k n:Nat} (hk:k≤n):(bitL h n).take k=bitL h k:=by
 rw [bitL,← List.map_take,List.take_range,Nat.min_eq_left hk];rfl
theorem specBits {N:Nat} (hN:Big N) (h:ByteArray) (hh:h.size=32):spec_l01Bits.m N h=some (strOf (bitL h 256)):=by
 unfold spec_l01Bits.m spec_l01Bits.m0 spec_l01Bits.lp3
 have inner:∀(i:Nat),i<32→∀r3,spec_l01Bits.lp6 N h r3 ((i:Int),7,bitL h (8 * i))=r3 (((i+1:Nat):Int),bitL h (8 * (i+1))):=by
  intro i hi r3
  unfold spec_l01Bits.lp6
  have:=miter_up (step:=fun rec=>spec_l01Bits.step6 N h r3 rec) (n:=8) (st:=fun j=>((i:Int),7 - (j:Int),bitL h (8 * i+j))) (r:=r3 (((i+1:Nat):Int),bitL h (8 * (i+1)))) (fun j hj rec=>by
   obtain ⟨n,h1,h2,h3⟩:=sbN h i
   obtain ⟨k1,k2⟩:=bitT n h2 j hj
   have e1:w64 (7 - (j:Int) - 1)=7 - ((j+1:Nat):Int):=by rw [w_small (by omega) (by omega)];omega
   have eb:((48+n / 2 ^ (7 - j) % 2:Nat):Int)=((48+bt h (8 * i+j):Nat):Int):=by
    rw [bt,show (8 * i+j) / 8=i by omega,show (8 * i+j) % 8=j by omega,h3]
   simp only [spec_l01Bits.step6,decide_eq_true (show 7 - (j:Int)≥0 by omega),cond_true,nn_dec,decide_eq_true (show (i:Int)<(h.size:Int) by omega),h1,k1,k2,Bool.not_false,e1,eb,bitL_snoc]
   rw [roomS (by simp only [bitL_length,List.length_singleton];omega),cond_true]
   rfl) (fun rec=>by
   simp only [spec_l01Bits.step6,decide_eq_false (show ¬ 7 - ((8:Nat):Int)≥0 by omega),cond_false]
   rw [w_up i 32 hi (by omega),show 8 * i+8=8 * (i+1) by omega]) 8 0 N (by omega) (by omega)
  exact this
 have:=miter_up (step:=fun rec=>spec_l01Bits.step3 N h (spec_l01Bits.lp6 N h rec) rec) (n:=32) (st:=fun i=>((i:Int),bitL h (8 * i))) (r:=some (strOf (bitL h 256))) (fun i hi rec=>by
  simp only [spec_l01Bits.step3,decide_eq_true (show (i:Int)<(h.size:Int) by omega),cond_true]
  exact inner i hi rec) (fun rec=>by
  simp only [spec_l01Bits.step3,decide_eq_false (show ¬ ((32:Nat):Int)<(h.size:Int) by omega),cond_false]) 32 0 N (by omega) (by omega)
 exact this
def pre (x:Branch) (k:Nat):List Int:=bitL (hb x.Key) k
theorem pre_length (x:Branch) (k:Nat):(pre x k).length=k:=bitL_length _ _
theorem pre_take (x:Branch) {j k:Nat} (h:j≤k):(pre x k).take j=pre x j:=bitL_take _ h
theorem pre_succ (x:Branch) (k:Nat):pre x (k+1)=pre x k++[((48+bt (hb x.Key) k:Nat):Int)]:=(bitL_snoc _ _).symm
def keyP (x:Branch):Prop:=1≤x.Key.size∧x.Key.size≤24
def Lv:Nat→Branch→List Branch
 | 0,_=>[]
 | n+1,b=>match b.Kids with
  | []=>[b]
  | ks=>ks.flatMap (Lv n)
def C:Nat→Branch→List Int→Prop
 | 0,_,_=>False
 | n+1,b,P=>(b.Kids=[]∧keyP b∧b.Value.size≤60∧b.At=256∧P.length≤256∧pre b P.length=P)∨
   ∃(x y:Branch) (Q:List Int) (A:Nat),b.Kids=[x,y]∧b.Key=ByteArray.empty∧b.Value=ByteArray.empty∧b.At=(A:Int)∧Q.length=A∧P.length≤A∧A≤255∧P=Q.take P.length∧C n x (Q++[48])∧C n y (Q++[49])
theorem Lv_leaf {n:Nat} {b:Branch} (h:b.Kids=[]):Lv (n+1) b=[b]:=by
 show (match b.Kids with | []=>[b] | ks=>ks.flatMap (Lv n))=_
 rw [h]
theorem Lv_fork {n:Nat} {b x y:Branch} (h:b.Kids=[x,y]):Lv (n+1) b=Lv n x++Lv n y:=by
 show (match b.Kids with | []=>[b] | ks=>ks.flatMap (Lv n))=_
 rw [h];simp
theorem C_all:∀ {n:Nat} {b:Branch} {P:List Int},C n b P→∀l∈Lv n b,keyP l∧pre l P.length=P
 | 0,_,_,h=>h.elim
 | n+1,b,P,.inl ⟨h1,h2,_,_,_,h6⟩=>by
  intro l hl
  rw [Lv_leaf h1,List.mem_singleton] at hl
  subst hl
  exact ⟨h2,h6⟩
 | n+1,b,P,.inr ⟨x,y,Q,A,h1,_,_,_,h5,h6,_,h8,hx,hy⟩=>by
  intro l hl
  rw [Lv_fork h1,List.mem_append] at hl
  have:∀(c:Int),keyP l∧pre l (Q++[c]).length=Q++[c]→keyP l∧pre l P.length=P:=by
   rintro c ⟨k1,k2⟩
   refine ⟨k1,?_⟩
   have k3:=congrArg (List.take P.length) k2
   have hle:P.length≤(Q++[c]).length:=by simp;omega
   rw [pre_take _ hle,List.take_append_of_le_length (by omega),← h8] at k3
   exact k3
  rcases hl with hl | hl
  ·exact this _ (C_all hx l hl)
  ·exact this _ (C_all hy l hl)
theorem C_pos:∀ {n:Nat} {b:Branch} {P:List Int},C n b P→0<(Lv n b).length
 | 0,_,_,h=>h.elim
 | n+1,b,P,.inl ⟨h1,_⟩=>by rw [Lv_leaf h1];exact Nat.one_pos
 | n+1,b,P,.inr ⟨x,y,Q,A,h1,_,_,_,_,_,_,_,hx,_⟩=>by rw [Lv_fork h1,List.length_append];have:=C_pos hx;omega
def dn:Nat→Branch→Branch
 | 0,x=>x
 | k+1,x=>match x.Kids with
  | []=>x
  | y::_=>dn k y
theorem dn_leaf {k:Nat} {x:Branch} (h:x.Kids=[]):dn k x=x:=by cases k<;>simp [dn,h]
theorem C_dn:∀ {n:Nat} {b:Branch} {P:List Int} {k:Nat},C n b P→256 - P.length≤k→(dn k b).Kids=[]∧dn k b∈Lv n b
 | 0,_,_,_,h,_=>h.elim
 | n+1,b,P,k,.inl ⟨h1,_⟩,_=>by rw [dn_leaf h1,Lv_leaf h1];exact ⟨h1,List.mem_singleton_self _⟩
 | n+1,b,P,k,.inr ⟨x,y,Q,A,h1,_,_,_,h5,h6,h7,_,hx,_⟩,hk=>by
  obtain ⟨k,rfl⟩:∃j,k=j+1:=⟨k - 1,by omega⟩
  have e:dn (k+1) b=dn k x:=by simp only [dn,h1]
  obtain ⟨h,h'⟩:=C_dn hx (k:=k) (by simp;omega)
  rw [e,Lv_fork h1]
  exact ⟨h,List.mem_append_left _ h'⟩
def keyB (x:Branch):Bool:=decide ((x.Key.size:Int)≥1)&&decide ((x.Key.size:Int)≤24)
theorem keyB_iff (x:Branch):keyB x=true↔keyP x:=by
 unfold keyB keyP
 rw [Bool.and_eq_true,decide_eq_true_iff,decide_eq_true_iff];omega
theorem l02Key (N:Nat) (x:Branch):spec_l02Key.m N x.Key=some (keyB x):=by
 unfold spec_l02Key.m keyB
 cases decide ((x.Key.size:Int)≥1)<;>rfl
theorem l07Hash {N:Nat} (hN:Big N) (s:ByteArray) (h:s.size≤2097152):spec_l07Hash.m N s=some (hb s):=by
 unfold spec_l07Hash.m
 first
  | (rw [specHash hN s h];rfl)
  | (rw [roomS (by omega),cond_true,specHash hN s h];rfl)
def lfB (x:Branch):Bool:=((x.Kids.length:Int)==0)
theorem lfB_iff (x:Branch):lfB x=true↔x.Kids=[]:=by
 unfold lfB
 rw [beq_iff_eq]
 constructor
 ·intro h;exact List.eq_nil_of_length_eq_zero (by omega)
 ·intro h;rw [h];rfl
theorem isBy_pre (x:Branch) (k:Nat):isBy (pre x k):=bitL_by _ _
noncomputable def fin (N:Nat) (slf:Branch→Int→ByteArray→Int→Option Int) (b:Branch) (P:List Int) (most:Int) (x:Branch):Option Int:=
 bif lfB x&&keyB x then bif seq (strOf (pre x P.length)) (strOf P) then spec_l07Count.lp21 N slf b (P.length:Int) (strOf P) most (strOf (pre x b.At.toNat),0,0) else some (-1) else some (-1)
theorem miter_s {α R:Type} (g:(α→Option R)→α→Option R) (K:Nat) (s:α):miter g (K+1) s=g (miter g K) s:=rfl
theorem descend {N:Nat} (hN:Big N) (slf:Branch→Int→ByteArray→Int→Option Int) (b:Branch) (P:List Int) (most:Int) (h0:(P.length:Int)≤b.At) (h1:b.At≤255) :
  ∀(k K:Nat) (n:Nat) (x:Branch),k≤256→k<K→bok n x→miter (fun rec=>spec_l07Count.step11 N slf b (P.length:Int) (strOf P) most (spec_l07Count.lp21 N slf b (P.length:Int) (strOf P) most) rec) K (256 - (k:Int),x.Key,x.Value,x.At,x.Kids)=fin N slf b P most (dn k x):=by
 obtain ⟨A,hA⟩:∃A:Nat,b.At=(A:Int):=⟨b.At.toNat,by omega⟩
 have fino:∀(n:Nat) (x:Branch),bok n x→(bif (!lfB x) then some (-1) else bif (bif false then true else (!keyB x)) then some (-1) else ob (spec_l07Hash.m N x.Key) fun y9=>ob (spec_l01Bits.m N y9) fun y10=>
   bif (decide (0≤b.At)) then
   bif (decide (b.At≤((y10.size:Nat):Int))) then
   bif (decide (((strOf P).size:Int) > ((y10.extract 0 (Int.toNat b.At)).size:Int))) then
    some (-1:Int)
   else
   bif (decide (0≤((strOf P).size:Int))) then
   bif (decide (((strOf P).size:Int)≤(((y10.extract 0 (Int.toNat b.At)).size:Nat):Int))) then
   bif (bif false then true else (!seq ((y10.extract 0 (Int.toNat b.At)).extract 0 (Int.toNat ((strOf P).size:Int))) (strOf P))) then
    some (-1:Int)
   else
   spec_l07Count.lp21 N slf b (P.length:Int) (strOf P) most ((y10.extract 0 (Int.toNat b.At)),(0:Int),(0:Int))
   else none
   else none
   else none
   else none)=fin N slf b P most x:=by
  intro n x hx
  unfold fin
  cases hl:lfB x with
  | false=>rfl
  | true=>
   cases hk:keyB x with
   | false=>rfl
   | true=>
    have hks:x.Key.size≤2097152:=by rw [keyB_iff] at hk;have:=hk.2;omega
    rw [l07Hash hN _ hks,ob_some,specBits hN _ (hb_size _),ob_some]
    have hA':b.At.toNat=A:=by rw [hA];rfl
    rw [hA',strOf_take (bitL_by _ _),bitL_take _ (show A≤256 by omega),strOf_size,strOf_size,strOf_size,bitL_length,bitL_length,Int.toNat_natCast,strOf_take (bitL_by _ _),bitL_take _ (show P.length≤A by omega)]
    rw [decide_eq_true (show 0≤b.At by omega),decide_eq_true (show b.At≤((256:Nat):Int) by omega),decide_eq_false (show ¬ ((P.length:Int) > (A:Int)) by omega),decide_eq_true (show (0:Int)≤(P.length:Int) by omega),decide_eq_true (show (P.length:Int)≤(A:Int) by omega)]
    simp only [cond_true,cond_false,Bool.not_true,Bool.and_self]
    show (bif !seq (strOf (pre x P.length)) (strOf P) then some (-1) else _)=_
    cases seq (strOf (pre x P.length)) (strOf P)<;>rfl
 have stp:∀(rec:Int×ByteArray×ByteArray×Int×List Branch→Option Int) (v:Int) (n:Nat) (x:Branch),bok n x→spec_l07Count.step11 N slf b (P.length:Int) (strOf P) most (spec_l07Count.lp21 N slf b (P.length:Int) (strOf P) most) rec (v,x.Key,x.Value,x.At,x.Kids)=bif decide (v<256) && !lfB x then rec (w64 (v+1),(x.Kids.getD 0 Branch.dz).Key,(x.Kids.getD 0 Branch.dz).Value,(x.Kids.getD 0 Branch.dz).At,(x.Kids.getD 0 Branch.dz).Kids) else fin N slf b P most x:=by
  intro rec v n x hx
  rw [← fino n x hx]
  unfold spec_l07Count.step11
  simp only [spec_l07Leaf.m,ob_some,l02Key]
  cases hv:decide (v<256) with
  | false=>rfl
  | true=>
   cases hl:lfB x with
   | true=>
    unfold lfB at hl
    rw [hl];rfl
   | false=>
    have e3:decide ((0:Int)<(x.Kids.length:Int))=true:=by
     unfold lfB at hl
     rw [beq_eq_false_iff_ne] at hl
     exact decide_eq_true (by omega)
    unfold lfB at hl
    rw [hl,e3];rfl
 intro k
 induction k with
 | zero=>
  intro K n x _ hK hx
  obtain ⟨K,rfl⟩:∃j,K=j+1:=⟨K - 1,by omega⟩
  rw [miter_s,stp _ _ n x hx,decide_eq_false (show ¬ ((256:Int) - ((0:Nat):Int)<256) by omega)]
  rfl
 | succ k ih=>
  intro K n x hk hK hx
  obtain ⟨K,rfl⟩:∃j,K=j+1:=⟨K - 1,by omega⟩
  rw [miter_s,stp _ _ n x hx,decide_eq_true (show ((256:Int) - ((k+1:Nat):Int)<256) by omega),Bool.true_and]
  cases hk':x.Kids with
  | nil=>
   rw [dn_leaf hk',(lfB_iff x).2 hk'];rfl
  | cons y r=>
   have e:lfB x=false:=by
    cases h:lfB x with
    | false=>rfl
    | true=>rw [(lfB_iff x).1 h] at hk';cases hk'
   have e2:w64 ((256:Int) - ((k+1:Nat):Int)+1)=(256:Int) - (k:Int):=by rw [w_small (by omega) (by omega)];omega
   have e4:dn (k+1) x=dn k y:=by
    show (match x.Kids with | []=>x | y::_=>dn k y)=_
    rw [hk']
   have e5:(y::r).getD 0 Branch.dz=y:=rfl
   rw [e,Bool.not_false,cond_true,e2,e4,e5]
   cases n with
   | zero=>exact hx.elim
   | succ n=>
    have hy:bok n y:=hx.2.2.2 y (by rw [hk'];exact List.mem_cons_self)
    exact ih K n y (by omega) (by omega) hy
open Classical in
theorem specCount {N:Nat} (hN:Big N):∀(n f:Nat) (b:Branch) (P:List Int) (most:Int),n≤f→bok n b→isBy P→P.length≤256→-1000≤most→most≤40→spec_l07Count.mF N f b (P.length:Int) (strOf P) most=some (if C n b P∧((Lv n b).length:Int)≤most then ((Lv n b).length:Int) else -1)
 | 0,_,_,_,_,_,h,_,_,_,_=>h.elim
 | n+1,0,_,_,_,h,_,_,_,_,_=>by omega
 | n+1,f+1,b,P,most,hf,hb0,hP,hl,hm0,hm=>by
  show spec_l07Count.mb N (spec_l07Count.mF N f) b (P.length:Int) (strOf P) most=_
  unfold spec_l07Count.mb spec_l07Count.m0
  by_cases hm1:most<1
  ·rw [decide_eq_true hm1,cond_true,if_neg]
   rintro ⟨h1,h2⟩
   have:=C_pos h1
   omega
  rw [decide_eq_false hm1,cond_false]
  simp only [spec_l07Leaf.m,ob_some,l02Key]
  cases hk:b.Kids with
  | nil=>
   rw [Lv_leaf hk]
   simp only [List.length_nil]
   show (bif !keyB b then some (-1) else bif decide ((b.Value.size:Int) > 60) then some (-1) else bif (b.At != 256) then some (-1) else _)=_
   have key:(C (n+1) b P∧(([b].length:Nat):Int)≤most)↔(keyB b=true∧¬ ((b.Value.size:Int) > 60)∧b.At=256∧pre b P.length=P):=by
    rw [keyB_iff]
    constructor
    ·rintro ⟨⟨_,h2,h3,h4,_,h6⟩ | ⟨x,y,Q,A,h,_⟩,_⟩
     ·exact ⟨h2,by omega,h4,h6⟩
     ·rw [hk] at h;cases h
    ·rintro ⟨h1,h2,h3,h4⟩
     exact ⟨.inl ⟨hk,h1,by omega,h3,hl,h4⟩,by simp;omega⟩
   simp only [key]
   cases hkb:keyB b with
   | false=>simp
   | true=>
    by_cases hv:(b.Value.size:Int) > 60
    ·rw [decide_eq_true hv];simp [hv]
    rw [decide_eq_false hv]
    by_cases ha:b.At=256
    ·have hks:b.Key.size≤2097152:=by rw [keyB_iff] at hkb;have:=hkb.2;omega
     rw [l07Hash hN _ hks,ob_some,specBits hN _ (hb_size _),ob_some]
     rw [strOf_size,strOf_size,bitL_length,Int.toNat_natCast,strOf_take (bitL_by _ _),bitL_take _ hl]
     rw [decide_eq_true (show (0:Int)≤(P.length:Int) by omega),decide_eq_true (show (P.length:Int)≤((256:Nat):Int) by omega)]
     have es:seq (strOf (bitL (hb b.Key) P.length)) (strOf P)=decide (pre b P.length=P):=seq_dec (strOf_inj (bitL_by _ _) hP)
     have e256:(b.At != 256)=false:=by simp [ha]
     simp only [Bool.not_true,cond_false,cond_true,e256,es]
     by_cases hp:pre b P.length=P
     ·simp [hp,hv,ha]
     ·simp [hp]
    ·have e256:(b.At != 256)=true:=by simp [ha]
     simp [e256,ha]
  | cons x r=>
   have e:((((x::r).length:Nat):Int)==0)=false:=by rw [beq_eq_false_iff_ne];simp only [List.length_cons];omega
   rw [e,cond_false]
   have nol:∀ {p:Prop},(b.Kids=[]∧p)→False:=fun h=>by rw [hk] at h;cases h.1
   cases r with
   | nil=>
    rw [if_neg];rfl
    rintro ⟨h | ⟨x',y',Q,A,h,_⟩,_⟩
    ·exact nol h
    ·rw [hk] at h;cases h
   | cons y r=>
    cases r with
    | cons z r=>
     have e2:((((x::y::z::r).length:Nat):Int) != 2)=true:=by rw [bne_iff_ne];simp only [List.length_cons];omega
     rw [e2,cond_true,if_neg]
     rintro ⟨h | ⟨x',y',Q,A,h,_⟩,_⟩
     ·exact nol h
     ·rw [hk] at h;cases h
    | nil=>
     have e2:((([x,y].length:Nat):Int) != 2)=false:=rfl
     rw [e2,cond_false,cond_false,cond_false,l01In,ob_some,cond_false]
     have fk:C (n+1) b P↔(b.Key=ByteArray.empty∧b.Value=ByteArray.empty∧(P.length:Int)≤b.At∧b.At≤255∧∃Q:List Int,Q.length=b.At.toNat∧P=Q.take P.length∧C n x (Q++[48])∧C n y (Q++[49])):=by
      constructor
      ·rintro (h | ⟨x',y',Q,A,h1,h2,h3,h4,h5,h6,h7,h8,h9,h10⟩)
       ·exact (nol h).elim
       ·rw [hk] at h1
        obtain ⟨rfl,rfl⟩:x=x'∧y=y':=by simpa using h1
        exact ⟨h2,h3,by omega,by omega,Q,by omega,h8,h9,h10⟩
      ·rintro ⟨h1,h2,h3,h4,Q,h5,h6,h7,h8⟩
       exact .inr ⟨x,y,Q,b.At.toNat,hk,h1,h2,by omega,h5,by omega,by omega,h6,h7,h8⟩
     cases hq1:seq b.Key ByteArray.empty with
     | false=>
      rw [if_neg];rfl
      rintro ⟨h,_⟩
      have:=(fk.1 h).1
      rw [seq_iff.2 this] at hq1;cases hq1
     | true=>
     cases hq2:seq b.Value ByteArray.empty with
     | false=>
      rw [if_neg];rfl
      rintro ⟨h,_⟩
      have:=(fk.1 h).2.1
      rw [seq_iff.2 this] at hq2;cases hq2
     | true=>
     have hq1:=seq_iff.1 hq1
     have hq2:=seq_iff.1 hq2
     cases hq3:inB b.At (P.length:Int) 255 with
     | false=>
      rw [if_neg];rfl
      rintro ⟨h,_⟩
      have:=(fk.1 h).2.2
      unfold inB at hq3
      rw [decide_eq_true (show b.At≥(P.length:Int) from this.1),decide_eq_true (show b.At≤255 from this.2.1)] at hq3
      cases hq3
     | true=>
     unfold inB at hq3
     rw [Bool.and_eq_true,decide_eq_true_iff,decide_eq_true_iff] at hq3
     obtain ⟨hq3,hq4⟩:=hq3
     obtain ⟨A,hA⟩:∃A:Nat,b.At=(A:Int):=⟨b.At.toNat,by omega⟩
     have hA':b.At.toNat=A:=by rw [hA];rfl
     have bx:bok n x:=hb0.2.2.2 x (by rw [hk];exact List.mem_cons_self)
     have bY:bok n y:=hb0.2.2.2 y (by rw [hk];exact List.mem_cons_of_mem _ List.mem_cons_self)
     have hd:=descend hN (spec_l07Count.mF N f) b P most (by omega) hq4 256 N n x (Nat.le_refl _) (by omega) bx
     have hd':spec_l07Count.lp11 N (spec_l07Count.mF N f) b (P.length:Int) (strOf P) most ((0:Int),x.Key,x.Value,x.At,x.Kids)=fin N (spec_l07Count.mF N f) b P most (dn 256 x):=hd
     show spec_l07Count.lp11 N (spec_l07Count.mF N f) b (P.length:Int) (strOf P) most ((0:Int),x.Key,x.Value,x.At,x.Kids)=_
     rw [hd']
     have only:∀Q:List Int,Q.length=b.At.toNat→C n x (Q++[48])→lfB (dn 256 x)=true∧keyB (dn 256 x)=true∧Q=pre (dn 256 x) A:=by
      intro Q h1 h2
      obtain ⟨h3,h4⟩:=C_dn h2 (k:=256) (by omega)
      obtain ⟨h5,h6⟩:=C_all h2 _ h4
      refine ⟨(lfB_iff _).2 h3,(keyB_iff _).2 h5,?_⟩
      have h7:=congrArg (List.take A) h6
      rw [pre_take _ (by simp;omega),List.take_append_of_le_length (by omega),List.take_of_length_le (by omega)] at h7
      exact h7.symm
     generalize hz:dn 256 x=z at only
     unfold fin
     cases hzl:lfB z with
     | false=>
      rw [if_neg];rfl
      rintro ⟨h,_⟩
      obtain ⟨_,_,_,_,Q,h1,_,h2,_⟩:=fk.1 h
      have:=(only Q h1 h2).1
      rw [hzl] at this;cases this
     | true=>
     cases hzk:keyB z with
     | false=>
      rw [if_neg];rfl
      rintro ⟨h,_⟩
      obtain ⟨_,_,_,_,Q,h1,_,h2,_⟩:=fk.1 h
      have:=(only Q h1 h2).2.1
      rw [hzk] at this;cases this
     | true=>
     have es:seq (strOf (pre z P.length)) (strOf P)=decide (pre z P.length=P):=seq_dec (strOf_inj (isBy_pre _ _) hP)
     rw [es,Bool.and_self,cond_true]
     by_cases hp:pre z P.length=P
     ·rw [decide_eq_true hp,cond_true,hA']
      have fk2:C (n+1) b P↔C n x (pre z A++[48])∧C n y (pre z A++[49]):=by
       rw [fk]
       constructor
       ·rintro ⟨_,_,_,_,Q,h1,_,h2,h3⟩
        have:=(only Q h1 h2).2.2
        rw [← this];exact ⟨h2,h3⟩
       ·rintro ⟨h1,h2⟩
        exact ⟨hq1,hq2,hq3,hq4,pre z A,by rw [pre_length,hA'],by rw [pre_take _ (by omega)];exact hp.symm,h1,h2⟩
      have i48:isBy (pre z A++[48]):=by
       intro v hv
       rw [List.mem_append,List.mem_singleton] at hv
       rcases hv with hv | rfl
       ·exact isBy_pre _ _ v hv
       ·omega
      have i49:isBy (pre z A++[49]):=by
       intro v hv
       rw [List.mem_append,List.mem_singleton] at hv
       rcases hv with hv | rfl
       ·exact isBy_pre _ _ v hv
       ·omega
      have ix:=specCount hN n f x (pre z A++[48]) most (by omega) bx i48 (by simp [pre_length];omega) hm0 hm
      have el:∀c:Int,(((pre z A++[c]).length:Nat):Int)=w64 (b.At+1):=by
       intro c
       rw [w_small (by omega) (by omega)];simp only [List.length_append,pre_length,List.length_singleton];omega
      have e48:strOf (pre z A)++strOf [48]=strOf (pre z A++[48]):=strOf_append _ _
      have e49:strOf (pre z A)++strOf [49]=strOf (pre z A++[49]):=strOf_append _ _
      rw [Lv_fork hk]
      obtain ⟨M,hM⟩:∃M,N=M+3:=⟨N - 3,by omega⟩
      unfold spec_l07Count.lp21
      have un:∀(g:(ByteArray×Int×Int→Option Int)→(ByteArray×Int×Int→Option Int)) (s),miter g N s=g (g (g (miter g M))) s:=by rw [hM];intro g s;rfl
      rw [un]
      have wm0:w64 (most - 0)=most:=by rw [Int.sub_zero];exact w_small (by omega) (by omega)
      have r0:((b.Kids.getD (Int.toNat 0) Branch.dz))=x:=by rw [hk];rfl
      have r1:((b.Kids.getD (Int.toNat 1) Branch.dz))=y:=by rw [hk];rfl
      have kl:(b.Kids.length:Int)=2:=by rw [hk];rfl
      have s0:∀rec,spec_l07Count.step21 N (spec_l07Count.mF N f) b (P.length:Int) (strOf P) most rec (strOf (pre z A),0,0)=bif decide ((if C n x (pre z A++[48])∧((Lv n x).length:Int)≤most then ((Lv n x).length:Int) else -1)<0) then some (-1) else rec (strOf (pre z A),w64 (0+(if C n x (pre z A++[48])∧((Lv n x).length:Int)≤most then ((Lv n x).length:Int) else -1)),1):=by
       intro rec
       unfold spec_l07Count.step21
       simp only []
       rw [r0,brEta,kl,wm0,← el 48]
       have eb:strOf ([(wu8 ((48:Int)+(wu8 0)))])=strOf [48]:=rfl
       rw [eb,e48,ix,strOf_size]
       have esz:decide ((pre z A).length+(strOf [48]).size≤9223372036854775807)=true:=decide_eq_true (by rw [pre_length];show A+1≤_;omega)
       rw [esz]
       rfl
      rw [s0]
      by_cases hc0:C n x (pre z A++[48])∧((Lv n x).length:Int)≤most
      ·rw [if_pos hc0,decide_eq_false (by omega),cond_false]
       have ewl:w64 (0+((Lv n x).length:Int))=((Lv n x).length:Int):=by rw [Int.zero_add];exact w_small (by omega) (by omega)
       rw [ewl]
       have wm1:w64 (most - ((Lv n x).length:Int))=most - ((Lv n x).length:Int):=w_small (by omega) (by omega)
       have iy:=specCount hN n f y (pre z A++[49]) (most - ((Lv n x).length:Int)) (by omega) bY i49 (by simp [pre_length];omega) (by omega) (by omega)
       have s1:∀rec,spec_l07Count.step21 N (spec_l07Count.mF N f) b (P.length:Int) (strOf P) most rec (strOf (pre z A),((Lv n x).length:Int),1)=bif decide ((if C n y (pre z A++[49])∧((Lv n y).length:Int)≤most - ((Lv n x).length:Int) then ((Lv n y).length:Int) else -1)<0) then some (-1) else rec (strOf (pre z A),w64 (((Lv n x).length:Int)+(if C n y (pre z A++[49])∧((Lv n y).length:Int)≤most - ((Lv n x).length:Int) then ((Lv n y).length:Int) else -1)),2):=by
        intro rec
        unfold spec_l07Count.step21
        simp only []
        rw [r1,brEta,kl,wm1,← el 49]
        have eb:strOf ([(wu8 ((48:Int)+(wu8 1)))])=strOf [49]:=rfl
        rw [eb,e49,iy,strOf_size]
        have esz:decide ((pre z A).length+(strOf [49]).size≤9223372036854775807)=true:=decide_eq_true (by rw [pre_length];show A+1≤_;omega)
        rw [esz]
        rfl
       rw [s1]
       by_cases hc1:C n y (pre z A++[49])∧((Lv n y).length:Int)≤most - ((Lv n x).length:Int)
       ·rw [if_pos hc1,decide_eq_false (by omega),cond_false,if_pos ⟨fk2.2 ⟨hc0.1,hc1.1⟩,by rw [List.length_append];omega⟩]
        have ewl:w64 (((Lv n x).length:Int)+((Lv n y).length:Int))=((Lv n x++Lv n y).length:Int):=by rw [List.length_append,w_small (by omega) (by omega)];omega
        rw [ewl]
        rfl
       ·rw [if_neg hc1,if_neg];rfl
        rintro ⟨h1,h2⟩
        rw [List.length_append] at h2
        exact hc1 ⟨(fk2.1 h1).2,by omega⟩
      ·rw [if_neg hc0,if_neg];rfl
       rintro ⟨h1,h2⟩
       rw [List.length_append] at h2
       exact hc0 ⟨(fk2.1 h1).1,by omega⟩
     ·rw [decide_eq_false hp,cond_false,if_neg]
      rintro ⟨h,_⟩
      obtain ⟨_,_,_,_,Q,h1,h2,h3,_⟩:=fk.1 h
      have h4:=(only Q h1 h3).2.2
      rw [h4,pre_take _ (by omega)] at h2
      exact hp h2.symm
def prO (x:Branch):pairOf:=⟨x.Key,x.Value,hb x.Key⟩
theorem bitL_eq (h g:ByteArray) (A:Nat):bitL h A=bitL g A↔∀j,j<A→bt h j=bt g j:=by
 constructor
 ·intro e j hj
  have:=congrArg (fun l:List Int=>l[j]?) e
  simp only [bitL,List.getElem?_map,List.getElem?_range hj,Option.map_some,Option.some.injEq] at this
  omega
 ·intro e
  unfold bitL
  refine List.map_congr_left fun j hj=>?_
  rw [e j (List.mem_range.1 hj)]
theorem sameAhead {N:Nat} (hN:Big N) {h g:ByteArray} (hh:h.size=32) (hg:g.size=32) {A:Nat} (hA:A≤255):impl_sameAhead.m N h g (A:Int)=some (decide (bitL h A=bitL g A)):=by
 unfold impl_sameAhead.m impl_sameAhead.m0 impl_sameAhead.lp2
 have:=loop_all (step:=fun rec=>impl_sameAhead.step2 N h g (A:Int) rec) (n:=A) (st:=fun i=>(i:Int)) (p:=fun i=>bt h i==bt g i) (f:=some false) (t:=some true) (fun i hi rec=>by
  simp only [impl_sameAhead.step2,lt_dec hi,cond_true,implBit N hh (show i<256 by omega),implBit N hg (show i<256 by omega),ob_some]
  rw [w_up i _ hi (by omega)]
  by_cases e:bt h i=bt g i
  ·rw [e];simp
  ·have e1:(((bt h i:Nat):Int) != ((bt g i:Nat):Int))=true:=by rw [bne_iff_ne];omega
   have e2:(bt h i==bt g i)=false:=by rw [beq_eq_false_iff_ne];exact e
   rw [e1,e2];rfl) (fun rec=>by simp [impl_sameAhead.step2]) A 0 N (by omega) (by omega)
 refine (show _=_ from this).trans ?_
 have e:allF (fun i=>bt h i==bt g i) 0 A=decide (bitL h A=bitL g A):=by
  rw [Bool.eq_iff_iff,allF_iff,decide_eq_true_iff,bitL_eq]
  constructor
  ·intro k j hj;have:=k j (Nat.zero_le _) (by omega);simpa using this
  ·intro k j _ hj;simpa using k j (by omega)
 rw [e]
 cases decide (bitL h A=bitL g A)<;>rfl
theorem prO_at {l:List Branch} {j:Nat} (h:j<l.length):(l.map prO).getD j pairOf.dz=prO l[j]:=by
 rw [getD_at (by simpa using h),List.getElem_map]
theorem allF_mem {l:List Branch} {p:Branch→Bool}:allF (fun j=>p (l.getD j Branch.dz)) 0 l.length=true↔∀x∈l,p x=true:=by
 rw [allF_iff]
 constructor
 ·intro h x hx
  obtain ⟨j,hj,rfl⟩:=List.getElem_of_mem hx
  have:=h j (Nat.zero_le _) (by omega)
  rwa [getD_at hj] at this
 ·intro h j _ hj
  have hj:j<l.length:=by omega
  rw [getD_at hj]
  exact h _ (List.getElem_mem hj)
theorem contains1 {N:Nat} (hN:Big N) (l:List Branch) (b:Branch) (i:Int) {A:Nat} (hA:A≤255) (hb':b.At=(A:Int)) (hl:l.length≤1048576):∃y,slices_ContainsFunc_impl_pairOf_impl_pairOf__impl_Branch_pairs_1.m N (l.map prO) b i=some y∧(y=false↔∀x∈l,((bt (hb x.Key) A:Nat):Int)=i):=by
 unfold slices_ContainsFunc_impl_pairOf_impl_pairOf__impl_Branch_pairs_1.m slices_IndexFunc_impl_pairOf_impl_pairOf__impl_Branch_pairs_1.m slices_IndexFunc_impl_pairOf_impl_pairOf__impl_Branch_pairs_1.m0 slices_IndexFunc_impl_pairOf_impl_pairOf__impl_Branch_pairs_1.lp2
 rw [brEta]
 obtain ⟨y,hy,hd⟩:=loop_idx (step:=fun rec=>slices_IndexFunc_impl_pairOf_impl_pairOf__impl_Branch_pairs_1.step2 N (l.map prO) b i rec) (n:=l.length) (st:=fun j=>((l.length:Int),(j:Int))) (p:=fun j=>((bt (hb (l.getD j Branch.dz).Key) A:Nat):Int) != i) (fun j hj rec=>by
  have hll:(l.map prO).length=l.length:=List.length_map _
  simp only [slices_IndexFunc_impl_pairOf_impl_pairOf__impl_Branch_pairs_1.step2,lt_dec hj,nn_dec,cond_true,Int.toNat_natCast,hll,prO_at hj,brEta,impl_Branch_pairs_1.m,prO,hb',implBit N (hb_size _) (show A<256 by omega),ob_some,getD_at hj]
  rw [w_up j _ hj hl]) (fun rec=>by simp [slices_IndexFunc_impl_pairOf_impl_pairOf__impl_Branch_pairs_1.step2]) l.length 0 N (by omega) (by omega)
 have hy:miter (fun rec=>slices_IndexFunc_impl_pairOf_impl_pairOf__impl_Branch_pairs_1.step2 N (l.map prO) b i rec) N (((l.map prO).length:Int),0)=some y:=by rw [List.length_map];exact hy
 refine ⟨_,by rw [hy,ob_some],?_⟩
 rw [hd]
 have:=allF_mem (l:=l) (p:=fun x=>!(((bt (hb x.Key) A:Nat):Int) != i))
 rw [Bool.not_eq_false',this]
 simp
theorem contains2 {N:Nat} (hN:Big N) (l:List Branch) (b:Branch) {A:Nat} (hA:A≤255) (hb':b.At=(A:Int)) (hl:l.length≤1048576):∃y,slices_ContainsFunc_impl_pairOf_impl_pairOf__impl_Branch_pairs_2.m N (l.map prO) (l.map prO) b=some y∧(y=false↔∀x∈l,pre x A=pre (l.getD 0 Branch.dz) A):=by
 unfold slices_ContainsFunc_impl_pairOf_impl_pairOf__impl_Branch_pairs_2.m slices_IndexFunc_impl_pairOf_impl_pairOf__impl_Branch_pairs_2.m slices_IndexFunc_impl_pairOf_impl_pairOf__impl_Branch_pairs_2.m0 slices_IndexFunc_impl_pairOf_impl_pairOf__impl_Branch_pairs_2.lp2
 rw [brEta]
 obtain ⟨y,hy,hd⟩:=loop_idx (step:=fun rec=>slices_IndexFunc_impl_pairOf_impl_pairOf__impl_Branch_pairs_2.step2 N (l.map prO) (l.map prO) b rec) (n:=l.length) (st:=fun j=>((l.length:Int),(j:Int))) (p:=fun j=>!decide (pre (l.getD j Branch.dz) A=pre (l.getD 0 Branch.dz) A)) (fun j hj rec=>by
  have hll:(l.map prO).length=l.length:=List.length_map _
  have h0:0<l.length:=by omega
  simp only [slices_IndexFunc_impl_pairOf_impl_pairOf__impl_Branch_pairs_2.step2,lt_dec hj,nn_dec,cond_true,Int.toNat_natCast,hll,prO_at hj,prO_at h0,brEta,impl_Branch_pairs_2.m,decide_eq_true (show (0:Int)<(l.length:Int) by omega),show decide ((0:Int)≤0)=true from rfl,prO,hb',sameAhead hN (hb_size _) (hb_size _) hA,ob_some,getD_at hj,getD_at h0]
  rw [w_up j _ hj hl]
  rfl) (fun rec=>by simp [slices_IndexFunc_impl_pairOf_impl_pairOf__impl_Branch_pairs_2.step2]) l.length 0 N (by omega) (by omega)
 have hy:miter (fun rec=>slices_IndexFunc_impl_pairOf_impl_pairOf__impl_Branch_pairs_2.step2 N (l.map prO) (l.map prO) b rec) N (((l.map prO).length:Int),0)=some y:=by rw [List.length_map];exact hy
 refine ⟨_,by rw [hy,ob_some],?_⟩
 rw [hd]
 have:=allF_mem (l:=l) (p:=fun x=>!!decide (pre x A=pre (l.getD 0 Branch.dz) A))
 rw [Bool.not_eq_false',this]
 simp
theorem isKeyI (N:Nat) (x:Branch):impl_isKey.m N x.Key=some (keyB x):=by
 unfold impl_isKey.m;rw [within];rfl
def vlB (x:Branch):Bool:=decide ((x.Value.size:Int)≤60)
def isLf (x:Branch):Bool:=(x.At==256)&&(keyB x&&(vlB x&&lfB x))
theorem isLeafI (N:Nat) (x:Branch):impl_Branch_isLeaf.m N x=some (isLf x):=by
 unfold impl_Branch_isLeaf.m isLf impl_isValue.m
 rw [isKeyI]
 cases (x.At==256)<;>cases keyB x<;>first | rfl | (show (bif vlB x then some (lfB x) else some false)=_;cases vlB x<;>rfl)
def isFk (x:Branch):Bool:=seq x.Key ByteArray.empty&&(seq x.Value ByteArray.empty&&(inB x.At 0 255&&((x.Kids.length:Int)==2)))
theorem isForkI (N:Nat) (x:Branch):impl_Branch_isFork.m N x=some (isFk x):=by
 unfold impl_Branch_isFork.m isFk
 rw [within]
 cases seq x.Key ByteArray.empty<;>cases seq x.Value ByteArray.empty<;>cases inB x.At 0 255<;>rfl
theorem isLf_iff (x:Branch):isLf x=true↔x.Kids=[]∧keyP x∧x.Value.size≤60∧x.At=256:=by
 unfold isLf vlB
 rw [Bool.and_eq_true,Bool.and_eq_true,Bool.and_eq_true,keyB_iff,lfB_iff,beq_iff_eq,decide_eq_true_iff]
 constructor
 ·rintro ⟨h1,h2,h3,h4⟩;exact ⟨h4,h2,by omega,h1⟩
 ·rintro ⟨h1,h2,h3,h4⟩;exact ⟨h4,h2,by omega,h1⟩
theorem isFk_iff (b:Branch):isFk b=true↔b.Key=ByteArray.empty∧b.Value=ByteArray.empty∧0≤b.At∧b.At≤255∧∃x y,b.Kids=[x,y]:=by
 unfold isFk inB
 simp only [Bool.and_eq_true,seq_iff,decide_eq_true_iff,beq_iff_eq]
 constructor
 ·rintro ⟨h1,h2,⟨h3,h4⟩,h5⟩
  refine ⟨h1,h2,h3,h4,?_⟩
  match hk:b.Kids with
  | []=>rw [hk] at h5;simp at h5
  | [x]=>rw [hk] at h5;simp at h5
  | [x,y]=>exact ⟨x,y,rfl⟩
  | x::y::z::r=>rw [hk] at h5;simp only [List.length_cons] at h5;omega
 ·rintro ⟨h1,h2,h3,h4,x,y,h5⟩
  exact ⟨h1,h2,⟨h3,h4⟩,by rw [h5];rfl⟩
def Cx (n:Nat) (b:Branch) (lo:Nat):Prop:=∃P:List Int,P.length=lo∧C n b P
theorem snoc_inj {a b:List Int} {x y:Int} (h:a++[x]=b++[y]):a=b∧x=y:=by
 have:=List.append_inj' h rfl
 exact ⟨this.1,by simpa using this.2⟩
theorem Cx_fork {n:Nat} {b x y:Branch} {A lo:Nat} (hk:b.Kids=[x,y]) (h1:b.Key=ByteArray.empty) (h2:b.Value=ByteArray.empty) (h3:b.At=(A:Int)) (h4:A≤255) (h5:lo≤A) :
  Cx (n+1) b lo↔Cx n x (A+1)∧(∀l∈Lv n x,((bt (hb l.Key) A:Nat):Int)=0)∧Cx n y (A+1)∧(∀l∈Lv n y,((bt (hb l.Key) A:Nat):Int)=1)∧∀l∈Lv n x++Lv n y,pre l A=pre ((Lv n x++Lv n y).getD 0 Branch.dz) A:=by
 constructor
 ·rintro ⟨P,hP,⟨h,_⟩ | ⟨x',y',Q,A',k1,k2,k3,k4,k5,k6,k7,k8,k9,k10⟩⟩
  ·rw [hk] at h;cases h
  rw [hk] at k1
  obtain ⟨rfl,rfl⟩:x=x'∧y=y':=by simpa using k1
  obtain rfl:A=A':=by omega
  have bit:∀ {n:Nat} {z:Branch} {c:Int},C n z (Q++[c])→∀l∈Lv n z,pre l A=Q∧((48+bt (hb l.Key) A:Nat):Int)=c:=by
   intro n z c hz l hl
   have:=(C_all hz l hl).2
   rw [List.length_append,List.length_singleton,k5,pre_succ] at this
   exact snoc_inj this
  refine ⟨⟨_,by simp [k5],k9⟩,fun l hl=>by have:=(bit k9 l hl).2;omega,⟨_,by simp [k5],k10⟩,fun l hl=>by have:=(bit k10 l hl).2;omega,?_⟩
  have all:∀l∈Lv n x++Lv n y,pre l A=Q:=by
   intro l hl
   rcases List.mem_append.1 hl with hl | hl
   ·exact (bit k9 l hl).1
   ·exact (bit k10 l hl).1
  intro l hl
  have hp:=C_pos k9
  have hq:(Lv n x++Lv n y).getD 0 Branch.dz∈Lv n x++Lv n y:=by
   have h0:0<(Lv n x++Lv n y).length:=by rw [List.length_append];omega
   rw [getD_at h0];exact List.getElem_mem h0
  rw [all l hl,all _ hq]
 ·rintro ⟨⟨P0,p1,p2⟩,p3,⟨P1,q1,q2⟩,q3,r⟩
  generalize hf:pre ((Lv n x++Lv n y).getD 0 Branch.dz) A=Q at r
  have hQ:Q.length=A:=by rw [← hf,pre_length]
  have back:∀ {n:Nat} {z:Branch} {R:List Int} {c:Nat},C n z R→R.length=A+1→(∀l∈Lv n z,((bt (hb l.Key) A:Nat):Int)=(c:Int))→(∀l∈Lv n z,pre l A=Q)→R=Q++[((48+c:Nat):Int)]:=by
   intro n z R c hz hR hc hq
   have hp:=C_pos hz
   have hm:(Lv n z)[0]∈Lv n z:=List.getElem_mem hp
   have:=(C_all hz _ hm).2
   rw [hR,pre_succ,hq _ hm,show bt (hb (Lv n z)[0].Key) A=c from by have:=hc _ hm;omega] at this
   exact this.symm
  have e0:=back p2 p1 (c:=0) p3 (fun l hl=>r l (List.mem_append_left _ hl))
  have e1:=back q2 q1 (c:=1) q3 (fun l hl=>r l (List.mem_append_right _ hl))
  subst e0;subst e1
  exact ⟨Q.take lo,by rw [List.length_take];omega,.inr ⟨x,y,Q,A,hk,h1,h2,h3,hQ,by rw [List.length_take];omega,h4,by rw [List.length_take];congr 1;omega,p2,q2⟩⟩
theorem Cx_pos {n:Nat} {b:Branch} {lo:Nat} (h:Cx n b lo):0<(Lv n b).length:=by obtain ⟨P,_,h⟩:=h;exact C_pos h
theorem implPairs {N:Nat} (hN:Big N):∀(n f:Nat) (b:Branch) (lo:Nat) (rm:Int),n≤f→bok n b→lo≤256→0≤rm→rm≤40→∃(l:List pairOf) (ok:Bool) (r:Int),impl_Branch_pairs.mF N f b ((lo:Int) - 1) rm=some (l,ok,r)∧(ok=true↔Cx n b lo∧((Lv n b).length:Int)≤rm)∧(ok=true→l=(Lv n b).map prO∧r=rm - (Lv n b).length)
 | 0,_,_,_,_,_,h,_,_,_=>h.elim
 | n+1,0,_,_,_,h,_,_,_,_=>by omega
 | n+1,f+1,b,lo,rm,hf,hb0,hl,hr0,hr=>by
  show ∃(l:List pairOf) (ok:Bool) (r:Int),impl_Branch_pairs.mb N (impl_Branch_pairs.mF N f) b ((lo:Int) - 1) rm=some (l,ok,r)∧_
  unfold impl_Branch_pairs.mb impl_Branch_pairs.m0
  rw [brEta,isLeafI,ob_some]
  cases hlf:isLf b with
  | true=>
   have hlf:=(isLf_iff b).1 hlf
   rw [cond_true,implHash hN _ (by have:=hlf.2.1.2;omega),ob_some]
   have e:w64 (rm - 1)=rm - 1:=w_small (by omega) (by omega)
   rw [e,Lv_leaf hlf.1]
   refine ⟨_,_,_,rfl,?_,fun _=>⟨rfl,by simp⟩⟩
   rw [decide_eq_true_iff]
   constructor
   ·intro h
    exact ⟨⟨pre b lo,pre_length _ _,.inl ⟨hlf.1,hlf.2.1,hlf.2.2.1,hlf.2.2.2,by rw [pre_length];exact hl,by rw [pre_length]⟩⟩,by simp;omega⟩
   ·rintro ⟨_,h⟩
    simp at h;omega
  | false=>
   have nlf:¬ (b.Kids=[]∧keyP b∧b.Value.size≤60∧b.At=256):=fun h=>by rw [(isLf_iff b).2 h] at hlf;cases hlf
   rw [cond_false,isForkI,ob_some]
   cases hfk:isFk b with
   | false=>
    refine ⟨_,_,_,rfl,⟨fun h=>(by cases h),?_⟩,fun h=>(by cases h)⟩
    rintro ⟨⟨P,hP,⟨k1,k2,k3,k4,_⟩ | ⟨x,y,Q,A,k1,k2,k3,k4,k5,k6,k7,_⟩⟩,_⟩
    ·exact absurd ⟨k1,k2,k3,k4⟩ nlf
    ·have:=(isFk_iff b).2 ⟨k2,k3,by omega,by omega,x,y,k1⟩
     rw [hfk] at this;cases this
   | true=>
    obtain ⟨h1,h2,h3,h4,x,y,hk⟩:=(isFk_iff b).1 hfk
    rw [Bool.not_true,cond_false,cond_false]
    by_cases ha:b.At≤(lo:Int) - 1
    ·rw [decide_eq_true ha,cond_true]
     refine ⟨_,_,_,rfl,⟨fun h=>(by cases h),?_⟩,fun h=>(by cases h)⟩
     rintro ⟨⟨P,hP,⟨k1,k2,k3,k4,_⟩ | ⟨x,y,Q,A,k1,k2,k3,k4,k5,k6,k7,_⟩⟩,_⟩
     ·exact absurd ⟨k1,k2,k3,k4⟩ nlf
     ·omega
    rw [decide_eq_false ha,cond_false]
    obtain ⟨A,hA⟩:∃A:Nat,b.At=(A:Int):=⟨b.At.toNat,by omega⟩
    have cf:=Cx_fork (n:=n) hk h1 h2 hA (by omega) (show lo≤A by omega)
    have bx:bok n x:=hb0.2.2.2 x (by rw [hk];exact List.mem_cons_self)
    have bY:bok n y:=hb0.2.2.2 y (by rw [hk];exact List.mem_cons_of_mem _ List.mem_cons_self)
    have r0:((b.Kids.getD (Int.toNat 0) Branch.dz))=x:=by rw [hk];rfl
    have r1:((b.Kids.getD (Int.toNat 1) Branch.dz))=y:=by rw [hk];rfl
    have kl:(b.Kids.length:Int)=2:=by rw [hk];rfl
    have eA:b.At=((A+1:Nat):Int) - 1:=by omega
    rw [kl,Lv_fork hk,List.length_append]
    unfold impl_Branch_pairs.lp8
    obtain ⟨M,hM⟩:∃M,N=M+3:=⟨N - 3,by omega⟩
    have un:∀(g:(Int×Int×Int×List pairOf→Option impl_Branch_pairs.R)→(Int×Int×Int×List pairOf→Option impl_Branch_pairs.R)) (s),miter g N s=g (g (g (miter g M))) s:=by rw [hM];intro g s;rfl
    rw [un]
    obtain ⟨l0,ok0,q0,i1,i2,i3⟩:=implPairs hN n f x (A+1) rm (by omega) bx (by omega) hr0 hr
    rw [← eA] at i1
    have s0:∀rec,impl_Branch_pairs.step8 N (impl_Branch_pairs.mF N f) b ((lo:Int) - 1) rm rec (2,0,rm,[])=bif !ok0 then some ([],false,q0) else ob (slices_ContainsFunc_impl_pairOf_impl_pairOf__impl_Branch_pairs_1.m N l0 b 0) fun y5=>bif y5 then some ([],false,q0) else bif room (([]:List pairOf).length+l0.length) 48 then rec (2,1,q0,[]++l0) else none:=by
     intro rec
     unfold impl_Branch_pairs.step8
     simp only []
     rw [r0,brEta,brEta,kl,i1]
     rfl
    rw [s0]
    cases hk0:ok0 with
    | false=>
     refine ⟨_,_,_,rfl,⟨fun h=>(by cases h),?_⟩,fun h=>(by cases h)⟩
     rintro ⟨h,hle⟩
     have:=i2.2 ⟨(cf.1 h).1,by omega⟩
     rw [hk0] at this;cases this
    | true=>
    obtain ⟨c0,le0⟩:=i2.1 hk0
    obtain ⟨rfl,rfl⟩:=i3 hk0
    have p0:=Cx_pos c0
    obtain ⟨y5,j1,j2⟩:=contains1 hN (Lv n x) b 0 (show A≤255 by omega) hA (by omega)
    rw [Bool.not_true,cond_false,j1,ob_some]
    cases hy5:y5 with
    | true=>
     refine ⟨_,_,_,rfl,⟨fun h=>(by cases h),?_⟩,fun h=>(by cases h)⟩
     rintro ⟨h,_⟩
     have:=j2.2 (cf.1 h).2.1
     rw [hy5] at this;cases this
    | false=>
    have b0:=j2.1 hy5
    rw [cond_false,roomB (by simp;omega) (by omega),cond_true,List.nil_append]
    obtain ⟨l1,ok1,q1,m1,m2,m3⟩:=implPairs hN n f y (A+1) (rm - (Lv n x).length) (by omega) bY (by omega) (by omega) (by omega)
    rw [← eA] at m1
    have s1:∀rec,impl_Branch_pairs.step8 N (impl_Branch_pairs.mF N f) b ((lo:Int) - 1) rm rec (2,1,rm - (Lv n x).length,(Lv n x).map prO)=bif !ok1 then some ([],false,q1) else ob (slices_ContainsFunc_impl_pairOf_impl_pairOf__impl_Branch_pairs_1.m N l1 b 1) fun y5=>bif y5 then some ([],false,q1) else bif room (((Lv n x).map prO).length+l1.length) 48 then rec (2,2,q1,(Lv n x).map prO++l1) else none:=by
     intro rec
     unfold impl_Branch_pairs.step8
     simp only []
     rw [r1,brEta,brEta,kl,m1]
     rfl
    rw [s1]
    cases hk1:ok1 with
    | false=>
     refine ⟨_,_,_,rfl,⟨fun h=>(by cases h),?_⟩,fun h=>(by cases h)⟩
     rintro ⟨h,hle⟩
     have:=m2.2 ⟨(cf.1 h).2.2.1,by omega⟩
     rw [hk1] at this;cases this
    | true=>
    obtain ⟨c1,le1⟩:=m2.1 hk1
    obtain ⟨rfl,rfl⟩:=m3 hk1
    obtain ⟨y6,n1,n2⟩:=contains1 hN (Lv n y) b 1 (show A≤255 by omega) hA (by omega)
    rw [Bool.not_true,cond_false,n1,ob_some]
    cases hy6:y6 with
    | true=>
     refine ⟨_,_,_,rfl,⟨fun h=>(by cases h),?_⟩,fun h=>(by cases h)⟩
     rintro ⟨h,_⟩
     have:=n2.2 (cf.1 h).2.2.2.1
     rw [hy6] at this;cases this
    | false=>
    have b1:=n2.1 hy6
    rw [cond_false,roomB (by simp;omega) (by omega),cond_true,← List.map_append]
    obtain ⟨y7,o1,o2⟩:=contains2 hN (Lv n x++Lv n y) b (show A≤255 by omega) hA (by rw [List.length_append];omega)
    have s2:∀rec,impl_Branch_pairs.step8 N (impl_Branch_pairs.mF N f) b ((lo:Int) - 1) rm rec (2,2,rm - (Lv n x).length - (Lv n y).length,(Lv n x++Lv n y).map prO)=some ((Lv n x++Lv n y).map prO,!y7,rm - (Lv n x).length - (Lv n y).length):=by
     intro rec
     unfold impl_Branch_pairs.step8
     simp only []
     rw [brEta,brEta,o1]
     rfl
    rw [s2]
    refine ⟨_,_,_,rfl,?_,fun _=>⟨rfl,by omega⟩⟩
    rw [Bool.not_eq_true',o2,cf]
    constructor
    ·intro h;exact ⟨⟨c0,b0,c1,b1,h⟩,by omega⟩
    ·rintro ⟨⟨_,_,_,_,h⟩,_⟩;exact h
def emB (b:Branch):Bool:=seq b.Key ByteArray.empty&&(seq b.Value ByteArray.empty&&((b.At==0)&&((b.Kids.length:Int)==0)))
theorem l07Empty (N:Nat) (b:Branch):spec_l07Empty.m N b=some (emB b):=by
 unfold spec_l07Empty.m emB
 cases seq b.Key ByteArray.empty<;>cases seq b.Value ByteArray.empty<;>cases (b.At==0)<;>rfl
theorem isEmptyI (N:Nat) (b:Branch):impl_Branch_isEmpty.m N b=some (emB b):=by
 unfold impl_Branch_isEmpty.m emB
 cases seq b.Key ByteArray.empty<;>cases seq b.Value ByteArray.empty<;>cases (b.At==0)<;>rfl
open Classical in
noncomputable def gdB (n:Nat) (b:Branch):Bool:=decide (Cx n b 0∧((Lv n b).length:Int)≤40)
noncomputable def mapB (n:Nat) (b:Branch):Bool:=emB b||gdB n b
theorem Cx0 {n:Nat} {b:Branch}:Cx n b 0↔C n b []:=by
 constructor
 ·rintro ⟨P,h,hc⟩
  obtain rfl:=List.eq_nil_of_length_eq_zero h
  exact hc
 ·intro h;exact ⟨[],rfl,h⟩
open Classical in
theorem specMap {N:Nat} (hN:Big N) {n:Nat} (hn:n≤N) (b:Branch) (hb0:bok n b):spec_MapOK.m N b=some (mapB n b):=by
 unfold spec_MapOK.m mapB
 rw [brEta,l07Empty,ob_some]
 cases emB b with
 | true=>rfl
 | false=>
  rw [cond_false]
  have:=specCount hN n N b [] 40 hn hb0 (fun x hx=>absurd hx List.not_mem_nil) (Nat.zero_le _) (by omega) (by omega)
  rw [show spec_l07Count.m N b 0 ByteArray.empty 40=_ from this,ob_some,Bool.false_or,cond_false]
  unfold gdB
  rw [Cx0]
  by_cases h:C n b []∧((Lv n b).length:Int)≤40
  ·have:=C_pos h.1
   rw [if_pos h,decide_eq_true h,decide_eq_true (show ((Lv n b).length:Int) > 0 by omega)]
  ·rw [if_neg h,decide_eq_false h];rfl
open Classical in
theorem implPairs0 {N:Nat} (hN:Big N) {n:Nat} (hn:n≤N) (b:Branch) (hb0:bok n b):∃(l:List pairOf),impl_mapPairs.m N b=some (l,mapB n b)∧(emB b=true→l=[])∧(emB b=false→mapB n b=true→l=(Lv n b).map prO):=by
 unfold impl_mapPairs.m mapB
 rw [brEta,isEmptyI,ob_some]
 cases emB b with
 | true=>exact ⟨[],rfl,fun _=>rfl,fun h=>by cases h⟩
 | false=>
  obtain ⟨l,ok,r,h1,h2,h3⟩:=implPairs hN n N b 0 40 hn hb0 (by omega) (by omega) (by omega)
  rw [cond_false,show impl_Branch_pairs.m N b (-1) 40=_ from h1,ob_some]
  have e:ok=gdB n b:=by
   unfold gdB
   rw [Bool.eq_iff_iff,h2,decide_eq_true_iff]
  refine ⟨l,by rw [Bool.false_or,e],fun h=>(by cases h),fun _ h=>?_⟩
  rw [Bool.false_or,← e] at h
  exact (h3 h).1
theorem implMap {N:Nat} (hN:Big N) {n:Nat} (hn:n≤N) (b:Branch) (hb0:bok n b):impl_MapOK.m N b=some (mapB n b):=by
 unfold impl_MapOK.m
 obtain ⟨l,h,_⟩:=implPairs0 hN hn b hb0
 rw [brEta,h];rfl
def shB (a:List ByteArray):Bool:=allF (fun i=>!((((a.getD i ByteArray.empty).size:Nat):Int) != 32)) 0 a.length
theorem l06Hashes {N:Nat} (hN:Big N) (a:List ByteArray) (h:a.length≤1048576):spec_l06Hashes.m N a=some (!decide ((a.length:Int) > 64)&&shB a):=by
 unfold spec_l06Hashes.m spec_l06Hashes.m0
 refine ifNo ?_
 unfold spec_l06Hashes.lp4
 have:=loop_all (step:=fun rec=>spec_l06Hashes.step4 N a rec) (n:=a.length) (st:=fun i=>(i:Int)) (p:=fun i=>!((((a.getD i ByteArray.empty).size:Nat):Int) != 32)) (f:=some false) (t:=some true) (fun i hi rec=>by
  simp only [spec_l06Hashes.step4,lt_dec hi,nn_dec,cond_true,Int.toNat_natCast]
  rw [w_up i _ hi h]
  cases ((((a.getD i ByteArray.empty).size:Nat):Int) != 32)<;>rfl) (fun rec=>by simp [spec_l06Hashes.step4]) a.length 0 N (by omega) (by omega)
 refine (show _=_ from this).trans ?_
 unfold shB
 cases allF _ 0 a.length<;>rfl
theorem isHashI {N:Nat} (hN:Big N) (a:List ByteArray) (h:a.length≤1048576):impl_isHash.m N a=some (shB a):=by
 unfold impl_isHash.m slices_ContainsFunc_string_string__impl_isHash_1.m slices_IndexFunc_string_string__impl_isHash_1.m slices_IndexFunc_string_string__impl_isHash_1.m0 slices_IndexFunc_string_string__impl_isHash_1.lp2
 obtain ⟨y,hy,hd⟩:=loop_idx (step:=fun rec=>slices_IndexFunc_string_string__impl_isHash_1.step2 N a rec) (n:=a.length) (st:=fun j=>((a.length:Int),(j:Int))) (p:=fun i=>((((a.getD i ByteArray.empty).size:Nat):Int) != 32)) (fun j hj rec=>by
  simp only [slices_IndexFunc_string_string__impl_isHash_1.step2,lt_dec hj,nn_dec,cond_true,Int.toNat_natCast,impl_isHash_1.m,ob_some]
  rw [w_up j _ hj h]) (fun rec=>by simp [slices_IndexFunc_string_string__impl_isHash_1.step2]) a.length 0 N (by omega) (by omega)
 have hy:miter (fun rec=>slices_IndexFunc_string_string__impl_isHash_1.step2 N a rec) N ((a.length:Int),0)=some y:=hy
 rw [hy,ob_some,ob_some,hd,Bool.not_not];rfl
def sx (a:List Session) (i:Nat):Session:=a.getD i Session.dz
theorem sxe (a:List Session) (i:Nat):a.getD i Session.dz=sx a i:=rfl
def rpB (r:Reply):Bool:=inB r.Kind 0 6&&(inB r.Place 0 50&&decide ((r.Value.size:Int)≤60))
def seP (a:List Session) (i:Nat):Bool:=inB (sx a i).Id 0 65535&&(inB (sx a i).Seq 0 65535&&(!(decide (0<i)&&decide ((sx a (i - 1)).Id≥(sx a i).Id))&&rpB (sx a i).Last))
def seB (a:List Session):Bool:=allF (seP a) 0 a.length
theorem rpI (N:Nat) (r:Reply):impl_replyOK.m N r=some (rpB r):=by
 unfold impl_replyOK.m rpB
 rw [within,within]
 cases inB r.Kind 0 6<;>cases inB r.Place 0 50<;>rfl
theorem shortI (N:Nat) (a:Int):impl_isShort.m N a=some (inB a 0 65535):=by
 unfold impl_isShort.m;rw [within];rfl
theorem not60 (r:Reply) [Decidable ((r.Value.size:Int) > 60)]:decide ((r.Value.size:Int) > 60) = !decide ((r.Value.size:Int)≤60):=by
 rw [Bool.eq_iff_iff];simp
theorem specSes {N:Nat} (hN:Big N) (x:Ledger) (h:x.Sessions.length≤1048576):spec_LedgerOK.lp4 N x 0=some (seB x.Sessions):=by
 unfold spec_LedgerOK.lp4
 have:=loop_all (step:=fun rec=>spec_LedgerOK.step4 N x rec) (n:=x.Sessions.length) (st:=fun i=>(i:Int)) (p:=seP x.Sessions) (f:=some false) (t:=some true) (fun i hi rec=>by
  simp only [spec_LedgerOK.step4,lt_dec hi,nn_dec,cond_true,Int.toNat_natCast,l01In,ob_some]
  simp only [sxe]
  rw [w_up i _ hi h]
  unfold seP rpB
  have e60:decide (((sx x.Sessions i).Last.Value.size:Int)≤60) = !decide (((sx x.Sessions i).Last.Value.size:Int) > 60):=by rw [not60,Bool.not_not]
  rw [e60]
  generalize inB (sx x.Sessions i).Id 0 65535=b1
  generalize inB (sx x.Sessions i).Seq 0 65535=b2
  generalize inB (sx x.Sessions i).Last.Kind 0 6=b3
  generalize inB (sx x.Sessions i).Last.Place 0 50=b4
  cases b1;· rfl
  cases b2;· rfl
  by_cases h0:0<i
  ·have e:w64 ((i:Int) - 1)=((i - 1:Nat):Int):=w_dn i h0 (by omega)
   simp only [decide_eq_true (show (i:Int) > 0 by omega),cond_true,e,nn_dec,lt_dec (show i - 1<x.Sessions.length by omega),decide_eq_true h0,Bool.true_and,Int.toNat_natCast,sxe]
   by_cases h6:(sx x.Sessions (i - 1)).Id≥(sx x.Sessions i).Id
   ·simp only [h6,decide_true];rfl
   by_cases h60:((sx x.Sessions i).Last.Value.size:Int) > 60
   ·simp only [h6,h60,decide_true,decide_false];cases b3<;>cases b4<;>rfl
   ·simp only [h6,h60,decide_false];cases b3<;>cases b4<;>rfl
  ·rw [decide_eq_false (show ¬ (i:Int) > 0 by omega),decide_eq_false h0]
   by_cases h60:((sx x.Sessions i).Last.Value.size:Int) > 60
   ·simp only [h60,decide_true];cases b3<;>cases b4<;>rfl
   ·simp only [h60,decide_false];cases b3<;>cases b4<;>rfl) (fun rec=>by simp [spec_LedgerOK.step4]) x.Sessions.length 0 N (by omega) (by omega)
 refine (show _=_ from this).trans ?_
 unfold seB
 cases allF _ 0 x.Sessions.length<;>rfl
theorem implSes {N:Nat} (hN:Big N) (x:Ledger) (h:x.Sessions.length≤1048576):impl_LedgerOK.lp4 N x ((x.Sessions.length:Int),0)=some (seB x.Sessions):=by
 unfold impl_LedgerOK.lp4
 have:=loop_all (step:=fun rec=>impl_LedgerOK.step4 N x rec) (n:=x.Sessions.length) (st:=fun i=>((x.Sessions.length:Int),(i:Int))) (p:=seP x.Sessions) (f:=some false) (t:=some true) (fun i hi rec=>by
  simp only [impl_LedgerOK.step4,lt_dec hi,nn_dec,cond_true,Int.toNat_natCast,shortI,rpI,ob_some]
  simp only [sxe]
  rw [w_up i _ hi h]
  unfold seP
  generalize inB (sx x.Sessions i).Id 0 65535=b1
  generalize inB (sx x.Sessions i).Seq 0 65535=b2
  generalize rpB (sx x.Sessions i).Last=b3
  cases b1;· rfl
  cases b2;· rfl
  by_cases h0:0<i
  ·have e:w64 ((i:Int) - 1)=((i - 1:Nat):Int):=w_dn i h0 (by omega)
   simp only [decide_eq_true (show (i:Int) > 0 by omega),cond_true,e,nn_dec,lt_dec (show i - 1<x.Sessions.length by omega),decide_eq_true h0,Bool.true_and,Int.toNat_natCast,sxe]
   by_cases h6:(sx x.Sessions (i - 1)).Id≥(sx x.Sessions i).Id
   ·simp only [h6,decide_true];cases b3<;>rfl
   ·simp only [h6,decide_false];cases b3<;>rfl
  ·rw [decide_eq_false (show ¬ (i:Int) > 0 by omega),decide_eq_false h0]
   cases b3<;>rfl) (fun rec=>by simp [impl_LedgerOK.step4]) x.Sessions.length 0 N (by omega) (by omega)
 refine (show _=_ from this).trans ?_
 unfold seB
 cases allF _ 0 x.Sessions.length<;>rfl
noncomputable def ledB (n:Nat) (x:Ledger):Bool:=!decide ((x.Leaves.length:Int) > 50)&&(shB x.Leaves&&(mapB n x.Map&&(!decide ((x.Sessions.length:Int) > 8)&&seB x.Sessions)))
theorem specLed {N:Nat} (hN:Big N) {n:Nat} (hn:n≤N) (x:Ledger) (h:LedOK n x):spec_LedgerOK.m N x=some (ledB n x):=by
 unfold spec_LedgerOK.m spec_LedgerOK.m0 ledB
 rw [l06Hashes hN _ h.Leaves,brEta,specMap hN hn _ h.Map,specSes hN x h.Sessions]
 simp only [ob_some,cond_false]
 by_cases h5:(x.Leaves.length:Int) > 50
 ·rw [decide_eq_true h5];rfl
 rw [decide_eq_false h5,cond_false,decide_eq_false (show ¬ (x.Leaves.length:Int) > 64 by omega),Bool.not_false,Bool.true_and,Bool.true_and]
 exact ifNot (ifNot (ifNo rfl))
theorem implLed {N:Nat} (hN:Big N) {n:Nat} (hn:n≤N) (x:Ledger) (h:LedOK n x):impl_LedgerOK.m N x=some (ledB n x):=by
 unfold impl_LedgerOK.m impl_LedgerOK.m0 ledB
 rw [isHashI hN _ h.Leaves,brEta,implMap hN hn _ h.Map,implSes hN x h.Sessions]
 simp only [ob_some,cond_false]
 cases decide ((x.Leaves.length:Int) > 50)<;>cases shB x.Leaves<;>cases mapB n x.Map<;>cases decide ((x.Sessions.length:Int) > 8)<;>rfl
theorem capQ {n:Nat} (h:n≤4194304):decide (n≤9223372036854775807)=true:=decide_eq_true (by omega)
theorem sz1 (x:UInt8):(⟨#[x]⟩:ByteArray).size=1:=rfl
def ndQ (a b:ByteArray):ByteArray:=hb ((⟨#[1]⟩++a)++b)
theorem implNd {N:Nat} (hN:Big N) (a b:ByteArray) (ha:a.size=32) (hb':b.size=32):impl_nodeHash.m N a b=some (ndQ a b):=by
 unfold impl_nodeHash.m
 have hsz:((⟨#[1]⟩++a)++b:ByteArray).size=65:=by
  rw [size_append,size_append,ha,hb'];rfl
 rw [size_append,sz1,capQ (by omega),capQ (by omega),cond_true,cond_true,implHash hN _ (by omega)]
 rfl
def lfH (k v:ByteArray):ByteArray:=hb ((⟨#[0]⟩++(strOf [wu8 (k.size:Int)]++k))++v)
theorem implLf {N:Nat} (hN:Big N) (k v:ByteArray) (hk:k.size≤1048576) (hv:v.size≤1048570):impl_leafRoot.m N k v=some (lfH k v):=by
 unfold impl_leafRoot.m impl_counted.m
 have hsz:((⟨#[0]⟩++(strOf [wu8 (k.size:Int)]++k))++v:ByteArray).size=2+k.size+v.size:=by
  rw [size_append,size_append,size_append,strOf_size,sz1];simp;omega
 rw [number1 hN,ob_some,strOf_size,capQ (by simp;omega),cond_true,ob_some,size_append,size_append,size_append,strOf_size,sz1,capQ (by simp;omega),capQ (by simp;omega),cond_true,cond_true,implHash hN _ (by omega)]
 rfl
def fkH (a:Int) (x y:ByteArray):ByteArray:=hb (((⟨#[1]⟩++strOf [wu8 a])++x)++y)
theorem implFk {N:Nat} (hN:Big N) (a:Int) (x y:ByteArray) (hx:x.size=32) (hy:y.size=32):impl_forkRoot.m N a x y=some (fkH a x y):=by
 unfold impl_forkRoot.m
 have hsz:(((⟨#[1]⟩++strOf [wu8 a])++x)++y:ByteArray).size=66:=by
  rw [size_append,size_append,size_append,strOf_size,sz1,hx,hy];rfl
 rw [number1 hN,ob_some]
 simp only [size_append,strOf_size,sz1,hx,hy,List.length_singleton]
 rw [capQ (by omega),capQ (by omega),capQ (by omega),cond_true,cond_true,cond_true,implHash hN _ (by omega)]
 rfl
theorem shB_all {a:List ByteArray} (h:shB a=true):∀x∈a,x.size=32:=by
 intro x hx
 unfold shB at h
 rw [allF_iff] at h
 obtain ⟨j,hj,rfl⟩:=List.getElem_of_mem hx
 have:=h j (Nat.zero_le _) (by omega)
 rw [getD_at hj,Bool.not_eq_true',bne_eq_false_iff_eq] at this
 omega
theorem mapB_C {n:Nat} {b:Branch} (h:mapB n b=true) (em:emB b=false):C n b []∧(Lv n b).length≤40:=by
 classical
 unfold mapB gdB at h
 rw [em,Bool.false_or] at h
 have:=of_decide_eq_true h
 exact ⟨Cx0.1 this.1,by omega⟩
theorem bytesOf_by (s:ByteArray):isBy (bytesOf s):=by
 intro x hx
 simp only [bytesOf,List.mem_map] at hx
 obtain ⟨b,_,rfl⟩:=hx
 have:=b.toNat_lt
 omega
theorem strOf_bytesOf (s:ByteArray):strOf (bytesOf s)=s:=bytesOf_inj (strOf_bytes _ (bytesOf_by s))
theorem flat_snoc {α:Type} (g:α→List Int) (a:List α) (i:Nat) (hi:i<a.length):(a.take i).flatMap g++g a[i]=(a.take (i+1)).flatMap g:=by
 have ht:a.take (i+1)=a.take i++[a[i]]:=by rw [List.take_add_one,List.getElem?_eq_getElem hi];rfl
 rw [ht,List.flatMap_append];simp
theorem flat_len {α:Type} {g:α→List Int} {c:Nat}:∀ {l:List α},(∀x∈l,(g x).length≤c)→(l.flatMap g).length≤l.length * c
 | [],_=>by simp
 | x::l,h=>by
  have h1:=h x List.mem_cons_self
  have h2:=flat_len (l:=l) fun y hy=>h y (List.mem_cons_of_mem _ hy)
  rw [List.flatMap_cons,List.length_append,List.length_cons,Nat.succ_mul];omega
theorem flat_take {α:Type} {g:α→List Int} {c n:Nat} {l:List α} (h:∀x∈l,(g x).length≤c) (hn:l.length≤n) (i:Nat):((l.take i).flatMap g).length≤n * c:=by
 have h1:=flat_len (l:=l.take i) (g:=g) (c:=c) fun y hy=>h y (List.mem_of_mem_take hy)
 have h2:(l.take i).length≤n:=by rw [List.length_take];omega
 exact Nat.le_trans h1 (Nat.mul_le_mul_right _ h2)
theorem number2 {N:Nat} (hN:Big N) (x:Int):impl_number.m N x 2=some (strOf [wu8 (f8 x),wu8 x]):=by
 obtain ⟨M,rfl⟩:∃M,N=M+9:=⟨N - 9,by omega⟩
 unfold impl_number.m impl_number.m0 impl_number.lp3
 kernel_rfl
theorem countedI {N:Nat} (hN:Big N) (s:ByteArray) (h:s.size≤4194240):impl_counted.m N s=some (strOf ([wu8 (s.size:Int)]++bytesOf s)):=by
 unfold impl_counted.m
 rw [number1 hN,ob_some,strOf_size,capQ (by rw [List.length_singleton];omega),cond_true,← strOf_append,strOf_bytesOf]
theorem twoS (N:Nat) (x:Int) (h0:0≤x) (h1:x≤65535):spec_l02Two.m N x=some [wu8 (f8 x),wu8 x]:=by
 unfold spec_l02Two.m
 obtain ⟨k,rfl⟩:∃k:Nat,x=(k:Int):=⟨x.toNat,by omega⟩
 have e1:Int.tdiv (k:Int) 256=((k / 256:Nat):Int):=rfl
 have e2:w64 ((k / 256:Nat):Int)=((k / 256:Nat):Int):=w_small (by omega) (by omega)
 rw [e1,e2,f8_nat];rfl
def cmdO (x:Branch):Command:=⟨1,0,0,x.Key,x.Value⟩
def gP (x:Branch):List Int:=[wu8 (x.Key.size:Int)]++bytesOf x.Key++[wu8 (x.Value.size:Int)]++bytesOf x.Value
def gS (s:Session):List Int:=[wu8 (f8 s.Id),wu8 s.Id]++[wu8 (f8 s.Seq),wu8 s.Seq]++[wu8 s.Last.Kind,wu8 s.Last.Place,wu8 (s.Last.Value.size:Int)]++bytesOf s.Last.Value
def lsOf (n:Nat) (b:Branch):List Branch:=bif emB b then [] else Lv n b
def snA (lv:List ByteArray) (i:Nat):List Int:=[wu8 (lv.length:Int)]++(lv.take i).flatMap bytesOf
def snB (lv:List ByteArray) (ls:List Branch) (i:Nat):List Int:=(snA lv lv.length++[wu8 (ls.length:Int)])++(ls.take i).flatMap gP
def snC (lv:List ByteArray) (ls:List Branch) (ss:List Session) (i:Nat):List Int:=(snB lv ls ls.length++[wu8 (ss.length:Int)])++(ss.take i).flatMap gS
structure SnOK (lv:List ByteArray) (ls:List Branch) (ss:List Session):Prop where
 nl:lv.length≤50
 l:∀x∈lv,x.size=32
 np:ls.length≤40
 p:∀x∈ls,x.Key.size≤24∧x.Value.size≤60
 ns:ss.length≤8
 s:∀x∈ss,0≤x.Id∧x.Id≤65535∧0≤x.Seq∧x.Seq≤65535∧x.Last.Value.size≤60
variable {lv:List ByteArray} {ls:List Branch} {ss:List Session}
theorem gP_len (h:SnOK lv ls ss):∀x∈ls,(gP x).length≤86:=by
 intro x hx
 have:=h.p x hx
 simp only [gP,List.length_append,bytesOf_length,List.length_singleton];omega
theorem gS_len (h:SnOK lv ls ss):∀x∈ss,(gS x).length≤67:=by
 intro x hx
 have:=h.s x hx
 simp only [gS,List.length_append,bytesOf_length,List.length_cons,List.length_nil];omega
theorem snA_len (h:SnOK lv ls ss) (i:Nat):(snA lv i).length≤1601:=by
 have:=flat_take (g:=bytesOf) (c:=32) (n:=50) (fun x hx=>by rw [bytesOf_length,h.l x hx];exact Nat.le_refl _) h.nl i
 simp only [snA,List.length_append,List.length_singleton];omega
theorem snB_len (h:SnOK lv ls ss) (i:Nat):(snB lv ls i).length≤5042:=by
 have:=flat_take (gP_len h) h.np i
 have:=snA_len h lv.length
 simp only [snB,List.length_append,List.length_singleton];omega
theorem snC_len (h:SnOK lv ls ss) (i:Nat):(snC lv ls ss i).length≤5579:=by
 have:=flat_take (gS_len h) h.ns i
 have:=snB_len h ls.length
 simp only [snC,List.length_append,List.length_singleton];omega
theorem snA_snoc {i:Nat} (hi:i<lv.length):snA lv i++bytesOf lv[i]=snA lv (i+1):=by
 rw [snA,snA,List.append_assoc,flat_snoc _ _ _ hi]
theorem snB_snoc {i:Nat} (hi:i<ls.length):snB lv ls i++gP ls[i]=snB lv ls (i+1):=by
 rw [snB,snB,List.append_assoc,flat_snoc _ _ _ hi]
theorem snC_snoc {i:Nat} (hi:i<ss.length):snC lv ls ss i++gS ss[i]=snC lv ls ss (i+1):=by
 rw [snC,snC,List.append_assoc,flat_snoc _ _ _ hi]
theorem cmd_at {j:Nat} (h:j<ls.length):(ls.map cmdO).getD j Command.dz=cmdO ls[j]:=by
 rw [getD_at (by simpa using h),List.getElem_map]
theorem roomT {n:Nat} (h:n≤100000):room n 1=true:=roomS (by omega)
theorem snapC {N:Nat} (hN:Big N) (x:Ledger) (h:SnOK lv ls x.Sessions):spec_l09Snapshot.lp15 N x (0,snC lv ls x.Sessions 0)=some (snC lv ls x.Sessions x.Sessions.length):=by
 unfold spec_l09Snapshot.lp15
 have hs:=h.ns
 exact miter_up (step:=fun rec=>spec_l09Snapshot.step15 N x rec) (n:=x.Sessions.length) (st:=fun i=>((i:Int),snC lv ls x.Sessions i)) (fun i hi rec=>by
  have hx:=h.s _ (List.getElem_mem hi)
  have hl:=snC_len h i
  have hg:=gS_len h _ (List.getElem_mem hi)
  simp only [spec_l09Snapshot.step15,lt_dec hi,nn_dec,cond_true,Int.toNat_natCast,getD_at hi,twoS N _ hx.1 hx.2.1,twoS N _ hx.2.2.1 hx.2.2.2.1,ob_some]
  simp only [gS,List.length_append,List.length_cons,List.length_nil,bytesOf_length] at hg
  simp only [List.length_append,List.length_cons,List.length_nil,bytesOf_length]
  rw [roomT (by omega),roomT (by omega),roomT (by omega),roomT (by omega),w_up i _ hi (by omega),← snC_snoc hi]
  simp only [cond_true,gS,List.append_assoc]) (fun rec=>by simp [spec_l09Snapshot.step15]) x.Sessions.length 0 N (by omega) (by omega)
theorem snapB {N:Nat} (hN:Big N) (x:Ledger) (h:SnOK lv ls x.Sessions):spec_l09Snapshot.lp9 N x (0,snB lv ls 0,ls.map cmdO)=some (snC lv ls x.Sessions x.Sessions.length):=by
 unfold spec_l09Snapshot.lp9
 have hs:=h.np
 exact miter_up (step:=fun rec=>spec_l09Snapshot.step9 N x (spec_l09Snapshot.lp15 N x) rec) (n:=ls.length) (st:=fun i=>((i:Int),snB lv ls i,ls.map cmdO)) (fun i hi rec=>by
  have hx:=h.p _ (List.getElem_mem hi)
  have hl:=snB_len h i
  simp only [spec_l09Snapshot.step9,List.length_map,lt_dec hi,nn_dec,cond_true,Int.toNat_natCast,cmd_at hi]
  simp only [cmdO,List.length_append,List.length_cons,List.length_nil,bytesOf_length]
  rw [roomT (by omega),roomT (by omega),roomT (by omega),roomT (by omega),w_up i _ hi (by omega),← snB_snoc hi]
  simp only [cond_true,gP,List.append_assoc]) (fun rec=>by
  have hl:=snB_len h ls.length
  simp only [spec_l09Snapshot.step9,List.length_map,ge_dec,cond_false]
  rw [roomT (by rw [List.length_singleton];omega),cond_true,← snapC hN x h]
  simp [snC]) ls.length 0 N (by omega) (by omega)
theorem listS {N:Nat} (hN:Big N):∀(n f:Nat) (b:Branch) (P:List Int) (a:List Command),n≤f→C n b P→a.length+(Lv n b).length≤1000→spec_l07List.mF N f b a=some (a++(Lv n b).map cmdO)
 | 0,_,_,_,_,_,h,_=>h.elim
 | n+1,0,_,_,_,h,_,_=>by omega
 | n+1,f+1,b,P,a,hf,.inl ⟨h1,h2,h3,h4,_⟩,hl=>by
  have em:emB b=false:=by
   unfold emB;rw [h4]
   cases seq b.Key ByteArray.empty<;>cases seq b.Value ByteArray.empty<;>rfl
  rw [Lv_leaf h1] at hl ⊢
  rw [List.length_singleton] at hl
  show spec_l07List.mb N (spec_l07List.mF N f) b a=_
  unfold spec_l07List.mb spec_l07Leaf.m
  rw [brEta,l07Empty,ob_some,em,cond_false,ob_some,brEta,h1,roomB (by rw [List.length_singleton];omega) (by omega)]
  rfl
 | n+1,f+1,b,P,a,hf,.inr ⟨x,y,Q,A,h1,h2,h3,h4,_,_,h7,_,hx,hy⟩,hl=>by
  rw [Lv_fork h1,List.length_append] at hl
  have i1:=listS hN n f x _ a (by omega) hx (by omega)
  have i2:=listS hN n f y _ (a++(Lv n x).map cmdO) (by omega) hy (by rw [List.length_append,List.length_map];omega)
  have em:emB b=false:=by
   unfold emB;rw [h1]
   cases seq b.Key ByteArray.empty<;>cases seq b.Value ByteArray.empty<;>cases (b.At==0)<;>rfl
  have g0:b.Kids.getD 0 Branch.dz=x:=by rw [h1];rfl
  have g1:b.Kids.getD 1 Branch.dz=y:=by rw [h1];rfl
  have kl:(b.Kids.length:Int)=2:=by rw [h1];rfl
  show spec_l07List.mb N (spec_l07List.mF N f) b a=_
  unfold spec_l07List.mb spec_l07Leaf.m
  rw [brEta,l07Empty,ob_some,em,cond_false,ob_some,brEta,g0,g1,brEta,i1,ob_some,i2,ob_some,kl,Lv_fork h1,List.map_append,List.append_assoc]
  rfl
theorem C_val:∀ {n:Nat} {b:Branch} {P:List Int},C n b P→∀l∈Lv n b,l.Value.size≤60
 | 0,_,_,h=>h.elim
 | n+1,b,P,.inl ⟨h1,_,h3,_⟩=>by
  intro l hl
  rw [Lv_leaf h1,List.mem_singleton] at hl
  subst hl
  exact h3
 | n+1,b,P,.inr ⟨x,y,Q,A,h1,_,_,_,_,_,_,_,hx,hy⟩=>by
  intro l hl
  rw [Lv_fork h1,List.mem_append] at hl
  rcases hl with hl | hl
  ·exact C_val hx l hl
  ·exact C_val hy l hl
theorem listM {N:Nat} (hN:Big N) {n:Nat} (hn:n≤N) (b:Branch) (h:mapB n b=true):spec_l07List.m N b []=some ((lsOf n b).map cmdO):=by
 cases em:emB b with
 | false=>
  obtain ⟨h1,h2⟩:=mapB_C h em
  have:=listS hN n N b [] [] hn h1 (by simp;omega)
  rw [List.nil_append] at this
  rw [lsOf,em]
  exact this
 | true=>
  obtain ⟨M,hM⟩:∃M,N=M+1:=⟨N - 1,by omega⟩
  have:spec_l07List.m N b []=spec_l07List.mb N (spec_l07List.mF N M) b []:=by unfold spec_l07List.m;rw [show spec_l07List.mF N N=spec_l07List.mF N (M+1) by rw [← hM]];rfl
  rw [this,lsOf,em]
  unfold spec_l07List.mb
  rw [brEta,l07Empty,ob_some,em]
  rfl
theorem ledSn {n:Nat} {x:Ledger} (h:ledB n x=true):mapB n x.Map=true∧SnOK x.Leaves (lsOf n x.Map) x.Sessions:=by
 unfold ledB at h
 simp only [Bool.and_eq_true,Bool.not_eq_true',decide_eq_false_iff_not] at h
 obtain ⟨k1,k2,k3,k4,k5⟩:=h
 refine ⟨k3,by omega,shB_all k2,?_,?_,by omega,?_⟩
 ·cases em:emB x.Map with
  | true=>rw [lsOf,em];exact Nat.zero_le _
  | false=>rw [lsOf,em];exact (mapB_C k3 em).2
 ·cases em:emB x.Map with
  | true=>rw [lsOf,em];intro y hy;exact absurd hy List.not_mem_nil
  | false=>
   rw [lsOf,em]
   intro y hy
   exact ⟨(C_all (mapB_C k3 em).1 y hy).1.2,C_val (mapB_C k3 em).1 y hy⟩
 ·intro s hs
  obtain ⟨j,hj,rfl⟩:=List.getElem_of_mem hs
  unfold seB at k5
  rw [allF_iff] at k5
  have:=k5 j (Nat.zero_le _) (by omega)
  unfold seP rpB inB at this
  rw [sx,getD_at hj] at this
  simp only [Bool.and_eq_true,decide_eq_true_eq] at this
  have h3:decide (((x.Sessions[j]).Last.Value.size:Int)≤60)=true:=decide_eq_true this.2.2.2.2.2
  exact ⟨this.1.1,this.1.2,this.2.1.1,this.2.1.2,by have:=of_decide_eq_true h3;omega⟩
def snap (n:Nat) (x:Ledger):List Int:=snC x.Leaves (lsOf n x.Map) x.Sessions x.Sessions.length
theorem specSnap {N:Nat} (hN:Big N) {n:Nat} (hn:n≤N) (x:Ledger) (h:ledB n x=true):spec_l09Snapshot.m N x=some (snap n x):=by
 obtain ⟨hm,hs⟩:=ledSn h
 unfold spec_l09Snapshot.m spec_l09Snapshot.m0 spec_l09Snapshot.lp3
 have hl:=hs.nl
 have:=miter_up (step:=fun rec=>spec_l09Snapshot.step3 N x (spec_l09Snapshot.lp9 N x) rec) (n:=x.Leaves.length) (st:=fun i=>((i:Int),snA x.Leaves i)) (r:=some (snap n x)) (fun i hi rec=>by
  have hl:=snA_len hs i
  have hx:=hs.l _ (List.getElem_mem hi)
  simp only [spec_l09Snapshot.step3,lt_dec hi,nn_dec,cond_true,Int.toNat_natCast,getD_at hi]
  rw [roomT (by rw [bytesOf_length];omega),cond_true,w_up i _ hi (by omega),snA_snoc hi]) (fun rec=>by
  have hl:=snA_len hs x.Leaves.length
  simp only [spec_l09Snapshot.step3,ge_dec,cond_false]
  rw [brEta,listM hN hn _ hm,ob_some,roomT (by rw [List.length_singleton];omega),cond_true,snap,← snapB hN x hs]
  simp [snB]) x.Leaves.length 0 N (by omega) (by omega)
 refine Eq.trans ?_ this
 simp [snA]
theorem snapIC {N:Nat} (hN:Big N) (x:Ledger) (h:SnOK lv ls ss):impl_snapshot.lp16 N x (strOf (snC lv ls ss 0),(ss.length:Int),0,ss)=some (strOf (snC lv ls ss ss.length)):=by
 unfold impl_snapshot.lp16
 have hs:=h.ns
 exact miter_up (step:=fun rec=>impl_snapshot.step16 N x rec) (n:=ss.length) (st:=fun i=>(strOf (snC lv ls ss i),(ss.length:Int),(i:Int),ss)) (fun i hi rec=>by
  have hx:=h.s _ (List.getElem_mem hi)
  have hl:=snC_len h i
  have hg:=gS_len h _ (List.getElem_mem hi)
  simp only [impl_snapshot.step16,lt_dec hi,nn_dec,cond_true,Int.toNat_natCast,getD_at hi,number2 hN,number1 hN,countedI hN _ (show (ss[i]).Last.Value.size≤4194240 by omega),ob_some,strOf_append,strOf_size]
  simp only [gS,List.length_append,List.length_cons,List.length_nil,bytesOf_length] at hg
  simp only [List.length_append,List.length_cons,List.length_nil,bytesOf_length]
  rw [capQ (by omega),capQ (by omega),capQ (by omega),capQ (by omega),capQ (by omega),w_up i _ hi (by omega),← snC_snoc hi]
  simp only [cond_true,gS,List.append_assoc,List.cons_append,List.nil_append]) (fun rec=>by simp [impl_snapshot.step16]) ss.length 0 N (by omega) (by omega)
theorem snapIB {N:Nat} (hN:Big N) (x:Ledger) (h:SnOK lv ls ss):impl_snapshot.lp10 N x (strOf (snB lv ls 0),(ls.length:Int),0,lv,ls.map prO,ss)=some (strOf (snC lv ls ss ss.length)):=by
 unfold impl_snapshot.lp10
 have hs:=h.np
 exact miter_up (step:=fun rec=>impl_snapshot.step10 N x (impl_snapshot.lp16 N x) rec) (n:=ls.length) (st:=fun i=>(strOf (snB lv ls i),(ls.length:Int),(i:Int),lv,ls.map prO,ss)) (fun i hi rec=>by
  have hx:=h.p _ (List.getElem_mem hi)
  have hl:=snB_len h i
  simp only [impl_snapshot.step10,List.length_map,lt_dec hi,nn_dec,cond_true,Int.toNat_natCast,prO_at hi]
  simp only [prO,countedI hN _ (show (ls[i]).Key.size≤4194240 by omega),countedI hN _ (show (ls[i]).Value.size≤4194240 by omega),ob_some,strOf_append,strOf_size]
  simp only [List.length_append,List.length_cons,List.length_nil,bytesOf_length]
  rw [capQ (by omega),capQ (by omega),w_up i _ hi (by omega),← snB_snoc hi]
  simp only [cond_true,gP,List.append_assoc]) (fun rec=>by
  have hl:=snB_len h ls.length
  simp only [impl_snapshot.step10,ge_dec,cond_false,number1 hN,ob_some,strOf_append,strOf_size]
  rw [capQ (by rw [List.length_singleton];omega),cond_true,← snapIC hN x h]
  simp [snC]) ls.length 0 N (by omega) (by omega)
theorem cloneS (N:Nat) (a:List ByteArray) (h:a.length≤1048576):slices_Clone_string_string.m N a=some a:=by
 unfold slices_Clone_string_string.m
 rw [roomB (by simpa using h) (by omega),cond_true,List.nil_append]
 exact amb_right fun hp=>by rw [List.isEmpty_iff] at hp;rw [hp]
theorem cloneSe (N:Nat) (a:List Session) (h:a.length≤1048576):slices_Clone_impl_Session_impl_Session.m N a=some a:=by
 unfold slices_Clone_impl_Session_impl_Session.m
 rw [roomB (by simpa using h) (by omega),cond_true,List.nil_append]
 exact amb_right fun hp=>by rw [List.isEmpty_iff] at hp;rw [hp]
theorem pairsM {N:Nat} (hN:Big N) {n:Nat} (hn:n≤N) (b:Branch) (hb0:bok n b) (h:mapB n b=true):impl_mapPairs.m N b=some ((lsOf n b).map prO,true):=by
 obtain ⟨l,h1,h2,h3⟩:=implPairs0 hN hn b hb0
 rw [h1,h,lsOf]
 cases em:emB b with
 | true=>rw [h2 em];rfl
 | false=>rw [h3 em h];rfl
theorem implSnap {N:Nat} (hN:Big N) {n:Nat} (hn:n≤N) (x:Ledger) (hx:LedOK n x) (h:ledB n x=true):impl_snapshot.m N x=some (strOf (snap n x)):=by
 obtain ⟨hm,hs⟩:=ledSn h
 unfold impl_snapshot.m impl_snapshot.m0 impl_booksOf.m
 rw [ledEta,brEta,pairsM hN hn _ hx.Map hm,ob_some,cloneS N _ hx.Leaves,ob_some,cloneSe N _ hx.Sessions,ob_some,ob_some,number1 hN,ob_some]
 have hl:=hs.nl
 unfold impl_snapshot.lp4
 have:=miter_up (step:=fun rec=>impl_snapshot.step4 N x (impl_snapshot.lp10 N x) rec) (n:=x.Leaves.length) (st:=fun i=>(strOf (snA x.Leaves i),(x.Leaves.length:Int),(i:Int),x.Leaves,(lsOf n x.Map).map prO,x.Sessions)) (r:=some (strOf (snap n x))) (fun i hi rec=>by
  have hl:=snA_len hs i
  have hx:=hs.l _ (List.getElem_mem hi)
  simp only [impl_snapshot.step4,lt_dec hi,nn_dec,cond_true,Int.toNat_natCast,getD_at hi]
  rw [strOf_size,capQ (by omega),cond_true,w_up i _ hi (by omega),← snA_snoc hi,← strOf_append,strOf_bytesOf]) (fun rec=>by
  have hl:=snA_len hs x.Leaves.length
  simp only [impl_snapshot.step4,ge_dec,cond_false,number1 hN,ob_some,strOf_append,strOf_size,List.length_map]
  rw [capQ (by rw [List.length_singleton];omega),cond_true,snap,← snapIB hN x hs]
  simp [snB]) x.Leaves.length 0 N (by omega) (by omega)
 refine Eq.trans ?_ this
 simp [snA]
theorem wfB_up:∀ {n m:Nat} {b:Branch},n≤m→wfB n b→wfB m b
 | 0,_,_,_,h=>h.elim
 | n+1,0,_,h,_=>by omega
 | n+1,m+1,b,hm,⟨h1,h2,h3,h4⟩=>⟨h1,h2,h3,fun x hx=>wfB_up (by omega) (h4 x hx)⟩
theorem LedWf.up {n m:Nat} {x:Ledger} (hm:n≤m) (h:LedWf n x):LedWf m x:=⟨h.1,h.2,wfB_up hm h.3,h.4,h.5⟩
end Mir.Y
