/- Pure laws: what the copying, comparing, marking functions compute. -/
import Derived.Test.YtcgniikapdcfmaaRCM3
import Derived.Test.YtcgniikapdcfmaaEngC
namespace Mir.Y
set_option linter.unusedVariables false
set_option linter.unusedSimpArgs false
open Go
abbrev Big (N:Nat):Prop:=16777216≤N
theorem roomB {n b:Nat} (h:n≤1048576) (hb:b≤1024):room n b=true:=by
 have:=Nat.mul_le_mul h hb
 simp only [room,decide_eq_true_eq];omega
theorem lt_dec {i n:Nat} (h:i<n):decide ((i:Int)<(n:Int))=true:=decide_eq_true (by omega)
theorem nn_dec (i:Nat):decide (0≤(i:Int))=true:=decide_eq_true (by omega)
theorem ge_dec (n:Nat):decide ((n:Int)<(n:Int))=false:=decide_eq_false (by omega)
structure NodeSz (x:Node) (n:Nat):Prop where
 Log:x.Log.length≤n
 Start:x.Start.length≤n
 Votes:x.Votes.length≤n
 Next:x.Next.length≤n
 Match:x.Match.length≤n
def inB (a lo hi:Int):Bool:=decide (a≥lo)&&decide (a≤hi)
theorem l01In (N:Nat) (a lo hi:Int):spec_l01In.m N a lo hi=some (inB a lo hi):=by
 unfold spec_l01In.m inB
 cases decide (a≥lo)<;>rfl
theorem within (N:Nat) (a lo hi:Int):impl_within.m N a lo hi=some (inB a lo hi):=by
 unfold impl_within.m inB
 cases decide (a≥lo)<;>rfl
theorem isNumber (N:Nat) (a:Int):impl_isNumber.m N a=some (inB a 0 6):=by
 unfold impl_isNumber.m;rw [within];rfl
def numsB (f:Nat→Int) (n:Nat):Bool:=allF (fun i=>inB (f i) 0 6) 0 n
def riseB (f:Nat→Int) (n:Nat):Bool:=allF (fun i=>!decide (f (i - 1)≥f i)) 1 (n - 1)
def idsB (f:Nat→Int) (n:Nat):Bool:=allF (fun i=>inB (f i) 0 6 && !(decide (0<i)&&decide (f (i - 1)≥f i))) 0 n
theorem idsB_eq (f:Nat→Int) (n:Nat):idsB f n=(numsB f n&&riseB f n):=by
 rw [Bool.eq_iff_iff]
 simp only [idsB,numsB,riseB,Bool.and_eq_true,allF_iff,Bool.not_eq_true']
 constructor
 ·intro h
  refine ⟨fun j h1 h2=>(h j h1 h2).1,fun j h1 h2=>?_⟩
  have:=(h j (by omega) (by omega)).2
  rw [decide_eq_true (by omega),Bool.true_and] at this
  exact this
 ·rintro ⟨h1,h2⟩ j k1 k2
  refine ⟨h1 j k1 k2,?_⟩
  by_cases hj:0<j
  ·rw [h2 j (by omega) (by omega),Bool.and_false]
  ·rw [decide_eq_false hj];rfl
def ix (a:List Int) (i:Nat):Int:=a.getD i 0
theorem ixe (a:List Int) (i:Nat):a.getD i 0=ix a i:=rfl
theorem l10Ids {N:Nat} (hN:Big N) (a:List Int) (h:a.length≤1048576):spec_l10Ids.m N a=some (idsB (ix a) a.length):=by
 unfold spec_l10Ids.m spec_l10Ids.m0 spec_l10Ids.lp2
 have:=loop_all (step:=fun rec=>spec_l10Ids.step2 N a rec) (n:=a.length) (st:=fun i=>(i:Int)) (p:=fun i=>inB (ix a i) 0 6 && !(decide (0<i)&&decide (ix a (i - 1)≥ix a i))) (f:=some false) (t:=some true) (fun i hi rec=>by
  simp only [spec_l10Ids.step2,lt_dec hi,nn_dec,cond_true,Int.toNat_natCast,l01In,ob_some]
  simp only [ixe]
  cases h1:inB (ix a i) 0 6 with
  | false=>simp
  | true=>
   simp only [Bool.not_true,cond_false,Bool.true_and]
   by_cases h0:0<i
   ·have e:w64 ((i:Int) - 1)=((i - 1:Nat):Int):=w_dn i h0 (by omega)
    simp only [decide_eq_true (show (i:Int) > 0 by omega),cond_true,e,nn_dec,lt_dec (show i - 1<a.length by omega),Int.toNat_natCast,ixe,decide_eq_true h0,Bool.true_and,cond_false]
    cases decide (ix a (i - 1)≥ix a i) with
    | false=>simp only [cond_false,cond_true,Bool.not_false];rw [w_up i _ hi h]
    | true=>rfl
   ·rw [decide_eq_false (show ¬ (i:Int) > 0 by omega),decide_eq_false h0]
    simp only [cond_false,Bool.false_and,Bool.not_false,cond_true]
    rw [w_up i _ hi h]) (fun rec=>by simp [spec_l10Ids.step2]) a.length 0 N (by omega) (by omega)
 refine this.trans ?_
 unfold idsB
 cases allF _ 0 a.length<;>rfl
theorem areNumbers {N:Nat} (hN:Big N) (a:List Int) (h:a.length≤1048576):impl_areNumbers.m N a=some (numsB (ix a) a.length):=by
 unfold impl_areNumbers.m slices_ContainsFunc_int_int__impl_areNumbers_1.m slices_IndexFunc_int_int__impl_areNumbers_1.m slices_IndexFunc_int_int__impl_areNumbers_1.m0 slices_IndexFunc_int_int__impl_areNumbers_1.lp2
 obtain ⟨y,hy,hd⟩:=loop_idx (step:=fun rec=>slices_IndexFunc_int_int__impl_areNumbers_1.step2 N a rec) (n:=a.length) (st:=fun i=>((a.length:Int),(i:Int))) (p:=fun i=>!inB (ix a i) 0 6) (fun i hi rec=>by
  simp only [slices_IndexFunc_int_int__impl_areNumbers_1.step2,lt_dec hi,nn_dec,cond_true,Int.toNat_natCast,impl_areNumbers_1.m,within,ob_some]
  simp only [ixe];rw [w_up i _ hi h]) (fun rec=>by simp [slices_IndexFunc_int_int__impl_areNumbers_1.step2]) a.length 0 N (by omega) (by omega)
 have hy:miter (fun rec=>slices_IndexFunc_int_int__impl_areNumbers_1.step2 N a rec) N ((a.length:Int),0)=some y:=hy
 rw [hy,ob_some,ob_some,hd]
 simp [numsB]
theorem areRising {N:Nat} (hN:Big N) (a:List Int) (h:a.length≤1048576):impl_areRising.m N a=some (riseB (ix a) a.length):=by
 unfold impl_areRising.m impl_areRising.m0 impl_areRising.lp2
 rcases Nat.eq_zero_or_pos a.length with h0 | h0
 ·obtain rfl:=List.eq_nil_of_length_eq_zero h0
  obtain ⟨M,rfl⟩:∃M,N=M+1:=⟨N - 1,by omega⟩
  rfl
 have:=loop_all (step:=fun rec=>impl_areRising.step2 N a rec) (n:=a.length - 1) (st:=fun i=>((i+1:Nat):Int)) (p:=fun i=>!decide (ix a i≥ix a (i+1))) (f:=some false) (t:=some true) (fun i hi rec=>by
  have hi':i+1<a.length:=by omega
  have e:w64 (((i+1:Nat):Int) - 1)=(i:Int):=by rw [w_dn (i+1) (by omega) (by omega)];rfl
  have e2:w64 (((i+1:Nat):Int)+1)=((i+1+1:Nat):Int):=w_up (i+1) _ hi' h
  simp only [impl_areRising.step2,lt_dec hi',nn_dec,cond_true,e,lt_dec (show i<a.length by omega),Int.toNat_natCast,e2]
  simp only [ixe]
  by_cases hc:ix a i≥ix a (i+1)<;>simp [hc]) (fun rec=>by
   have:a.length - 1+1=a.length:=by omega
   simp only [this,impl_areRising.step2,ge_dec,cond_false]) (a.length - 1) 0 N (by omega) (by omega)
 refine (show _=_ from this).trans ?_
 have e:allF (fun i=>!decide (ix a i≥ix a (i+1))) 0 (a.length - 1)=riseB (ix a) a.length:=by
  unfold riseB
  rw [Bool.eq_iff_iff,allF_iff,allF_iff]
  constructor
  ·intro h j h1 h2
   have:=h (j - 1) (by omega) (by omega)
   rw [show j - 1+1=j by omega] at this
   exact this
  ·intro h j h1 h2
   exact h (j+1) (by omega) (by omega)
 rw [e]
 cases riseB (ix a) a.length<;>rfl
theorem membersOK {N:Nat} (hN:Big N) (a:List Int) (h:a.length≤1048576):impl_membersOK.m N a=some (decide (0<a.length)&&idsB (ix a) a.length):=by
 unfold impl_membersOK.m
 rw [areNumbers hN a h,areRising hN a h,idsB_eq]
 by_cases h0:0<a.length
 ·rw [decide_eq_true (show (a.length:Int) > 0 by omega),decide_eq_true h0]
  cases numsB (ix a) a.length<;>cases riseB (ix a) a.length<;>rfl
 ·rw [decide_eq_false (show ¬ (a.length:Int) > 0 by omega),decide_eq_false h0];rfl
theorem cloneInt (N:Nat) (a:List Int) (h:a.length≤1048576):slices_Clone_int_int.m N a=some a:=by
 unfold slices_Clone_int_int.m
 rw [roomB (by simpa using h) (by omega),cond_true,List.nil_append]
 exact amb_right fun hp=>by rw [List.isEmpty_iff] at hp;rw [hp]
def node0 (id:Int) (a:List Int):Node:=⟨id,0,-1,[],a,0,[],[1,1,1,1,1,1,1],[0,0,0,0,0,0,0],0,0,w64 (5+id),true⟩
theorem l10New (N:Nat) (hN:Big N) (id:Int) (a:List Int) (h:a.length≤1048576):spec_l10New.m N id a=some (node0 id a):=by
 obtain ⟨M,rfl⟩:∃M,N=M+9:=⟨N - 9,by omega⟩
 unfold spec_l10New.m spec_l10New.m0
 rw [roomB (by simpa using h) (by omega),cond_true,List.nil_append]
 kernel_rfl
abbrev M20:Nat:=1048576
def NodeData (x:Node):Prop:=∀e∈x.Log,e.Data.size≤M20
def bl (s:ByteArray) (n:Nat):List Int:=(List.range n).map fun (j:Nat)=>sb s (j:Int)
theorem bl_length (s:ByteArray) (n:Nat):(bl s n).length=n:=by simp [bl]
theorem bl_snoc (s:ByteArray) (n:Nat):bl s n++[sb s (n:Int)]=bl s (n+1):=by simp [bl,List.range_succ]
theorem bl_ix (s:ByteArray) {n j:Nat} (h:j<n):ix (bl s n) j=sb s (j:Int):=by simp [bl,ix,List.getD_eq_getElem?_getD,h]
theorem w_sb (s:ByteArray) (i:Int):w64 (sb s i)=sb s i:=by
 have:=sb_range s i
 exact w_small (by omega) (by omega)
theorem idsB_congr {f g:Nat→Int} {n:Nat} (h:∀j,j<n→f j=g j):idsB f n=idsB g n:=by
 unfold idsB
 refine allF_congr fun j h1 h2=>?_
 rw [h j (by omega),h (j - 1) (by omega)]
def memB (s:ByteArray):Bool:=idsB (fun j=>sb s (j:Int)) s.size&&decide (0<s.size)
theorem readMembers {N:Nat} (hN:Big N) (s:ByteArray) (h:s.size≤M20):impl_readMembers.m N s=some (bl s s.size,memB s):=by
 unfold impl_readMembers.m impl_readMembers.m0 impl_readMembers.lp3
 have:=miter_up (step:=fun rec=>impl_readMembers.step3 N s rec) (n:=s.size) (st:=fun i=>((s.size:Int),(i:Int),bl s i)) (r:=some (bl s s.size,memB s)) (fun i hi rec=>by
  simp only [impl_readMembers.step3,lt_dec hi,nn_dec,cond_true,w_sb,bl_snoc]
  rw [roomB (by simp only [bl_length,List.length_singleton];simp only [M20] at h;omega) (by omega),cond_true,w_up i _ hi h]) (fun rec=>by
  simp only [impl_readMembers.step3,ge_dec,cond_false]
  rw [membersOK hN _ (by rw [bl_length];exact h),ob_some,bl_length,idsB_congr (g:=fun j=>sb s (j:Int)) (fun j hj=>bl_ix s hj),memB,Bool.and_comm]) s.size 0 N (by omega) (by simp only [M20] at h;omega)
 exact this
theorem l02Members {N:Nat} (hN:Big N) (s:ByteArray) (h:s.size≤M20):spec_l02Members.m N s=some (bif idsB (fun j=>sb s (j:Int)) s.size then (bl s s.size,decide (0<s.size)) else ([],false)):=by
 unfold spec_l02Members.m spec_l02Members.m0 spec_l02Members.lp3
 have:=loop_all (step:=fun rec=>spec_l02Members.step3 N s rec) (n:=s.size) (st:=fun i=>((i:Int),bl s i)) (p:=fun i=>inB (sb s (i:Int)) 0 6 && !(decide (0<i)&&decide (sb s ((i - 1:Nat):Int)≥sb s (i:Int)))) (f:=some ([],false)) (t:=some (bl s s.size,decide (0<s.size))) (fun i hi rec=>by
  have hr:room ((bl s i).length+([sb s (i:Int)]:List Int).length) 8=true:=roomB (by simp only [bl_length,List.length_singleton];simp only [M20] at h;omega) (by omega)
  simp only [spec_l02Members.step3,lt_dec hi,nn_dec,cond_true,l01In,ob_some,w_sb]
  cases h1:inB (sb s (i:Int)) 0 6 with
  | false=>simp
  | true=>
   simp only [Bool.not_true,cond_false,Bool.true_and,hr,cond_true,bl_snoc]
   by_cases h0:0<i
   ·have e:w64 ((i:Int) - 1)=((i - 1:Nat):Int):=w_dn i h0 (by simp only [M20] at h;omega)
    simp only [decide_eq_true (show (i:Int) > 0 by omega),cond_true,e,nn_dec,lt_dec (show i - 1<s.size by omega),decide_eq_true h0,Bool.true_and,cond_false]
    rw [w_up i _ hi h]
    by_cases hc:sb s ((i - 1:Nat):Int)≥sb s (i:Int)<;>simp [hc]
   ·rw [decide_eq_false (show ¬ (i:Int) > 0 by omega),decide_eq_false h0]
    simp only [cond_false,Bool.false_and,Bool.not_false,cond_true]
    rw [w_up i _ hi h]) (fun rec=>by
   simp only [spec_l02Members.step3,ge_dec,cond_false,bl_length]
   congr 2
   rw [decide_eq_decide];omega) s.size 0 N (by omega) (by simp only [M20] at h;omega)
 refine (show _=_ from this).trans ?_
 unfold idsB
 cases allF _ 0 s.size<;>rfl
def entB (x:Entry):Bool:=inB x.Term 1 1000000&&(bif x.Kind==0 then seq x.Data ByteArray.empty else bif x.Kind==1 then decide ((x.Data.size:Int)≥1)&&decide ((x.Data.size:Int)≤100) else bif x.Kind==2 then memB x.Data else false)
theorem specEntry {N:Nat} (hN:Big N) (x:Entry) (h:x.Data.size≤M20):spec_l02Entry.m N x=some (entB x):=by
 unfold spec_l02Entry.m entB
 rw [l01In,ob_some,l02Members hN _ h]
 refine ifNot ?_
 cases x.Kind==0 with
 | true=>rfl
 | false=>
  cases x.Kind==1 with
  | true=>cases decide ((x.Data.size:Int)≥1)<;>rfl
  | false=>
   cases x.Kind==2 with
   | true=>
    simp only [cond_false,cond_true,ob_some,memB]
    cases idsB (fun j=>sb x.Data (j:Int)) x.Data.size<;>rfl
   | false=>rfl
theorem implEntry {N:Nat} (hN:Big N) (x:Entry) (h:x.Data.size≤M20):impl_entryOK.m N x=some (entB x):=by
 unfold impl_entryOK.m entB
 rw [within,ob_some,within,readMembers hN _ h]
 refine ifNot ?_
 cases x.Kind==0 with
 | true=>rfl
 | false=>
  cases x.Kind==1 with
  | true=>rfl
  | false=>
   cases x.Kind==2<;>rfl
def ex (a:List Entry) (i:Nat):Entry:=a.getD i Entry.dz
theorem exe (a:List Entry) (i:Nat):a.getD i Entry.dz=ex a i:=rfl
def logB (a:List Entry) (t:Int):Bool:=allF (fun i=>entB (ex a i)&&(!decide ((ex a i).Term > t) && !(decide (0<i)&&decide ((ex a (i - 1)).Term > (ex a i).Term)))) 0 a.length
theorem ex_size {a:List Entry} {n:Nat} (h:∀x∈a,x.Data.size≤n) {i:Nat} (hi:i<a.length):(ex a i).Data.size≤n:=by
 rw [ex,getD_at hi];exact h _ (List.getElem_mem hi)
theorem implLog {N:Nat} (hN:Big N) (a:List Entry) (t:Int) (h:a.length≤M20) (hd:∀x∈a,x.Data.size≤M20):impl_logOK.m N a t=some (logB a t&&decide ((a.length:Int)≤60)):=by
 unfold impl_logOK.m impl_logOK.m0 impl_logOK.lp2
 have:=loop_all (step:=fun rec=>impl_logOK.step2 N a t rec) (n:=a.length) (st:=fun i=>((a.length:Int),(i:Int))) (p:=fun i=>entB (ex a i)&&(!decide ((ex a i).Term > t) && !(decide (0<i)&&decide ((ex a (i - 1)).Term > (ex a i).Term)))) (f:=some false) (t:=some (decide ((a.length:Int)≤60))) (fun i hi rec=>by
  simp only [impl_logOK.step2,lt_dec hi,nn_dec,cond_true,Int.toNat_natCast,exe,implEntry hN _ (ex_size hd hi),ob_some,cond_false]
  cases entB (ex a i) with
  | false=>rfl
  | true=>
   simp only [Bool.not_true,cond_false,Bool.true_and]
   by_cases h2:(ex a i).Term > t
   ·simp [h2]
   ·simp only [h2,decide_false,cond_false,Bool.not_false,Bool.true_and]
    by_cases h0:0<i
    ·have e:w64 ((i:Int) - 1)=((i - 1:Nat):Int):=w_dn i h0 (by simp only [M20] at h;omega)
     simp only [decide_eq_true (show (i:Int) > 0 by omega),cond_true,e,nn_dec,lt_dec (show i - 1<a.length by omega),decide_eq_true h0,Bool.true_and,Int.toNat_natCast,exe]
     rw [w_up i _ hi h]
     by_cases hc:(ex a (i - 1)).Term > (ex a i).Term<;>simp [hc]
    ·rw [decide_eq_false (show ¬ (i:Int) > 0 by omega),decide_eq_false h0]
     simp only [cond_false,Bool.false_and,Bool.not_false,cond_true]
     rw [w_up i _ hi h]) (fun rec=>by simp [impl_logOK.step2]) a.length 0 N (by omega) (by simp only [M20] at h;omega)
 refine (show _=_ from this).trans ?_
 unfold logB
 cases allF _ 0 a.length<;>rfl
def stB (s:State):Bool:=inB s.Term 0 1000000&&(inB s.Vote (-1) 6&&(decide ((s.Log.length:Int)≤60)&&logB s.Log s.Term))
theorem implState {N:Nat} (hN:Big N) (s:State) (h:s.Log.length≤M20) (hd:∀x∈s.Log,x.Data.size≤M20):impl_StateOK.m N s=some (stB s):=by
 unfold impl_StateOK.m stB
 rw [within,within,implLog hN _ _ h hd]
 simp only [ob_some]
 cases inB s.Term 0 1000000<;>cases inB s.Vote (-1) 6<;>cases decide ((s.Log.length:Int)≤60)<;>cases logB s.Log s.Term<;>rfl
theorem specState {N:Nat} (hN:Big N) (s:State) (h:s.Log.length≤M20) (hd:∀x∈s.Log,x.Data.size≤M20):spec_StateOK.m N s=some (stB s):=by
 unfold spec_StateOK.m spec_StateOK.m0 stB
 rw [l01In,l01In]
 simp only [ob_some,cond_false]
 refine ifNot (ifNot ?_)
 have e:decide ((s.Log.length:Int)≤60) = !decide ((s.Log.length:Int) > 60):=by rw [Bool.eq_iff_iff];simp
 rw [e]
 refine ifNo ?_
 unfold spec_StateOK.lp4
 have:=loop_all (step:=fun rec=>spec_StateOK.step4 N s rec) (n:=s.Log.length) (st:=fun i=>(i:Int)) (p:=fun i=>entB (ex s.Log i)&&(!decide ((ex s.Log i).Term > s.Term) && !(decide (0<i)&&decide ((ex s.Log (i - 1)).Term > (ex s.Log i).Term)))) (f:=some false) (t:=some true) (fun i hi rec=>by
  simp only [spec_StateOK.step4,lt_dec hi,nn_dec,cond_true,Int.toNat_natCast,exe,specEntry hN _ (ex_size hd hi),ob_some,cond_false]
  cases entB (ex s.Log i) with
  | false=>rfl
  | true=>
   simp only [Bool.not_true,cond_false,Bool.true_and]
   by_cases h2:(ex s.Log i).Term > s.Term
   ·simp [h2]
   ·simp only [h2,decide_false,cond_false,Bool.not_false,Bool.true_and]
    by_cases h0:0<i
    ·have e:w64 ((i:Int) - 1)=((i - 1:Nat):Int):=w_dn i h0 (by simp only [M20] at h;omega)
     simp only [decide_eq_true (show (i:Int) > 0 by omega),cond_true,e,nn_dec,lt_dec (show i - 1<s.Log.length by omega),decide_eq_true h0,Bool.true_and,Int.toNat_natCast,exe]
     rw [w_up i _ hi h]
     by_cases hc:(ex s.Log (i - 1)).Term > (ex s.Log i).Term<;>simp [hc]
    ·rw [decide_eq_false (show ¬ (i:Int) > 0 by omega),decide_eq_false h0]
     simp only [cond_false,Bool.false_and,Bool.not_false,cond_true]
     rw [w_up i _ hi h]) (fun rec=>by simp [spec_StateOK.step4]) s.Log.length 0 N (by omega) (by simp only [M20] at h;omega)
 refine (show _=_ from this).trans ?_
 unfold logB
 cases allF _ 0 s.Log.length<;>rfl
def reachP (nx mt:List Int) (n:Int) (i:Nat):Bool:=inB (ix nx i) 1 (w64 (n+1))&&inB (ix mt i) 0 (w64 (ix nx i - 1))
def reachB (nx mt:List Int) (n:Int):Bool:=allF (reachP nx mt n) 0 7
theorem reachOK {N:Nat} (hN:Big N) (nx mt:List Int) (n:Int):impl_reachOK.m N nx mt n=some (decide (nx.length=7)&&(decide (mt.length=7)&&reachB nx mt n)):=by
 unfold impl_reachOK.m impl_reachOK.m0
 have e1:((nx.length:Int) != 7) = !decide (nx.length=7):=by rw [Bool.eq_iff_iff];simp;omega
 have e2:((mt.length:Int) != 7) = !decide (mt.length=7):=by rw [Bool.eq_iff_iff];simp;omega
 simp only [cond_false]
 rw [e1,e2]
 by_cases h1:nx.length=7
 ·by_cases h2:mt.length=7
  ·rw [decide_eq_true h1,decide_eq_true h2]
   simp only [Bool.not_true,cond_false,Bool.true_and]
   unfold impl_reachOK.lp4
   have:=loop_all (step:=fun rec=>impl_reachOK.step4 N nx mt n rec) (n:=7) (st:=fun i=>((nx.length:Int),(i:Int))) (p:=reachP nx mt n) (f:=some false) (t:=some true) (fun i hi rec=>by
    simp only [impl_reachOK.step4,lt_dec (show i<nx.length by omega),lt_dec (show i<mt.length by omega),nn_dec,cond_true,Int.toNat_natCast,ixe,within,ob_some,cond_false]
    rw [w_up i 7 hi (by omega)]
    unfold reachP
    cases inB (ix nx i) 1 (w64 (n+1))<;>cases inB (ix mt i) 0 (w64 (ix nx i - 1))<;>rfl) (fun rec=>by simp [impl_reachOK.step4,h1]) 7 0 N (by omega) (by omega)
   refine (show _=_ from this).trans ?_
   unfold reachB
   cases allF (reachP nx mt n) 0 7<;>rfl
  ·rw [decide_eq_true h1,decide_eq_false h2];rfl
 ·rw [decide_eq_false h1];rfl
def okB (x:Node):Bool:=inB x.Id 0 6&&(stB ⟨x.Term,x.Vote,x.Log⟩&&(idsB (ix x.Start) x.Start.length&&(decide (0<x.Start.length)&&(idsB (ix x.Votes) x.Votes.length&&(inB x.Role 0 2&&(decide (x.Next.length=7)&&(decide (x.Match.length=7)&&(inB x.Commit 0 x.Log.length&&(inB x.Elapsed 0 1000&&(inB x.Wait 5 100&&(reachB x.Next x.Match x.Log.length&&(x.Up||x.Role==0))))))))))))
theorem specOK {N:Nat} (hN:Big N) (x:Node) (h:NodeSz x M20) (hd:NodeData x):spec_NodeOK.m N x=some (okB x):=by
 unfold spec_NodeOK.m spec_NodeOK.m0 okB
 rw [l01In,specState hN ⟨x.Term,x.Vote,x.Log⟩ h.Log hd,l10Ids hN _ h.Start,l10Ids hN _ h.Votes,l01In,l01In,l01In,l01In]
 simp only [ob_some,cond_false]
 have e0:((x.Start.length:Int)==0) = !decide (0<x.Start.length):=by rw [Bool.eq_iff_iff];simp
 have e1:((x.Next.length:Int) != 7) = !decide (x.Next.length=7):=by rw [Bool.eq_iff_iff];simp;omega
 have e2:((x.Match.length:Int) != 7) = !decide (x.Match.length=7):=by rw [Bool.eq_iff_iff];simp;omega
 rw [e0,e1,e2]
 refine ifNot (ifNot (ifNot (ifNot (ifNot (ifNot ?_)))))
 by_cases h1:x.Next.length=7
 ·by_cases h2:x.Match.length=7
  ·rw [decide_eq_true h1,decide_eq_true h2]
   refine ifNot (ifNot (ifNot (ifNot (ifNot ?_))))
   unfold spec_NodeOK.lp6
   have:=loop_all (step:=fun rec=>spec_NodeOK.step6 N x rec) (n:=7) (st:=fun i=>(i:Int)) (p:=reachP x.Next x.Match x.Log.length) (f:=some false) (t:=some (x.Up||x.Role==0)) (fun i hi rec=>by
    simp only [spec_NodeOK.step6,lt_dec (show i<x.Next.length by omega),lt_dec (show i<x.Match.length by omega),decide_eq_true (show (i:Int)<7 by omega),nn_dec,cond_true,Int.toNat_natCast,ixe,l01In,ob_some,cond_false]
    rw [w_up i 7 hi (by omega)]
    unfold reachP
    cases inB (ix x.Next i) 1 (w64 ((x.Log.length:Int)+1))<;>cases inB (ix x.Match i) 0 (w64 (ix x.Next i - 1))<;>rfl) (fun rec=>by
    show spec_NodeOK.step6 N x rec 7=_
    simp only [spec_NodeOK.step6]
    cases x.Up<;>rfl) 7 0 N (by omega) (by omega)
   refine (show _=_ from this).trans ?_
   unfold reachB
   cases allF (reachP x.Next x.Match x.Log.length) 0 7<;>rfl
  ·rw [decide_eq_true h1,decide_eq_false h2];rfl
 ·rw [decide_eq_false h1];rfl
theorem implOK {N:Nat} (hN:Big N) (x:Node) (h:NodeSz x M20) (hd:NodeData x):impl_NodeOK.m N x=some (okB x):=by
 unfold impl_NodeOK.m okB
 rw [isNumber,implState hN ⟨x.Term,x.Vote,x.Log⟩ h.Log hd,membersOK hN _ h.Start,areNumbers hN _ h.Votes,areRising hN _ h.Votes,within,reachOK hN,within,within,within,idsB_eq (ix x.Votes)]
 simp only [ob_some,cond_false]
 have e:(x.Role != 0) = !(x.Role==0):=rfl
 rw [e]
 generalize inB x.Id 0 6=b1
 generalize stB ⟨x.Term,x.Vote,x.Log⟩=b2
 generalize idsB (ix x.Start) x.Start.length=b3
 generalize decide (0<x.Start.length)=b4
 generalize numsB (ix x.Votes) x.Votes.length=b5
 generalize riseB (ix x.Votes) x.Votes.length=b6
 generalize inB x.Role 0 2=b7
 generalize decide (x.Next.length=7)=b8
 generalize decide (x.Match.length=7)=b9
 generalize inB x.Commit 0 x.Log.length=b10
 generalize inB x.Elapsed 0 1000=b11
 generalize inB x.Wait 5 100=b12
 generalize reachB x.Next x.Match x.Log.length=b13
 generalize x.Up=b14
 generalize (x.Role==0)=b15
 cases b1;· rfl
 cases b2;· rfl
 cases b3;· cases b4<;>rfl
 cases b4;· rfl
 cases b5;· rfl
 cases b6;· rfl
 cases b7;· rfl
 cases b8;· cases b14<;>cases b15<;>rfl
 cases b9;· cases b14<;>cases b15<;>rfl
 cases b10;· cases b13<;>cases b14<;>cases b15<;>rfl
 cases b11;· cases b13<;>cases b14<;>cases b15<;>rfl
 cases b12<;>cases b13<;>cases b14<;>cases b15<;>rfl
theorem nodeEta (x:Node):Node.mk x.Id x.Term x.Vote x.Log x.Start x.Role x.Votes x.Next x.Match x.Commit x.Elapsed x.Wait x.Up=x:=rfl
def memL (a:List Entry) (s:List Int):Nat→List Int
 | 0=>s
 | n+1=>bif (ex a n).Kind==2 then bl (ex a n).Data (ex a n).Data.size else memL a s n
theorem memL_length {a:List Entry} {s:List Int} (hs:s.length≤M20) (hd:∀x∈a,x.Data.size≤M20):∀n,n≤a.length→(memL a s n).length≤M20
 | 0,_=>hs
 | n+1,h=>by
  unfold memL
  cases (ex a n).Kind==2 with
  | true=>rw [cond_true,bl_length];exact ex_size hd (by omega)
  | false=>exact memL_length hs hd n (by omega)
def allMem (a:List Entry):Prop:=∀j,j<a.length→((ex a j).Kind==2)=true→memB (ex a j).Data=true
theorem l10Members {N:Nat} (hN:Big N) (x:Node) (h:x.Log.length≤M20) (hd:NodeData x) (hm:allMem x.Log):spec_l10Members_.m N x=some (memL x.Log x.Start x.Log.length):=by
 unfold spec_l10Members_.m spec_l10Members_.m0 spec_l10Members_.lp2
 have e:w64 ((x.Log.length:Int) - 1)=(x.Log.length:Int) - 1:=w_small (by omega) (by simp only [M20] at h;omega)
 rw [e]
 have:∀(n K:Nat),n≤x.Log.length→n<K→miter (fun rec=>spec_l10Members_.step2 N x rec) K ((n:Int) - 1)=some (memL x.Log x.Start n):=by
  intro n
  induction n with
  | zero=>
   intro K _ hK
   obtain ⟨K,rfl⟩:∃L,K=L+1:=⟨K - 1,by omega⟩
   rfl
  | succ n ih=>
   intro K hn hK
   obtain ⟨K,rfl⟩:∃L,K=L+1:=⟨K - 1,by omega⟩
   show spec_l10Members_.step2 N x (miter (fun rec=>spec_l10Members_.step2 N x rec) K) _=_
   have e1:((n+1:Nat):Int) - 1=(n:Int):=by omega
   have e2:w64 ((n:Int) - 1)=(n:Int) - 1:=w_small (by omega) (by simp only [M20] at h;omega)
   rw [e1]
   simp only [spec_l10Members_.step2,decide_eq_true (show (n:Int)≥0 by omega),nn_dec,lt_dec (show n<x.Log.length by omega),cond_true,Int.toNat_natCast,exe,e2,memL]
   cases hk:(ex x.Log n).Kind==2 with
   | true=>
    rw [cond_true,cond_true,l02Members hN _ (ex_size hd (by omega)),ob_some]
    have:=hm n (by omega) hk
    unfold memB at this
    rw [Bool.and_eq_true] at this
    rw [this.1];rfl
   | false=>rw [cond_false,cond_false,ih K (by omega) (by omega)]
 exact this _ N (Nat.le_refl _) (by simp only [M20] at h;omega)
theorem memFind (a:List Entry) (s:List Int):∀n,n≤a.length→((a.take n).reverse.find? (fun e=>e.Kind==2)).elim s (fun e=>bl e.Data e.Data.size)=memL a s n
 | 0,_=>by simp [memL]
 | n+1,h=>by
  have ht:a.take (n+1)=a.take n++[a[n]]:=by rw [List.take_add_one,List.getElem?_eq_getElem (by omega)];rfl
  have e:ex a n=a[n]:=by rw [ex,getD_at (show n<a.length by omega)]
  rw [ht,List.reverse_append,List.reverse_singleton,List.singleton_append,List.find?_cons,memL,e]
  cases a[n].Kind==2 with
  | true=>rfl
  | false=>exact memFind a s n (by omega)
theorem implMembers {N:Nat} (hN:Big N) (x:Node) (h:NodeSz x M20) (hd:NodeData x):impl_Node_members.m N x=some (memL x.Log x.Start x.Log.length):=by
 unfold impl_Node_members.m
 have hl:=h.Log
 have e1:decide (x.Log.length≤1048576000)=true:=decide_eq_true (by simp only [M20] at hl;omega)
 have e2:x.Log.all (fun e=>!(e.Kind==2)||(impl_readMembers.m N e.Data).isSome)=true:=by
  rw [List.all_eq_true]
  intro e he
  rw [readMembers hN _ (hd e he)]
  cases e.Kind==2<;>rfl
 rw [e1,e2,Bool.and_self,cond_true]
 have e3:=memFind x.Log x.Start x.Log.length (Nat.le_refl _)
 rw [List.take_length] at e3
 rw [← e3]
 generalize hf:x.Log.reverse.find? (fun e=>e.Kind==2)=o
 cases o with
 | none=>exact cloneInt N _ h.Start
 | some e=>
  have he:e∈x.Log:=by
   have:=List.mem_of_find?_eq_some hf
   exact List.mem_reverse.mp this
  show (impl_readMembers.m N e.Data).map (·.1)=_
  rw [readMembers hN _ (hd e he)];rfl
theorem okMem {x:Node} (h:okB x=true):allMem x.Log:=by
 unfold okB at h
 rw [Bool.and_eq_true,Bool.and_eq_true] at h
 have hs:=h.2.1
 unfold stB at hs
 rw [Bool.and_eq_true,Bool.and_eq_true,Bool.and_eq_true] at hs
 have hl:logB x.Log x.Term=true:=hs.2.2.2
 unfold logB at hl
 rw [allF_iff] at hl
 intro j hj hk
 have:=hl j (Nat.zero_le _) (by omega)
 rw [Bool.and_eq_true] at this
 have he:=this.1
 unfold entB at he
 rw [Bool.and_eq_true] at he
 have e2:(ex x.Log j).Kind=2:=by simpa using hk
 have he2:=he.2
 rw [e2] at he2
 exact he2
def memR (x:Node):List Int×Int:=bif okB x then (memL x.Log x.Start x.Log.length,0) else ([],1)
theorem specMem {N:Nat} (hN:Big N) (x:Node) (h:NodeSz x M20) (hd:NodeData x):spec_MembersOf.m N x=some (memR x):=by
 unfold spec_MembersOf.m memR
 rw [specOK hN x h hd,ob_some]
 cases hk:okB x with
 | true=>
  rw [l10Members hN x h.Log hd (okMem hk),ob_some]
  have:(memL x.Log x.Start x.Log.length).length≤M20:=memL_length h.Start hd _ (Nat.le_refl _)
  rw [roomB (by rw [List.length_nil,Nat.zero_add];exact this) (by omega)]
  rfl
 | false=>rfl
theorem implMem {N:Nat} (hN:Big N) (x:Node) (h:NodeSz x M20) (hd:NodeData x):impl_MembersOf.m N x=some (memR x):=by
 unfold impl_MembersOf.m memR
 try rw [nodeEta]
 rw [implOK hN x h hd,ob_some,implMembers hN x h hd]
 cases okB x<;>rfl
def hasB (a:List Int) (x:Int):Bool:=!allF (fun j=>!(ix a j==x)) 0 a.length
theorem l10Has {N:Nat} (hN:Big N) (a:List Int) (x:Int) (h:a.length≤M20):spec_l10Has.m N a x=some (hasB a x):=by
 unfold spec_l10Has.m spec_l10Has.m0 spec_l10Has.lp2
 have:=loop_all (step:=fun rec=>spec_l10Has.step2 N a x rec) (n:=a.length) (st:=fun i=>(i:Int)) (p:=fun i=>!(ix a i==x)) (f:=some true) (t:=some false) (fun i hi rec=>by
  simp only [spec_l10Has.step2,lt_dec hi,nn_dec,cond_true,Int.toNat_natCast,ixe]
  rw [w_up i _ hi h]
  cases ix a i==x<;>rfl) (fun rec=>by simp [spec_l10Has.step2]) a.length 0 N (by omega) (by simp only [M20] at h;omega)
 refine (show _=_ from this).trans ?_
 unfold hasB
 cases allF _ 0 a.length<;>rfl
theorem contains {N:Nat} (hN:Big N) (a:List Int) (x:Int) (h:a.length≤M20):slices_Contains_int_int.m N a x=some (hasB a x):=by
 unfold slices_Contains_int_int.m slices_Index_int_int.m slices_Index_int_int.m0 slices_Index_int_int.lp2
 obtain ⟨y,hy,hd⟩:=loop_idx (step:=fun rec=>slices_Index_int_int.step2 N a x rec) (n:=a.length) (st:=fun i=>((a.length:Int),(i:Int))) (p:=fun i=>ix a i==x) (fun i hi rec=>by
  simp only [slices_Index_int_int.step2,lt_dec hi,nn_dec,cond_true,Int.toNat_natCast,ixe]
  rw [w_up i _ hi h]
  have:(x==ix a i)=(ix a i==x):=by exact Bool.eq_iff_iff.mpr (by rw [beq_iff_eq,beq_iff_eq];exact eq_comm)
  rw [this]) (fun rec=>by simp [slices_Index_int_int.step2]) a.length 0 N (by omega) (by simp only [M20] at h;omega)
 have hy:miter (fun rec=>slices_Index_int_int.step2 N a x rec) N ((a.length:Int),0)=some y:=hy
 rw [hy,ob_some,hd];rfl
def cnB (d:Nat→Bool):Nat→Nat
 | 0=>0
 | i+1=>cnB d i+(d i).toNat
theorem cnB_le (d:Nat→Bool):∀n,cnB d n≤n
 | 0=>Nat.le_refl _
 | n+1=>by
  have:=cnB_le d n
  have h1:(d n).toNat≤1:=by cases d n<;>decide
  show cnB d n+(d n).toNat≤n+1
  omega
def dif (a b:List Int) (i:Nat):Bool:=!(hasB a (i:Int)==hasB b (i:Int))
theorem allF_shift (q:Nat→Bool) (c k:Nat):allF (fun j=>q (c+j)) 0 k=allF q c k:=by
 rw [Bool.eq_iff_iff,allF_iff,allF_iff]
 constructor
 ·intro h j h1 h2
  have:=h (j - c) (Nat.zero_le _) (by omega)
  rw [show c+(j - c)=j by omega] at this
  exact this
 ·intro h j h1 h2
  exact h (c+j) (by omega) (by omega)
def calm (x:Node):Bool:=allF (fun j=>!((ex x.Log j).Kind==2)) x.Commit.toNat (x.Log.length - x.Commit.toNat)
def alwB (x:Node) (a:List Int):Bool:=((cnB (dif (memL x.Log x.Start x.Log.length) a) 7:Nat):Int)==1&&((x.Role==2)&&(!(x.Commit==0)&&(((ex x.Log (x.Commit - 1).toNat).Term==x.Term)&&calm x)))
theorem specAlw {N:Nat} (hN:Big N) (x:Node) (a:List Int) (h:NodeSz x M20) (hd:NodeData x) (hm:allMem x.Log) (ha:a.length≤M20) (h0:0≤x.Commit) (h1:x.Commit≤x.Log.length):spec_l11Allowed.m N x a=some (alwB x a):=by
 unfold spec_l11Allowed.m spec_l11Allowed.m0
 rw [l10Members hN x h.Log hd hm,ob_some]
 unfold spec_l11Allowed.lp4
 have hl:=h.Log
 have hml:(memL x.Log x.Start x.Log.length).length≤M20:=memL_length h.Start hd _ (Nat.le_refl _)
 generalize hM:memL x.Log x.Start x.Log.length=M at hml
 have hc:spec_l11Allowed.lp10 N x a x.Commit=some (calm x):=by
  unfold spec_l11Allowed.lp10
  have:=loop_all (step:=fun rec=>spec_l11Allowed.step10 N x a rec) (n:=x.Log.length) (st:=fun i=>(i:Int)) (p:=fun j=>!((ex x.Log j).Kind==2)) (f:=some false) (t:=some true) (fun i hi rec=>by
   simp only [spec_l11Allowed.step10,lt_dec hi,nn_dec,cond_true,Int.toNat_natCast,exe]
   rw [w_up i _ hi hl]
   cases (ex x.Log i).Kind==2<;>rfl) (fun rec=>by simp [spec_l11Allowed.step10]) (x.Log.length - x.Commit.toNat) x.Commit.toNat N (by omega) (by simp only [M20] at hl;omega)
  rw [Int.toNat_of_nonneg h0] at this
  refine (show _=_ from this).trans ?_
  unfold calm
  cases allF _ x.Commit.toNat (x.Log.length - x.Commit.toNat)<;>rfl
 have:=miter_up (step:=fun rec=>spec_l11Allowed.step4 N x a (spec_l11Allowed.lp10 N x a) rec) (n:=7) (st:=fun i=>(M,((cnB (dif M a) i:Nat):Int),(i:Int))) (r:=some (alwB x a)) (fun i hi rec=>by
  have b1:spec_l01Bit.m N (dif M a i)=some (((dif M a i).toNat:Nat):Int):=by cases dif M a i<;>rfl
  have hc:=cnB_le (dif M a) i
  have ht:(dif M a i).toNat≤1:=by cases dif M a i<;>simp
  have e:w64 (((cnB (dif M a) i:Nat):Int)+(((dif M a i).toNat:Nat):Int))=((cnB (dif M a) (i+1):Nat):Int):=by
   rw [w_small (by omega) (by omega),show cnB (dif M a) (i+1)=cnB (dif M a) i+(dif M a i).toNat from rfl];omega
  simp only [spec_l11Allowed.step4,decide_eq_true (show (i:Int)<7 by omega),cond_true,l10Has hN M _ hml,l10Has hN a _ ha,ob_some]
  rw [show (!(hasB M (i:Int)==hasB a (i:Int)))=dif M a i from rfl,b1,ob_some,e,w_up i 7 hi (by omega)]) (fun rec=>by
  show spec_l11Allowed.step4 N x a (spec_l11Allowed.lp10 N x a) rec (M,_,7)=_
  unfold alwB
  rw [hM]
  simp only [spec_l11Allowed.step4,hc,cond_false,bne]
  have e7:decide ((7:Int)<7)=false:=rfl
  rw [e7,cond_false]
  refine ifNot (ifNot ?_)
  by_cases hz:x.Commit=0
  ·rw [hz];rfl
  ·have e:w64 (x.Commit - 1)=x.Commit - 1:=w_small (by omega) (by simp only [M20] at hl;omega)
   rw [e,decide_eq_true (show 0≤x.Commit - 1 by omega),decide_eq_true (show x.Commit - 1<x.Log.length by omega)]
   exact ifNo (ifNot rfl)) 7 0 N (by omega) (by omega)
 exact this
theorem implAlw {N:Nat} (hN:Big N) (x:Node) (a:List Int) (h:NodeSz x M20) (hd:NodeData x) (ha:a.length≤M20) (h0:0≤x.Commit) (h1:x.Commit≤x.Log.length):impl_configAllowed.m N x a=some (alwB x a):=by
 unfold impl_configAllowed.m impl_configAllowed.m0
 rw [implMembers hN x h hd,ob_some]
 unfold impl_configAllowed.lp3
 have hl:=h.Log
 have hml:(memL x.Log x.Start x.Log.length).length≤M20:=memL_length h.Start hd _ (Nat.le_refl _)
 generalize hM:memL x.Log x.Start x.Log.length=M at hml
 have hc:slices_ContainsFunc_impl_Entry_impl_Entry__impl_configAllowed_1.m N (x.Log.drop x.Commit.toNat)=some (!calm x):=by
  unfold slices_ContainsFunc_impl_Entry_impl_Entry__impl_configAllowed_1.m slices_IndexFunc_impl_Entry_impl_Entry__impl_configAllowed_1.m slices_IndexFunc_impl_Entry_impl_Entry__impl_configAllowed_1.m0 slices_IndexFunc_impl_Entry_impl_Entry__impl_configAllowed_1.lp2
  have hdl:(x.Log.drop x.Commit.toNat).length=x.Log.length - x.Commit.toNat:=by simp
  generalize hD:x.Log.drop x.Commit.toNat=D at hdl
  obtain ⟨y,hy,hd⟩:=loop_idx (step:=fun rec=>slices_IndexFunc_impl_Entry_impl_Entry__impl_configAllowed_1.step2 N D rec) (n:=D.length) (st:=fun i=>((D.length:Int),(i:Int))) (p:=fun i=>(ex x.Log (x.Commit.toNat+i)).Kind==2) (fun i hi rec=>by
   have e:ex D i=ex x.Log (x.Commit.toNat+i):=by
    rw [← hD];simp only [ex,List.getD_eq_getElem?_getD,List.getElem?_drop]
   simp only [slices_IndexFunc_impl_Entry_impl_Entry__impl_configAllowed_1.step2,lt_dec hi,nn_dec,cond_true,Int.toNat_natCast,exe,impl_configAllowed_1.m,ob_some,e]
   rw [w_up i _ hi (by simp only [M20] at hl;omega)]) (fun rec=>by simp [slices_IndexFunc_impl_Entry_impl_Entry__impl_configAllowed_1.step2]) D.length 0 N (by omega) (by simp only [M20] at hl;omega)
  have hy:miter (fun rec=>slices_IndexFunc_impl_Entry_impl_Entry__impl_configAllowed_1.step2 N D rec) N ((D.length:Int),0)=some y:=hy
  rw [hy,ob_some,hd,hdl]
  exact congrArg (fun b=>some (!b)) (allF_shift (fun j=>!((ex x.Log j).Kind==2)) _ _)
 have:=miter_up (step:=fun rec=>impl_configAllowed.step3 N x a rec) (n:=7) (st:=fun i=>(((cnB (dif M a) i:Nat):Int),(i:Int),M)) (r:=some (alwB x a)) (fun i hi rec=>by
  have hc:=cnB_le (dif M a) i
  simp only [impl_configAllowed.step3,decide_eq_true (show (i:Int)<7 by omega),cond_true,contains hN M _ hml,contains hN a _ ha,ob_some]
  rw [show (!(hasB M (i:Int)==hasB a (i:Int)))=dif M a i from rfl,w_up i 7 hi (by omega),w_small (x:=((cnB (dif M a) i:Nat):Int)+1) (by omega) (by omega)]
  cases hd:dif M a i<;>simp [cnB,hd]) (fun rec=>by
  show impl_configAllowed.step3 N x a rec (_,7,M)=_
  unfold alwB
  rw [hM]
  simp only [impl_configAllowed.step3,hc,cond_false,cond_true,ob_some]
  have e7:decide ((7:Int)<7)=false:=rfl
  rw [e7,cond_false,decide_eq_true h0,decide_eq_true (show x.Commit≤((x.Log.length:Nat):Int) from h1),cond_true,cond_true,Bool.not_not]
  refine ifYes (ifYes ?_)
  have ez:decide (x.Commit > 0) = !(x.Commit==0):=by rw [Bool.eq_iff_iff];simp;omega
  rw [ez]
  by_cases hz:x.Commit=0
  ·rw [hz];rfl
  ·have e:w64 (x.Commit - 1)=x.Commit - 1:=w_small (by omega) (by simp only [M20] at hl;omega)
   have ec:(x.Commit==0)=false:=by rw [beq_eq_false_iff_ne];exact hz
   unfold impl_Node_termAt.m
   rw [ec,e,decide_eq_true (show 0≤x.Commit - 1 by omega),decide_eq_true (show x.Commit - 1<x.Log.length by omega)]
   show (bif true then (bif ((x.Log.getD (x.Commit - 1).toNat Entry.dz).Term==x.Term) then some (calm x) else some false) else some false)=_
   exact ifYes (ifYes rfl)) 7 0 N (by omega) (by omega)
 exact this
theorem okCommit {x:Node} (h:okB x=true):0≤x.Commit∧x.Commit≤x.Log.length:=by
 unfold okB at h
 simp only [Bool.and_eq_true] at h
 have:=h.2.2.2.2.2.2.2.2.1
 unfold inB at this
 simp only [Bool.and_eq_true,decide_eq_true_eq] at this
 omega
def alwR (x:Node) (a:List Int):Bool×Int:=bif decide ((a.length:Int) > 4096) then (false,2) else bif okB x&&(idsB (ix a) a.length&&decide (0<a.length)) then (alwB x a,0) else (false,1)
theorem specCA {N:Nat} (hN:Big N) (x:Node) (a:List Int) (h:NodeSz x M20) (hd:NodeData x) (ha:a.length≤M20):spec_ConfigAllowed.m N x a=some (alwR x a):=by
 unfold spec_ConfigAllowed.m alwR
 rw [specOK hN x h hd,l10Ids hN a ha]
 simp only [ob_some,cond_false]
 have e:((a.length:Int)==0) = !decide (0<a.length):=by rw [Bool.eq_iff_iff];simp
 rw [e]
 cases hk:okB x with
 | false=>cases decide ((a.length:Int) > 4096)<;>rfl
 | true=>
  rw [specAlw hN x a h hd (okMem hk) ha (okCommit hk).1 (okCommit hk).2]
  cases decide ((a.length:Int) > 4096)<;>cases idsB (ix a) a.length<;>cases decide (0<a.length)<;>rfl
theorem implCA {N:Nat} (hN:Big N) (x:Node) (a:List Int) (h:NodeSz x M20) (hd:NodeData x) (ha:a.length≤M20):impl_ConfigAllowed.m N x a=some (alwR x a):=by
 unfold impl_ConfigAllowed.m alwR impl_isList_int.m
 rw [implOK hN x h hd,membersOK hN a ha]
 simp only [ob_some,cond_false]
 have e:decide ((a.length:Int)≤4096) = !decide ((a.length:Int) > 4096):=by rw [Bool.eq_iff_iff];simp
 rw [e]
 cases hk:okB x with
 | false=>cases decide ((a.length:Int) > 4096)<;>rfl
 | true=>
  rw [implAlw hN x a h hd ha (okCommit hk).1 (okCommit hk).2]
  cases decide ((a.length:Int) > 4096)<;>cases idsB (ix a) a.length<;>cases decide (0<a.length)<;>rfl
end Mir.Y
