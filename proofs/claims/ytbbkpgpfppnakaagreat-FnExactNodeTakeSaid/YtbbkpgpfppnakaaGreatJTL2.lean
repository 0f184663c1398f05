/- Pure laws: NewNode. -/
import Derived.Test.YtbbkpgpfppnakaaGreatJTL1
namespace Mir.Y
set_option linter.unusedVariables false
set_option linter.unusedSimpArgs false
open Go
def inB (a lo hi:Int):Bool:=decide (a≥lo)&&decide (a≤hi)
theorem l01In (N:Nat) (a lo hi:Int):spec_l01In.m N a lo hi=some (inB a lo hi):=by
 unfold spec_l01In.m inB
 cases decide (a≥lo)<;>rfl
theorem within (N:Nat) (a lo hi:Int):impl_within.m N a lo hi=some (inB a lo hi):=by
 unfold impl_within.m inB
 cases decide (a≥lo)<;>rfl
theorem isNumber (N:Nat) (a:Int):impl_isNumber.m N a=some (inB a 0 6):=by
 unfold impl_isNumber.m;rw [within];rfl
def numsB (f:Nat→Int) (n:Nat):Bool:=allF (fun i=>inB (f i) 0 6) 0 n
def riseB (f:Nat→Int) (n:Nat):Bool:=allF (fun i=>!decide (f (i - 1)≥f i)) 1 (n - 1)
def idsB (f:Nat→Int) (n:Nat):Bool:=allF (fun i=>inB (f i) 0 6 && !(decide (0<i)&&decide (f (i - 1)≥f i))) 0 n
theorem idsB_eq (f:Nat→Int) (n:Nat):idsB f n=(numsB f n&&riseB f n):=by
 rw [Bool.eq_iff_iff]
 simp only [idsB,numsB,riseB,Bool.and_eq_true,allF_iff,Bool.not_eq_true']
 constructor
 ·intro h
  refine ⟨fun j h1 h2=>(h j h1 h2).1,fun j h1 h2=>?_⟩
  have:=(h j (by omega) (by omega)).2
  rw [decide_eq_true (by omega),Bool.true_and] at this
  exact this
 ·rintro ⟨h1,h2⟩ j k1 k2
  refine ⟨h1 j k1 k2,?_⟩
  by_cases hj:0<j
  ·rw [h2 j (by omega) (by omega),Bool.and_false]
  ·rw [decide_eq_false hj];rfl
def ix (a:List Int) (i:Nat):Int:=a.getD i 0
theorem ixe (a:List Int) (i:Nat):a.getD i 0=ix a i:=rfl
theorem l10Ids {N:Nat} (hN:Big N) (a:List Int) (h:a.length≤1048576):spec_l10Ids.m N a=some (idsB (ix a) a.length):=by
 unfold spec_l10Ids.m spec_l10Ids.m0 spec_l10Ids.lp2
 have:=loop_all (step:=fun rec=>spec_l10Ids.step2 N a rec) (n:=a.length) (st:=fun i=>(i:Int)) (p:=fun i=>inB (ix a i) 0 6 && !(decide (0<i)&&decide (ix a (i - 1)≥ix a i))) (f:=some false) (t:=some true) (fun i hi rec=>by
  simp only [spec_l10Ids.step2,lt_dec hi,nn_dec,cond_true,Int.toNat_natCast,l01In,ob_some]
  simp only [ixe]
  cases h1:inB (ix a i) 0 6 with
  | false=>simp
  | true=>
   simp only [Bool.not_true,cond_false,Bool.true_and]
   by_cases h0:0<i
   ·have e:w64 ((i:Int) - 1)=((i - 1:Nat):Int):=w_dn i h0 (by omega)
    simp only [decide_eq_true (show (i:Int) > 0 by omega),cond_true,e,nn_dec,lt_dec (show i - 1<a.length by omega),Int.toNat_natCast,ixe,decide_eq_true h0,Bool.true_and,cond_false]
    cases decide (ix a (i - 1)≥ix a i) with
    | false=>simp only [cond_false,cond_true,Bool.not_false];rw [w_up i _ hi h]
    | true=>rfl
   ·rw [decide_eq_false (show ¬ (i:Int) > 0 by omega),decide_eq_false h0]
    simp only [cond_false,Bool.false_and,Bool.not_false,cond_true]
    rw [w_up i _ hi h]) (fun rec=>by simp [spec_l10Ids.step2]) a.length 0 N (by omega) (by omega)
 refine this.trans ?_
 unfold idsB
 cases allF _ 0 a.length<;>rfl
theorem areNumbers {N:Nat} (hN:Big N) (a:List Int) (h:a.length≤1048576):impl_areNumbers.m N a=some (numsB (ix a) a.length):=by
 unfold impl_areNumbers.m slices_ContainsFunc_int_int__impl_areNumbers_1.m slices_IndexFunc_int_int__impl_areNumbers_1.m slices_IndexFunc_int_int__impl_areNumbers_1.m0 slices_IndexFunc_int_int__impl_areNumbers_1.lp2
 obtain ⟨y,hy,hd⟩:=loop_idx (step:=fun rec=>slices_IndexFunc_int_int__impl_areNumbers_1.step2 N a rec) (n:=a.length) (st:=fun i=>((a.length:Int),(i:Int))) (p:=fun i=>!inB (ix a i) 0 6) (fun i hi rec=>by
  simp only [slices_IndexFunc_int_int__impl_areNumbers_1.step2,lt_dec hi,nn_dec,cond_true,Int.toNat_natCast,impl_areNumbers_1.m,within,ob_some]
  simp only [ixe];rw [w_up i _ hi h]) (fun rec=>by simp [slices_IndexFunc_int_int__impl_areNumbers_1.step2]) a.length 0 N (by omega) (by omega)
 have hy:miter (fun rec=>slices_IndexFunc_int_int__impl_areNumbers_1.step2 N a rec) N ((a.length:Int),0)=some y:=hy
 rw [hy,ob_some,ob_some,hd]
 simp [numsB]
theorem areRising {N:Nat} (hN:Big N) (a:List Int) (h:a.length≤1048576):impl_areRising.m N a=some (riseB (ix a) a.length):=by
 unfold impl_areRising.m impl_areRising.m0 impl_areRising.lp2
 rcases Nat.eq_zero_or_pos a.length with h0 | h0
 ·obtain rfl:=List.eq_nil_of_length_eq_zero h0
  obtain ⟨M,rfl⟩:∃M,N=M+1:=⟨N - 1,by omega⟩
  rfl
 have:=loop_all (step:=fun rec=>impl_areRising.step2 N a rec) (n:=a.length - 1) (st:=fun i=>((i+1:Nat):Int)) (p:=fun i=>!decide (ix a i≥ix a (i+1))) (f:=some false) (t:=some true) (fun i hi rec=>by
  have hi':i+1<a.length:=by omega
  have e:w64 (((i+1:Nat):Int) - 1)=(i:Int):=by rw [w_dn (i+1) (by omega) (by omega)];rfl
  have e2:w64 (((i+1:Nat):Int)+1)=((i+1+1:Nat):Int):=w_up (i+1) _ hi' h
  simp only [impl_areRising.step2,lt_dec hi',nn_dec,cond_true,e,lt_dec (show i<a.length by omega),Int.toNat_natCast,e2]
  simp only [ixe]
  by_cases hc:ix a i≥ix a (i+1)<;>simp [hc]) (fun rec=>by
   have:a.length - 1+1=a.length:=by omega
   simp only [this,impl_areRising.step2,ge_dec,cond_false]) (a.length - 1) 0 N (by omega) (by omega)
 refine (show _=_ from this).trans ?_
 have e:allF (fun i=>!decide (ix a i≥ix a (i+1))) 0 (a.length - 1)=riseB (ix a) a.length:=by
  unfold riseB
  rw [Bool.eq_iff_iff,allF_iff,allF_iff]
  constructor
  ·intro h j h1 h2
   have:=h (j - 1) (by omega) (by omega)
   rw [show j - 1+1=j by omega] at this
   exact this
  ·intro h j h1 h2
   exact h (j+1) (by omega) (by omega)
 rw [e]
 cases riseB (ix a) a.length<;>rfl
theorem membersOK {N:Nat} (hN:Big N) (a:List Int) (h:a.length≤1048576):impl_membersOK.m N a=some (decide (0<a.length)&&idsB (ix a) a.length):=by
 unfold impl_membersOK.m
 rw [areNumbers hN a h,areRising hN a h,idsB_eq]
 by_cases h0:0<a.length
 ·rw [decide_eq_true (show (a.length:Int) > 0 by omega),decide_eq_true h0]
  cases numsB (ix a) a.length<;>cases riseB (ix a) a.length<;>rfl
 ·rw [decide_eq_false (show ¬ (a.length:Int) > 0 by omega),decide_eq_false h0];rfl
theorem cloneInt (N:Nat) (a:List Int) (h:a.length≤1048576):slices_Clone_int_int.m N a=some a:=by
 unfold slices_Clone_int_int.m
 rw [roomB (by simpa using h) (by omega),cond_true,List.nil_append]
 exact amb_right fun hp=>by rw [List.isEmpty_iff] at hp;rw [hp]
theorem mkNode (x y:Node) (h:y.Id=x.Id∧y.Term=x.Term∧y.Vote=x.Vote∧y.Role=x.Role∧y.Commit=x.Commit∧y.Elapsed=x.Elapsed∧y.Wait=x.Wait∧y.Up=x.Up):Node.mk x.Id x.Term x.Vote y.Log y.Start x.Role y.Votes y.Next y.Match x.Commit x.Elapsed x.Wait x.Up=y:=by
 obtain ⟨h1,h2,h3,h4,h5,h6,h7,h8⟩:=h
 rw [← h1,← h2,← h3,← h4,← h5,← h6,← h7,← h8]
end Mir.Y
