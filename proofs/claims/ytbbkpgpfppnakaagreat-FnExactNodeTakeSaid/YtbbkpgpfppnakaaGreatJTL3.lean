/- Pure laws: NodeOK, UpToDate, NodeCrash. -/
import Derived.Test.YtbbkpgpfppnakaaGreatJTL2
namespace Mir.Y
set_option linter.unusedVariables false
set_option linter.unusedSimpArgs false
open Go
abbrev M20:Nat:=1048576
structure NodeWf (x:Node):Prop where
 Log:x.Log.length≤maxLen
 Data:∀e∈x.Log,e.Data.size≤maxLen
 Start:x.Start.length≤maxLen
 Votes:x.Votes.length≤maxLen
 Next:x.Next.length≤maxLen
 Match:x.Match.length≤maxLen
def NodeData (x:Node):Prop:=∀e∈x.Log,e.Data.size≤M20
def bl (s:ByteArray) (n:Nat):List Int:=(List.range n).map fun (j:Nat)=>sb s (j:Int)
theorem bl_length (s:ByteArray) (n:Nat):(bl s n).length=n:=by simp [bl]
theorem bl_snoc (s:ByteArray) (n:Nat):bl s n++[sb s (n:Int)]=bl s (n+1):=by simp [bl,List.range_succ]
theorem bl_ix (s:ByteArray) {n j:Nat} (h:j<n):ix (bl s n) j=sb s (j:Int):=by simp [bl,ix,List.getD_eq_getElem?_getD,h]
theorem w_sb (s:ByteArray) (i:Int):w64 (sb s i)=sb s i:=by
 have:=sb_range s i
 exact w_small (by omega) (by omega)
theorem idsB_congr {f g:Nat→Int} {n:Nat} (h:∀j,j<n→f j=g j):idsB f n=idsB g n:=by
 unfold idsB
 refine allF_congr fun j h1 h2=>?_
 rw [h j (by omega),h (j - 1) (by omega)]
def memB (s:ByteArray):Bool:=idsB (fun j=>sb s (j:Int)) s.size&&decide (0<s.size)
theorem readMembers {N:Nat} (hN:Big N) (s:ByteArray) (h:s.size≤M20):impl_readMembers.m N s=some (bl s s.size,memB s):=by
 unfold impl_readMembers.m impl_readMembers.m0 impl_readMembers.lp3
 have:=miter_up (step:=fun rec=>impl_readMembers.step3 N s rec) (n:=s.size) (st:=fun i=>((s.size:Int),(i:Int),bl s i)) (r:=some (bl s s.size,memB s)) (fun i hi rec=>by
  simp only [impl_readMembers.step3,lt_dec hi,nn_dec,cond_true,w_sb,bl_snoc]
  rw [roomB (by simp only [bl_length,List.length_singleton];simp only [M20] at h;omega) (by omega),cond_true,w_up i _ hi h]) (fun rec=>by
  simp only [impl_readMembers.step3,ge_dec,cond_false]
  rw [membersOK hN _ (by rw [bl_length];exact h),ob_some,bl_length,idsB_congr (g:=fun j=>sb s (j:Int)) (fun j hj=>bl_ix s hj),memB,Bool.and_comm]) s.size 0 N (by omega) (by simp only [M20] at h;omega)
 exact this
theorem l02Members {N:Nat} (hN:Big N) (s:ByteArray) (h:s.size≤M20):spec_l02Members.m N s=some (bif idsB (fun j=>sb s (j:Int)) s.size then (bl s s.size,decide (0<s.size)) else ([],false)):=by
 unfold spec_l02Members.m spec_l02Members.m0 spec_l02Members.lp3
 have:=loop_all (step:=fun rec=>spec_l02Members.step3 N s rec) (n:=s.size) (st:=fun i=>((i:Int),bl s i)) (p:=fun i=>inB (sb s (i:Int)) 0 6 && !(decide (0<i)&&decide (sb s ((i - 1:Nat):Int)≥sb s (i:Int)))) (f:=some ([],false)) (t:=some (bl s s.size,decide (0<s.size))) (fun i hi rec=>by
  have hr:room ((bl s i).length+([sb s (i:Int)]:List Int).length) 8=true:=roomB (by simp only [bl_length,List.length_singleton];simp only [M20] at h;omega) (by omega)
  simp only [spec_l02Members.step3,lt_dec hi,nn_dec,cond_true,l01In,ob_some,w_sb]
  cases h1:inB (sb s (i:Int)) 0 6 with
  | false=>simp
  | true=>
   simp only [Bool.not_true,cond_false,Bool.true_and,hr,cond_true,bl_snoc]
   by_cases h0:0<i
   ·have e:w64 ((i:Int) - 1)=((i - 1:Nat):Int):=w_dn i h0 (by simp only [M20] at h;omega)
    simp only [decide_eq_true (show (i:Int) > 0 by omega),cond_true,e,nn_dec,lt_dec (show i - 1<s.size by omega),decide_eq_true h0,Bool.true_and,cond_false]
    rw [w_up i _ hi h]
    by_cases hc:sb s ((i - 1:Nat):Int)≥sb s (i:Int)<;>simp [hc]
   ·rw [decide_eq_false (show ¬ (i:Int) > 0 by omega),decide_eq_false h0]
    simp only [cond_false,Bool.false_and,Bool.not_false,cond_true]
    rw [w_up i _ hi h]) (fun rec=>by
   simp only [spec_l02Members.step3,ge_dec,cond_false,bl_length]
   congr 2
   rw [decide_eq_decide];omega) s.size 0 N (by omega) (by simp only [M20] at h;omega)
 refine (show _=_ from this).trans ?_
 unfold idsB
 cases allF _ 0 s.size<;>rfl
def entB (x:Entry):Bool:=inB x.Term 1 1000000&&(bif x.Kind==0 then seq x.Data ByteArray.empty else bif x.Kind==1 then decide ((x.Data.size:Int)≥1)&&decide ((x.Data.size:Int)≤100) else bif x.Kind==2 then memB x.Data else false)
theorem specEntry {N:Nat} (hN:Big N) (x:Entry) (h:x.Data.size≤M20):spec_l02Entry.m N x=some (entB x):=by
 unfold spec_l02Entry.m entB
 rw [l01In,ob_some,l02Members hN _ h]
 refine ifNot ?_
 cases x.Kind==0 with
 | true=>rfl
 | false=>
  cases x.Kind==1 with
  | true=>cases decide ((x.Data.size:Int)≥1)<;>rfl
  | false=>
   cases x.Kind==2 with
   | true=>
    simp only [cond_false,cond_true,ob_some,memB]
    cases idsB (fun j=>sb x.Data (j:Int)) x.Data.size<;>rfl
   | false=>rfl
theorem implEntry {N:Nat} (hN:Big N) (x:Entry) (h:x.Data.size≤M20):impl_entryOK.m N x=some (entB x):=by
 unfold impl_entryOK.m entB
 rw [within,ob_some,within,readMembers hN _ h]
 refine ifNot ?_
 cases x.Kind==0 with
 | true=>rfl
 | false=>
  cases x.Kind==1 with
  | true=>rfl
  | false=>
   cases x.Kind==2<;>rfl
def ex (a:List Entry) (i:Nat):Entry:=a.getD i Entry.dz
theorem exe (a:List Entry) (i:Nat):a.getD i Entry.dz=ex a i:=rfl
def logB (a:List Entry) (t:Int):Bool:=allF (fun i=>entB (ex a i)&&(!decide ((ex a i).Term > t) && !(decide (0<i)&&decide ((ex a (i - 1)).Term > (ex a i).Term)))) 0 a.length
theorem ex_size {a:List Entry} {n:Nat} (h:∀x∈a,x.Data.size≤n) {i:Nat} (hi:i<a.length):(ex a i).Data.size≤n:=by
 rw [ex,getD_at hi];exact h _ (List.getElem_mem hi)
theorem implLog {N:Nat} (hN:Big N) (a:List Entry) (t:Int) (h:a.length≤M20) (hd:∀x∈a,x.Data.size≤M20):impl_logOK.m N a t=some (logB a t&&decide ((a.length:Int)≤60)):=by
 unfold impl_logOK.m impl_logOK.m0 impl_logOK.lp2
 have:=loop_all (step:=fun rec=>impl_logOK.step2 N a t rec) (n:=a.length) (st:=fun i=>((a.length:Int),(i:Int))) (p:=fun i=>entB (ex a i)&&(!decide ((ex a i).Term > t) && !(decide (0<i)&&decide ((ex a (i - 1)).Term > (ex a i).Term)))) (f:=some false) (t:=some (decide ((a.length:Int)≤60))) (fun i hi rec=>by
  simp only [impl_logOK.step2,lt_dec hi,nn_dec,cond_true,Int.toNat_natCast,exe,implEntry hN _ (ex_size hd hi),ob_some,cond_false]
  cases entB (ex a i) with
  | false=>rfl
  | true=>
   simp only [Bool.not_true,cond_false,Bool.true_and]
   by_cases h2:(ex a i).Term > t
   ·simp [h2]
   ·simp only [h2,decide_false,cond_false,Bool.not_false,Bool.true_and]
    by_cases h0:0<i
    ·have e:w64 ((i:Int) - 1)=((i - 1:Nat):Int):=w_dn i h0 (by simp only [M20] at h;omega)
     simp only [decide_eq_true (show (i:Int) > 0 by omega),cond_true,e,nn_dec,lt_dec (show i - 1<a.length by omega),decide_eq_true h0,Bool.true_and,Int.toNat_natCast,exe]
     rw [w_up i _ hi h]
     by_cases hc:(ex a (i - 1)).Term > (ex a i).Term<;>simp [hc]
    ·rw [decide_eq_false (show ¬ (i:Int) > 0 by omega),decide_eq_false h0]
     simp only [cond_false,Bool.false_and,Bool.not_false,cond_true]
     rw [w_up i _ hi h]) (fun rec=>by simp [impl_logOK.step2]) a.length 0 N (by omega) (by simp only [M20] at h;omega)
 refine (show _=_ from this).trans ?_
 unfold logB
 cases allF _ 0 a.length<;>rfl
def stB (s:State):Bool:=inB s.Term 0 1000000&&(inB s.Vote (-1) 6&&(decide ((s.Log.length:Int)≤60)&&logB s.Log s.Term))
theorem implState {N:Nat} (hN:Big N) (s:State) (h:s.Log.length≤M20) (hd:∀x∈s.Log,x.Data.size≤M20):impl_StateOK.m N s=some (stB s):=by
 unfold impl_StateOK.m stB
 rw [within,within,implLog hN _ _ h hd]
 simp only [ob_some]
 cases inB s.Term 0 1000000<;>cases inB s.Vote (-1) 6<;>cases decide ((s.Log.length:Int)≤60)<;>cases logB s.Log s.Term<;>rfl
theorem specState {N:Nat} (hN:Big N) (s:State) (h:s.Log.length≤M20) (hd:∀x∈s.Log,x.Data.size≤M20):spec_StateOK.m N s=some (stB s):=by
 unfold spec_StateOK.m spec_StateOK.m0 stB
 rw [l01In,l01In]
 simp only [ob_some,cond_false]
 refine ifNot (ifNot ?_)
 have e:decide ((s.Log.length:Int)≤60) = !decide ((s.Log.length:Int) > 60):=by rw [Bool.eq_iff_iff];simp
 rw [e]
 refine ifNo ?_
 unfold spec_StateOK.lp4
 have:=loop_all (step:=fun rec=>spec_StateOK.step4 N s rec) (n:=s.Log.length) (st:=fun i=>(i:Int)) (p:=fun i=>entB (ex s.Log i)&&(!decide ((ex s.Log i).Term > s.Term) && !(decide (0<i)&&decide ((ex s.Log (i - 1)).Term > (ex s.Log i).Term)))) (f:=some false) (t:=some true) (fun i hi rec=>by
  simp only [spec_StateOK.step4,lt_dec hi,nn_dec,cond_true,Int.toNat_natCast,exe,specEntry hN _ (ex_size hd hi),ob_some,cond_false]
  cases entB (ex s.Log i) with
  | false=>rfl
  | true=>
   simp only [Bool.not_true,cond_false,Bool.true_and]
   by_cases h2:(ex s.Log i).Term > s.Term
   ·simp [h2]
   ·simp only [h2,decide_false,cond_false,Bool.not_false,Bool.true_and]
    by_cases h0:0<i
    ·have e:w64 ((i:Int) - 1)=((i - 1:Nat):Int):=w_dn i h0 (by simp only [M20] at h;omega)
     simp only [decide_eq_true (show (i:Int) > 0 by omega),cond_true,e,nn_dec,lt_dec (show i - 1<s.Log.length by omega),decide_eq_true h0,Bool.true_and,Int.toNat_natCast,exe]
     rw [w_up i _ hi h]
     by_cases hc:(ex s.Log (i - 1)).Term > (ex s.Log i).Term<;>simp [hc]
    ·rw [decide_eq_false (show ¬ (i:Int) > 0 by omega),decide_eq_false h0]
     simp only [cond_false,Bool.false_and,Bool.not_false,cond_true]
     rw [w_up i _ hi h]) (fun rec=>by simp [spec_StateOK.step4]) s.Log.length 0 N (by omega) (by simp only [M20] at h;omega)
 refine (show _=_ from this).trans ?_
 unfold logB
 cases allF _ 0 s.Log.length<;>rfl
def reachP (nx mt:List Int) (n:Int) (i:Nat):Bool:=inB (ix nx i) 1 (w64 (n+1))&&inB (ix mt i) 0 (w64 (ix nx i - 1))
def reachB (nx mt:List Int) (n:Int):Bool:=allF (reachP nx mt n) 0 7
theorem reachOK {N:Nat} (hN:Big N) (nx mt:List Int) (n:Int):impl_reachOK.m N nx mt n=some (decide (nx.length=7)&&(decide (mt.length=7)&&reachB nx mt n)):=by
 unfold impl_reachOK.m impl_reachOK.m0
 have e1:((nx.length:Int) != 7) = !decide (nx.length=7):=by rw [Bool.eq_iff_iff];simp;omega
 have e2:((mt.length:Int) != 7) = !decide (mt.length=7):=by rw [Bool.eq_iff_iff];simp;omega
 simp only [cond_false]
 rw [e1,e2]
 by_cases h1:nx.length=7
 ·by_cases h2:mt.length=7
  ·rw [decide_eq_true h1,decide_eq_true h2]
   simp only [Bool.not_true,cond_false,Bool.true_and]
   unfold impl_reachOK.lp4
   have:=loop_all (step:=fun rec=>impl_reachOK.step4 N nx mt n rec) (n:=7) (st:=fun i=>((nx.length:Int),(i:Int))) (p:=reachP nx mt n) (f:=some false) (t:=some true) (fun i hi rec=>by
    simp only [impl_reachOK.step4,lt_dec (show i<nx.length by omega),lt_dec (show i<mt.length by omega),nn_dec,cond_true,Int.toNat_natCast,ixe,within,ob_some,cond_false]
    rw [w_up i 7 hi (by omega)]
    unfold reachP
    cases inB (ix nx i) 1 (w64 (n+1))<;>cases inB (ix mt i) 0 (w64 (ix nx i - 1))<;>rfl) (fun rec=>by simp [impl_reachOK.step4,h1]) 7 0 N (by omega) (by omega)
   refine (show _=_ from this).trans ?_
   unfold reachB
   cases allF (reachP nx mt n) 0 7<;>rfl
  ·rw [decide_eq_true h1,decide_eq_false h2];rfl
 ·rw [decide_eq_false h1];rfl
def okB (x:Node):Bool:=inB x.Id 0 6&&(stB ⟨x.Term,x.Vote,x.Log⟩&&(idsB (ix x.Start) x.Start.length&&(decide (0<x.Start.length)&&(idsB (ix x.Votes) x.Votes.length&&(inB x.Role 0 2&&(decide (x.Next.length=7)&&(decide (x.Match.length=7)&&(inB x.Commit 0 x.Log.length&&(inB x.Elapsed 0 1000&&(inB x.Wait 5 100&&(reachB x.Next x.Match x.Log.length&&(x.Up||x.Role==0))))))))))))
theorem specOK {N:Nat} (hN:Big N) (x:Node) (h:NodeSz x M20) (hd:NodeData x):spec_NodeOK.m N x=some (okB x):=by
 unfold spec_NodeOK.m spec_NodeOK.m0 okB
 rw [l01In,specState hN ⟨x.Term,x.Vote,x.Log⟩ h.Log hd,l10Ids hN _ h.Start,l10Ids hN _ h.Votes,l01In,l01In,l01In,l01In]
 simp only [ob_some,cond_false]
 have e0:((x.Start.length:Int)==0) = !decide (0<x.Start.length):=by rw [Bool.eq_iff_iff];simp
 have e1:((x.Next.length:Int) != 7) = !decide (x.Next.length=7):=by rw [Bool.eq_iff_iff];simp;omega
 have e2:((x.Match.length:Int) != 7) = !decide (x.Match.length=7):=by rw [Bool.eq_iff_iff];simp;omega
 rw [e0,e1,e2]
 refine ifNot (ifNot (ifNot (ifNot (ifNot (ifNot ?_)))))
 by_cases h1:x.Next.length=7
 ·by_cases h2:x.Match.length=7
  ·rw [decide_eq_true h1,decide_eq_true h2]
   refine ifNot (ifNot (ifNot (ifNot (ifNot ?_))))
   unfold spec_NodeOK.lp6
   have:=loop_all (step:=fun rec=>spec_NodeOK.step6 N x rec) (n:=7) (st:=fun i=>(i:Int)) (p:=reachP x.Next x.Match x.Log.length) (f:=some false) (t:=some (x.Up||x.Role==0)) (fun i hi rec=>by
    simp only [spec_NodeOK.step6,lt_dec (show i<x.Next.length by omega),lt_dec (show i<x.Match.length by omega),decide_eq_true (show (i:Int)<7 by omega),nn_dec,cond_true,Int.toNat_natCast,ixe,l01In,ob_some,cond_false]
    rw [w_up i 7 hi (by omega)]
    unfold reachP
    cases inB (ix x.Next i) 1 (w64 ((x.Log.length:Int)+1))<;>cases inB (ix x.Match i) 0 (w64 (ix x.Next i - 1))<;>rfl) (fun rec=>by
    show spec_NodeOK.step6 N x rec 7=_
    simp only [spec_NodeOK.step6]
    cases x.Up<;>rfl) 7 0 N (by omega) (by omega)
   refine (show _=_ from this).trans ?_
   unfold reachB
   cases allF (reachP x.Next x.Match x.Log.length) 0 7<;>rfl
  ·rw [decide_eq_true h1,decide_eq_false h2];rfl
 ·rw [decide_eq_false h1];rfl
theorem implOK {N:Nat} (hN:Big N) (x:Node) (h:NodeSz x M20) (hd:NodeData x):impl_NodeOK.m N x=some (okB x):=by
 unfold impl_NodeOK.m okB
 rw [isNumber,implState hN ⟨x.Term,x.Vote,x.Log⟩ h.Log hd,membersOK hN _ h.Start,areNumbers hN _ h.Votes,areRising hN _ h.Votes,within,reachOK hN,within,within,within,idsB_eq (ix x.Votes)]
 simp only [ob_some,cond_false]
 have e:(x.Role != 0) = !(x.Role==0):=rfl
 rw [e]
 generalize inB x.Id 0 6=b1
 generalize stB ⟨x.Term,x.Vote,x.Log⟩=b2
 generalize idsB (ix x.Start) x.Start.length=b3
 generalize decide (0<x.Start.length)=b4
 generalize numsB (ix x.Votes) x.Votes.length=b5
 generalize riseB (ix x.Votes) x.Votes.length=b6
 generalize inB x.Role 0 2=b7
 generalize decide (x.Next.length=7)=b8
 generalize decide (x.Match.length=7)=b9
 generalize inB x.Commit 0 x.Log.length=b10
 generalize inB x.Elapsed 0 1000=b11
 generalize inB x.Wait 5 100=b12
 generalize reachB x.Next x.Match x.Log.length=b13
 generalize x.Up=b14
 generalize (x.Role==0)=b15
 cases b1;· rfl
 cases b2;· rfl
 cases b3;· cases b4<;>rfl
 cases b4;· rfl
 cases b5;· rfl
 cases b6;· rfl
 cases b7;· rfl
 cases b8;· cases b14<;>cases b15<;>rfl
 cases b9;· cases b14<;>cases b15<;>rfl
 cases b10;· cases b13<;>cases b14<;>cases b15<;>rfl
 cases b11;· cases b13<;>cases b14<;>cases b15<;>rfl
 cases b12<;>cases b13<;>cases b14<;>cases b15<;>rfl
theorem nodeEta (x:Node):Node.mk x.Id x.Term x.Vote x.Log x.Start x.Role x.Votes x.Next x.Match x.Commit x.Elapsed x.Wait x.Up=x:=rfl
end Mir.Y
