/- Pure laws: MembersOf, ConfigAllowed. -/
import Derived.Test.YtbbkpgpfppnakaaGreatJTL4
namespace Mir.Y
set_option linter.unusedVariables false
set_option linter.unusedSimpArgs false
open Go
def memL (a:List Entry) (s:List Int):Nat→List Int
 | 0=>s
 | n+1=>bif (ex a n).Kind==2 then bl (ex a n).Data (ex a n).Data.size else memL a s n
def allMem (a:List Entry):Prop:=∀j,j<a.length→((ex a j).Kind==2)=true→memB (ex a j).Data=true
theorem l10Members {N:Nat} (hN:Big N) (x:Node) (h:x.Log.length≤M20) (hd:NodeData x) (hm:allMem x.Log):spec_l10Members_.m N x=some (memL x.Log x.Start x.Log.length):=by
 unfold spec_l10Members_.m spec_l10Members_.m0 spec_l10Members_.lp2
 have e:w64 ((x.Log.length:Int) - 1)=(x.Log.length:Int) - 1:=w_small (by omega) (by simp only [M20] at h;omega)
 rw [e]
 have:∀(n K:Nat),n≤x.Log.length→n<K→miter (fun rec=>spec_l10Members_.step2 N x rec) K ((n:Int) - 1)=some (memL x.Log x.Start n):=by
  intro n
  induction n with
  | zero=>
   intro K _ hK
   obtain ⟨K,rfl⟩:∃L,K=L+1:=⟨K - 1,by omega⟩
   rfl
  | succ n ih=>
   intro K hn hK
   obtain ⟨K,rfl⟩:∃L,K=L+1:=⟨K - 1,by omega⟩
   show spec_l10Members_.step2 N x (miter (fun rec=>spec_l10Members_.step2 N x rec) K) _=_
   have e1:((n+1:Nat):Int) - 1=(n:Int):=by omega
   have e2:w64 ((n:Int) - 1)=(n:Int) - 1:=w_small (by omega) (by simp only [M20] at h;omega)
   rw [e1]
   simp only [spec_l10Members_.step2,decide_eq_true (show (n:Int)≥0 by omega),nn_dec,lt_dec (show n<x.Log.length by omega),cond_true,Int.toNat_natCast,exe,e2,memL]
   cases hk:(ex x.Log n).Kind==2 with
   | true=>
    rw [cond_true,cond_true,l02Members hN _ (ex_size hd (by omega)),ob_some]
    have:=hm n (by omega) hk
    unfold memB at this
    rw [Bool.and_eq_true] at this
    rw [this.1];rfl
   | false=>rw [cond_false,cond_false,ih K (by omega) (by omega)]
 exact this _ N (Nat.le_refl _) (by simp only [M20] at h;omega)
theorem memFind (a:List Entry) (s:List Int):∀n,n≤a.length→((a.take n).reverse.find? (fun e=>e.Kind==2)).elim s (fun e=>bl e.Data e.Data.size)=memL a s n
 | 0,_=>by simp [memL]
 | n+1,h=>by
  have ht:a.take (n+1)=a.take n++[a[n]]:=by rw [List.take_add_one,List.getElem?_eq_getElem (by omega)];rfl
  have e:ex a n=a[n]:=by rw [ex,getD_at (show n<a.length by omega)]
  rw [ht,List.reverse_append,List.reverse_singleton,List.singleton_append,List.find?_cons,memL,e]
  cases a[n].Kind==2 with
  | true=>rfl
  | false=>exact memFind a s n (by omega)
theorem implMembers {N:Nat} (hN:Big N) (x:Node) (h:NodeSz x M20) (hd:NodeData x):impl_Node_members.m N x=some (memL x.Log x.Start x.Log.length):=by
 unfold impl_Node_members.m
 have hl:=h.Log
 have e1:decide (x.Log.length≤1048576000)=true:=decide_eq_true (by simp only [M20] at hl;omega)
 have e2:x.Log.all (fun e=>!(e.Kind==2)||(impl_readMembers.m N e.Data).isSome)=true:=by
  rw [List.all_eq_true]
  intro e he
  rw [readMembers hN _ (hd e he)]
  cases e.Kind==2<;>rfl
 rw [e1,e2,Bool.and_self,cond_true]
 have e3:=memFind x.Log x.Start x.Log.length (Nat.le_refl _)
 rw [List.take_length] at e3
 rw [← e3]
 generalize hf:x.Log.reverse.find? (fun e=>e.Kind==2)=o
 cases o with
 | none=>exact cloneInt N _ h.Start
 | some e=>
  have he:e∈x.Log:=by
   have:=List.mem_of_find?_eq_some hf
   exact List.mem_reverse.mp this
  show (impl_readMembers.m N e.Data).map (·.1)=_
  rw [readMembers hN _ (hd e he)];rfl
theorem okMem {x:Node} (h:okB x=true):allMem x.Log:=by
 unfold okB at h
 rw [Bool.and_eq_true,Bool.and_eq_true] at h
 have hs:=h.2.1
 unfold stB at hs
 rw [Bool.and_eq_true,Bool.and_eq_true,Bool.and_eq_true] at hs
 have hl:logB x.Log x.Term=true:=hs.2.2.2
 unfold logB at hl
 rw [allF_iff] at hl
 intro j hj hk
 have:=hl j (Nat.zero_le _) (by omega)
 rw [Bool.and_eq_true] at this
 have he:=this.1
 unfold entB at he
 rw [Bool.and_eq_true] at he
 have e2:(ex x.Log j).Kind=2:=by simpa using hk
 have he2:=he.2
 rw [e2] at he2
 exact he2
def hasB (a:List Int) (x:Int):Bool:=!allF (fun j=>!(ix a j==x)) 0 a.length
theorem l10Has {N:Nat} (hN:Big N) (a:List Int) (x:Int) (h:a.length≤M20):spec_l10Has.m N a x=some (hasB a x):=by
 unfold spec_l10Has.m spec_l10Has.m0 spec_l10Has.lp2
 have:=loop_all (step:=fun rec=>spec_l10Has.step2 N a x rec) (n:=a.length) (st:=fun i=>(i:Int)) (p:=fun i=>!(ix a i==x)) (f:=some true) (t:=some false) (fun i hi rec=>by
  simp only [spec_l10Has.step2,lt_dec hi,nn_dec,cond_true,Int.toNat_natCast,ixe]
  rw [w_up i _ hi h]
  cases ix a i==x<;>rfl) (fun rec=>by simp [spec_l10Has.step2]) a.length 0 N (by omega) (by simp only [M20] at h;omega)
 refine (show _=_ from this).trans ?_
 unfold hasB
 cases allF _ 0 a.length<;>rfl
theorem contains {N:Nat} (hN:Big N) (a:List Int) (x:Int) (h:a.length≤M20):slices_Contains_int_int.m N a x=some (hasB a x):=by
 unfold slices_Contains_int_int.m slices_Index_int_int.m slices_Index_int_int.m0 slices_Index_int_int.lp2
 obtain ⟨y,hy,hd⟩:=loop_idx (step:=fun rec=>slices_Index_int_int.step2 N a x rec) (n:=a.length) (st:=fun i=>((a.length:Int),(i:Int))) (p:=fun i=>ix a i==x) (fun i hi rec=>by
  simp only [slices_Index_int_int.step2,lt_dec hi,nn_dec,cond_true,Int.toNat_natCast,ixe]
  rw [w_up i _ hi h]
  have:(x==ix a i)=(ix a i==x):=by exact Bool.eq_iff_iff.mpr (by rw [beq_iff_eq,beq_iff_eq];exact eq_comm)
  rw [this]) (fun rec=>by simp [slices_Index_int_int.step2]) a.length 0 N (by omega) (by simp only [M20] at h;omega)
 have hy:miter (fun rec=>slices_Index_int_int.step2 N a x rec) N ((a.length:Int),0)=some y:=hy
 rw [hy,ob_some,hd];rfl
def cnB (d:Nat→Bool):Nat→Nat
 | 0=>0
 | i+1=>cnB d i+(d i).toNat
theorem cnB_le (d:Nat→Bool):∀n,cnB d n≤n
 | 0=>Nat.le_refl _
 | n+1=>by
  have:=cnB_le d n
  have h1:(d n).toNat≤1:=by cases d n<;>decide
  show cnB d n+(d n).toNat≤n+1
  omega
theorem okCommit {x:Node} (h:okB x=true):0≤x.Commit∧x.Commit≤x.Log.length:=by
 unfold okB at h
 simp only [Bool.and_eq_true] at h
 have:=h.2.2.2.2.2.2.2.2.1
 unfold inB at this
 simp only [Bool.and_eq_true,decide_eq_true_eq] at this
 omega
end Mir.Y
