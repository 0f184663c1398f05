/- Pure laws: messages; NodePropose. -/
import Derived.Test.YtcgniikapdcfmaaRCRA
namespace Mir.Y
set_option linter.unusedVariables false
set_option linter.unusedSimpArgs false
open Go
theorem getD_set' {α:Type} {l:List α} {i:Nat} (h:i<l.length) (x d:α):(l.set i x).getD i d=x:=by
 rw [List.getD_eq_getElem?_getD,List.getElem?_set_self h];rfl
theorem hasB_iff (a:List Int) (x:Int):hasB a x=true↔x∈a:=by
 unfold hasB
 rw [Bool.not_eq_true',← Bool.not_eq_true,allF_iff]
 constructor
 ·intro h
  apply Classical.byContradiction
  intro hx
  apply h
  intro j _ hj
  have hj:j<a.length:=by omega
  rw [ix,getD_at hj,Bool.not_eq_true',beq_eq_false_iff_ne]
  rintro rfl
  exact hx (List.getElem_mem hj)
 ·intro hx h
  obtain ⟨j,hj,rfl⟩:=List.getElem_of_mem hx
  have:=h j (Nat.zero_le _) (by omega)
  rw [ix,getD_at hj] at this
  simp at this
theorem ids_ge {f:Nat→Int} {n:Nat} (h:idsB f n=true):∀j,j<n→(j:Int)≤f j∧0≤f j∧f j≤6:=by
 unfold idsB at h
 rw [allF_iff] at h
 intro j
 induction j with
 | zero=>
  intro hj
  have:=h 0 (Nat.le_refl _) (by omega)
  unfold inB at this
  simp only [Bool.and_eq_true,decide_eq_true_eq] at this
  omega
 | succ j ih=>
  intro hj
  have h1:=ih (by omega)
  have h2:=h (j+1) (Nat.zero_le _) (by omega)
  unfold inB at h2
  simp only [Bool.and_eq_true,decide_eq_true_eq,Bool.not_eq_true',Bool.and_eq_false_iff,decide_eq_false_iff_not] at h2
  have h3:¬ f (j+1 - 1)≥f (j+1):=by rcases h2.2 with h | h;omega;exact h
  rw [Nat.add_sub_cancel] at h3
  omega
structure Mem (M:List Int):Prop where
 len:M.length≤7
 lo:∀x∈M,0≤x∧x≤6
theorem mem_of {M:List Int} (h:idsB (ix M) M.length=true):Mem M:=by
 have hg:=ids_ge h
 refine ⟨?_,fun x hx=>?_⟩
 ·rcases Nat.eq_zero_or_pos M.length with h0 | h0
  ·omega
  ·have:=hg (M.length - 1) (by omega)
   omega
 ·obtain ⟨j,hj,rfl⟩:=List.getElem_of_mem hx
  have:=hg j hj
  rw [ix,getD_at hj] at this
  omega
theorem memL_ids {a:List Entry} {s:List Int} (hs:idsB (ix s) s.length=true) (ha:allMem a):∀n,n≤a.length→idsB (ix (memL a s n)) (memL a s n).length=true
 | 0,_=>hs
 | n+1,h=>by
  unfold memL
  cases hk:(ex a n).Kind==2 with
  | true=>
   rw [cond_true,bl_length,idsB_congr (g:=fun j=>sb (ex a n).Data (j:Int)) (fun j hj=>bl_ix _ hj)]
   have:=ha n (by omega) hk
   unfold memB at this
   rw [Bool.and_eq_true] at this
   exact this.1
  | false=>exact memL_ids hs ha n (by omega)
theorem memL_congr {a b:List Entry} {s:List Int}:∀n,(∀j,j<n→ex a j=ex b j)→memL a s n=memL b s n
 | 0,_=>rfl
 | n+1,h=>by
  unfold memL
  rw [h n (by omega),memL_congr n fun j hj=>h j (by omega)]
def mostB (p:Int→Bool) (M:List Int):Bool:=decide (2 * ((cnB (fun j=>p (ix M j)) M.length:Nat):Int) > (M.length:Int))
theorem cnB_congr {d e:Nat→Bool}:∀n,(∀j,j<n→d j=e j)→cnB d n=cnB e n
 | 0,_=>rfl
 | n+1,h=>by
  show cnB d n+(d n).toNat=cnB e n+(e n).toNat
  rw [cnB_congr n fun j hj=>h j (by omega),h n (by omega)]
theorem ix_mem {M:List Int} {j:Nat} (h:j<M.length):ix M j∈M:=by rw [ix,getD_at h];exact List.getElem_mem h
theorem mostB_congr {p q:Int→Bool} {M:List Int} (h:∀x∈M,p x=q x):mostB p M=mostB q M:=by
 unfold mostB
 rw [cnB_congr M.length fun j hj=>h _ (ix_mem hj)]
theorem l10Most {N:Nat} (hN:Big N) (ids M:List Int) (hi:ids.length≤100) (hM:M.length≤100):spec_l10Most.m N ids M=some (mostB (hasB ids) M):=by
 unfold spec_l10Most.m spec_l10Most.m0 spec_l10Most.lp3
 exact miter_up (step:=fun rec=>spec_l10Most.step3 N ids M rec) (n:=M.length) (st:=fun i=>(((cnB (fun j=>hasB ids (ix M j)) i:Nat):Int),(i:Int))) (fun i hi' rec=>by
  have hc:=cnB_le (fun j=>hasB ids (ix M j)) i
  have hh:spec_l10Has.m N ids (ix M i)=some (hasB ids (ix M i)):=l10Has hN _ _ (by simp only [M20];omega)
  have b1:spec_l01Bit.m N (hasB ids (ix M i))=some (((hasB ids (ix M i)).toNat:Nat):Int):=by cases hasB ids (ix M i)<;>rfl
  have ht:(hasB ids (ix M i)).toNat≤1:=by cases hasB ids (ix M i)<;>simp
  simp only [spec_l10Most.step3,lt_dec hi',nn_dec,cond_true,Int.toNat_natCast,ixe,hh,ob_some,b1]
  rw [w_up i _ hi' (by omega),w_small (by omega) (by omega),show cnB (fun j=>hasB ids (ix M j)) (i+1)=cnB (fun j=>hasB ids (ix M j)) i+(hasB ids (ix M i)).toNat from rfl]
  push_cast
  rfl) (fun rec=>by
  have hc:=cnB_le (fun j=>hasB ids (ix M j)) M.length
  simp only [spec_l10Most.step3,ge_dec,cond_false]
  rw [w_small (by omega) (by omega)]
  rfl) M.length 0 N (by omega) (by omega)
def hasIt (x:Node) (place:Int) (m:Int):Bool:=(m==x.Id)||decide (ix x.Match m.toNat≥place)
def idl (x:Node) (place:Int) (i:Nat):List Int:=[x.Id]++((List.range i).filter fun j=>decide (ix x.Match j≥place)&&((j:Int) != x.Id)).map fun (j:Nat)=>(j:Int)
theorem idl_len (x:Node) (place:Int) (i:Nat):(idl x place i).length≤i+1:=by
 unfold idl
 have:=List.length_filter_le (fun j=>decide (ix x.Match j≥place)&&((j:Int) != x.Id)) (List.range i)
 rw [List.length_range] at this
 simp only [List.length_append,List.length_singleton,List.length_map];omega
theorem idl_succ (x:Node) (place:Int) (i:Nat):idl x place (i+1)=bif decide (ix x.Match i≥place)&&((i:Int) != x.Id) then idl x place i++[(i:Int)] else idl x place i:=by
 unfold idl
 rw [List.range_succ,List.filter_append,List.map_append]
 cases h:decide (ix x.Match i≥place)&&((i:Int) != x.Id)<;>simp [List.filter,h]
theorem has_idl (x:Node) (place:Int) {m:Int} (h0:0≤m) (h6:m≤6):hasB (idl x place 7) m=hasIt x place m:=by
 rw [Bool.eq_iff_iff,hasB_iff]
 unfold idl hasIt
 simp only [List.mem_append,List.mem_singleton,List.mem_map,List.mem_filter,List.mem_range,Bool.and_eq_true,decide_eq_true_eq,bne_iff_ne,ne_eq,Bool.or_eq_true,beq_iff_eq]
 constructor
 ·rintro (h | ⟨j,⟨_,h1,_⟩,rfl⟩)
  ·exact .inl h
  ·exact .inr h1
 ·rintro (h | h)
  ·exact .inl h
  ·by_cases e:m=x.Id
   ·exact .inl e
   ·exact .inr ⟨m.toNat,⟨by omega,h,by omega⟩,by omega⟩
def withC (x:Node) (c:Int):Node:=⟨x.Id,x.Term,x.Vote,x.Log,x.Start,x.Role,x.Votes,x.Next,x.Match,c,x.Elapsed,x.Wait,x.Up⟩
def advC (x:Node) (M:List Int):Nat→Int
 | 0=>x.Commit
 | k+1=>bif decide (((k+1:Nat):Int) > x.Commit) then (bif (ex x.Log k).Term==x.Term then (bif mostB (hasIt x ((k+1:Nat):Int)) M then ((k+1:Nat):Int) else advC x M k) else x.Commit) else x.Commit
def notId (x:Node) (v:Int):Bool:=!(v==x.Id)
def tv (x:Node) (a:Int):Int:=bif a==0 then 0 else (ex x.Log (a - 1).toNat).Term
theorem termV {N:Nat} (x:Node) (a:Int) (h0:0≤a) (h1:a≤x.Log.length) (hl:x.Log.length≤100):spec_l10Term.m N x a=some (tv x a):=by
 unfold spec_l10Term.m tv
 by_cases h:a=0
 ·rw [h];rfl
 ·have e:(a==0)=false:=by rw [beq_eq_false_iff_ne];exact h
  rw [e,w_small (by omega) (by omega),decide_eq_true (show 0≤a - 1 by omega),decide_eq_true (show a - 1<x.Log.length by omega)]
  rfl
def msgTo (x:Node) (to:Int):Message:=⟨3,x.Id,to,x.Term,ix x.Next to.toNat - 1,tv x (ix x.Next to.toNat - 1),x.Commit,x.Log.drop (ix x.Next to.toNat - 1).toNat,false⟩
structure Tells (x:Node):Prop where
 n7:x.Next.length=7
 nx:∀j,j<7→1≤ix x.Next j∧ix x.Next j≤x.Log.length+1
 ll:x.Log.length≤100
theorem specApp {N:Nat} (hN:Big N) (x:Node) (h:Tells x) (to:Int) (h0:0≤to) (h6:to≤6):spec_l10Append.m N x to=some (msgTo x to):=by
 unfold spec_l10Append.m
 have hn:=h.nx to.toNat (by omega)
 have hl:=h.ll
 have e:w64 (ix x.Next to.toNat - 1)=ix x.Next to.toNat - 1:=w_small (by omega) (by omega)
 rw [ixe,e,decide_eq_true h0,decide_eq_true (show to<(x.Next.length:Int) by rw [h.n7];omega),termV x _ (by omega) (by omega) hl,decide_eq_true (show 0≤ix x.Next to.toNat - 1 by omega),decide_eq_true (show ix x.Next to.toNat - 1≤((x.Log.length:Nat):Int) by omega)]
 simp only [cond_true,ob_some]
 rw [roomB (by rw [List.length_drop];simp;omega) (by omega)]
 rfl
def told (x:Node) (M:List Int):List Message:=(M.filter (notId x)).map (msgTo x)
theorem told_len {x:Node} {M:List Int} (hM:Mem M):(told x M).length≤7:=by
 unfold told
 have:=List.length_filter_le (notId x) M
 have:=hM.len
 rw [List.length_map];omega
theorem specTell {N:Nat} (hN:Big N) (x:Node) (M:List Int) (hms:spec_l10Members_.m N x=some M) (hM:Mem M) (h:Tells x):spec_l10Tell.m N x=some (told x M):=by
 unfold spec_l10Tell.m spec_l10Tell.m0
 rw [hms,ob_some]
 unfold spec_l10Tell.lp4
 have hl:=hM.len
 have:=miter_up (step:=fun rec=>spec_l10Tell.step4 N x rec) (n:=M.length) (st:=fun i=>(M,(i:Int),((M.take i).filter (notId x)).map (msgTo x))) (r:=some (told x M)) (fun i hi rec=>by
  have hx:=hM.lo _ (ix_mem hi)
  have hle:(((M.take i).filter (notId x)).map (msgTo x)).length≤100:=by
   have:=List.length_filter_le (notId x) (M.take i)
   rw [List.length_take] at this
   rw [List.length_map];omega
  have htk:M.take (i+1)=M.take i++[ix M i]:=by rw [List.take_add_one,List.getElem?_eq_getElem hi,ix,getD_at hi];rfl
  simp only [spec_l10Tell.step4,lt_dec hi,nn_dec,cond_true,Int.toNat_natCast,ixe,specApp hN x h _ hx.1 hx.2,ob_some]
  rw [w_up i _ hi (by omega),roomB (by rw [List.length_singleton];omega) (by omega),cond_true,htk,List.filter_append,List.map_append]
  have hb:(ix M i != x.Id)=notId x (ix M i):=rfl
  rw [hb]
  cases hq:notId x (ix M i)<;>simp [List.filter,hq]) (fun rec=>by
  simp only [spec_l10Tell.step4,ge_dec,cond_false,List.take_length]
  rfl) M.length 0 N (by omega) (by omega)
 exact this
theorem ownS {N:Nat} (x:Node) (h:NodeSz x M20):spec_l10Own.m N x=some x:=by
 unfold spec_l10Own.m
 have h1:=h.Log;have h2:=h.Start;have h3:=h.Votes;have h4:=h.Next;have h5:=h.Match
 rw [roomB (by simpa using h1) (by omega),roomB (by simpa using h2) (by omega),roomB (by simpa using h3) (by omega),roomB (by simpa using h4) (by omega),roomB (by simpa using h5) (by omega)]
 rfl
structure OkN (x:Node):Prop where
 m:allMem x.Log
 s:idsB (ix x.Start) x.Start.length=true
 c0:0≤x.Commit
 c1:x.Commit≤x.Log.length
 n7:x.Next.length=7
 m7:x.Match.length=7
 nx:∀j,j<7→1≤ix x.Next j∧ix x.Next j≤x.Log.length+1
 ll:x.Log.length≤60
theorem okN {x:Node} (h:okB x=true):OkN x:=by
 have hm:=okMem h
 have hc:=okCommit h
 unfold okB at h
 simp only [Bool.and_eq_true,decide_eq_true_eq] at h
 obtain ⟨_,hs,h3,_,_,_,h7,h8,_,_,_,hr,_⟩:=h
 unfold stB at hs
 simp only [Bool.and_eq_true,decide_eq_true_eq] at hs
 have hll:x.Log.length≤60:=by have:=hs.2.2.1;omega
 refine ⟨hm,h3,hc.1,hc.2,h7,h8,fun j hj=>?_,hll⟩
 unfold reachB at hr
 rw [allF_iff] at hr
 have:=hr j (Nat.zero_le _) (by omega)
 unfold reachP inB at this
 simp only [Bool.and_eq_true,decide_eq_true_eq] at this
 rw [w_small (x:=(x.Log.length:Int)+1) (by omega) (by omega)] at this
 exact this.1
theorem ex_app {a:List Entry} {e:Entry} {j:Nat} (h:j<a.length):ex (a++[e]) j=ex a j:=by
 unfold ex
 rw [List.getD_eq_getElem?_getD,List.getElem?_append_left h,← List.getD_eq_getElem?_getD]
theorem ex_last {a:List Entry} {e:Entry}:ex (a++[e]) a.length=e:=by
 unfold ex
 rw [List.getD_eq_getElem?_getD,List.getElem?_append_right (Nat.le_refl _)];simp
structure GN (x:Node):Prop where
 sz:NodeSz x M20
 da:NodeData x
 mm:allMem x.Log
 st:idsB (ix x.Start) x.Start.length=true
 c0:0≤x.Commit
 c1:x.Commit≤x.Log.length
 n7:x.Next.length=7
 m7:x.Match.length=7
 nx:∀j,j<7→1≤ix x.Next j∧ix x.Next j≤x.Log.length+1
 ll:x.Log.length≤60
theorem GN.of {x:Node} (hs:NodeSz x M20) (hd:NodeData x) (hk:okB x=true):GN x:=by
 have o:=okN hk
 exact ⟨hs,hd,o.m,o.s,o.c0,o.c1,o.n7,o.m7,o.nx,o.ll⟩
def mems (x:Node):List Int:=memL x.Log x.Start x.Log.length
theorem GN.ms {N:Nat} (hN:Big N) {x:Node} (h:GN x):spec_l10Members_.m N x=some (mems x):=l10Members hN x h.sz.Log h.da h.mm
theorem GN.mi {N:Nat} (hN:Big N) {x:Node} (h:GN x):impl_Node_members.m N x=some (mems x):=implMembers hN x h.sz h.da
theorem GN.M {x:Node} (h:GN x):Mem (mems x):=mem_of (memL_ids h.st h.mm _ (Nat.le_refl _))
theorem GN.tells {x:Node} (h:GN x):Tells x:=⟨h.n7,h.nx,by have:=h.ll;omega⟩
theorem mem_ {N:Nat} (hN:Big N) {x:Node} {M:List Int} (h:spec_l10Members_.m N x=some M):spec_l10Members.m N x=some (M,x):=by
 have key:∀(K:Nat) (v:Int),miter (fun rec=>spec_l10Members.step2 N x rec) K v=(miter (fun rec=>spec_l10Members_.step2 N x rec) K v).map (fun l=>(l,x)):=by
  intro K
  induction K with
  | zero=>intro v;rfl
  | succ K ih=>
   intro v
   have un:∀ {α R:Type} (g:(α→Option R)→α→Option R) (s:α),miter g (K+1) s=g (miter g K) s:=fun _ _=>rfl
   rw [un,un]
   simp only [spec_l10Members.step2,spec_l10Members_.step2]
   rw [ih]
   cases decide (v≥0) with
   | false=>rfl
   | true=>
    simp only [cond_true]
    cases decide (v<(x.Log.length:Int)) with
    | false=>rfl
    | true=>
     cases ((x.Log.getD (Int.toNat v) Entry.dz).Kind==2) with
     | false=>rfl
     | true=>
      simp only [cond_true]
      cases spec_l02Members.m N (x.Log.getD (Int.toNat v) Entry.dz).Data<;>rfl
 unfold spec_l10Members_.m spec_l10Members_.m0 spec_l10Members_.lp2 at h
 unfold spec_l10Members.m spec_l10Members.m0 spec_l10Members.lp2
 rw [key,h];rfl
def leadL (x:Node):List Entry:=if x.Log.length<60 then x.Log++[⟨x.Term,0,ByteArray.empty⟩] else x.Log
def leadN (x:Node):Node:=⟨x.Id,x.Term,x.Vote,leadL x,x.Start,2,x.Votes,List.replicate 7 ((x.Log.length:Int)+1),List.replicate 7 0,x.Commit,0,x.Wait,x.Up⟩
theorem leadL_len (x:Node):x.Log.length≤(leadL x).length∧(leadL x).length≤x.Log.length+1:=by
 unfold leadL;split
 ·simp
 ·omega
theorem leadL_at {x:Node} {j:Nat} (h:j<x.Log.length):ex (leadL x) j=ex x.Log j:=by
 unfold leadL;split
 ·exact ex_app h
 ·rfl
theorem rep7 (v:Int) {j:Nat} (h:j<7):ix (List.replicate 7 v) j=v:=by
 rw [ix,getD_at (by rw [List.length_replicate];exact h)];exact List.getElem_replicate _
theorem GN.lead {x:Node} (h:GN x):GN (leadN x):=by
 have hl:=leadL_len x
 have hll:=h.ll
 have h60:(leadL x).length≤60:=by
  unfold leadL;split
  ·simp;omega
  ·omega
 refine ⟨⟨?_,h.sz.Start,h.sz.Votes,by show (List.replicate 7 _).length≤_;simp [M20],by show (List.replicate 7 _).length≤_;simp [M20]⟩,fun e he=>?_,fun j hj hk=>?_,h.st,h.c0,?_,by show (List.replicate 7 _).length=7;simp,by show (List.replicate 7 _).length=7;simp,fun j hj=>?_,h60⟩
 ·show (leadL x).length≤_;simp only [M20];omega
 ·have he:e∈leadL x:=he
  unfold leadL at he
  split at he
  ·rcases List.mem_append.1 he with he | he
   ·exact h.da e he
   ·rw [List.mem_singleton] at he;rw [he];exact Nat.zero_le _
  ·exact h.da e he
 ·have hj:j<(leadL x).length:=hj
  have hk:((ex (leadL x) j).Kind==2)=true:=hk
  show memB (ex (leadL x) j).Data=true
  by_cases hjl:j<x.Log.length
  ·rw [leadL_at hjl] at hk ⊢;exact h.mm j hjl hk
  ·exfalso
   have e:j=x.Log.length:=by omega
   subst e
   unfold leadL at hk hj
   split at hk
   ·rw [ex_last] at hk;cases hk
   ·rename_i h6;rw [if_neg h6] at hj;omega
 ·show x.Commit≤((leadL x).length:Int);have:=h.c1;omega
 ·show 1≤ix (List.replicate 7 ((x.Log.length:Int)+1)) j∧ix (List.replicate 7 ((x.Log.length:Int)+1)) j≤((leadL x).length:Int)+1
  rw [rep7 _ hj];omega
theorem mems_lead (x:Node):mems (leadN x)=mems x:=by
 show memL (leadL x) x.Start (leadL x).length=memL x.Log x.Start x.Log.length
 unfold leadL
 split
 ·rw [List.length_append,List.length_singleton,memL,ex_last]
  simp only [show ((0:Int)==2)=false from rfl,cond_false]
  exact memL_congr _ fun j hj=>ex_app hj
 ·rfl
theorem fill7 {v:Int} {a:List Int} (ha:a.length=7):∀j,j≤7→(List.replicate j v++a.drop j).length=7:=by
 intro j hj;simp;omega
theorem set7 {v:Int} {a:List Int} (ha:a.length=7) {j:Nat} (hj:j<7):(List.replicate j v++a.drop j).set j v=List.replicate (j+1) v++a.drop (j+1):=by
 rw [List.set_append_right _ _ (by simp),List.length_replicate,Nat.sub_self,List.drop_eq_getElem_cons (by omega),List.set_cons_zero,List.replicate_succ',List.append_assoc]
 rfl
def electN (x:Node) (d:Int):Node:=⟨x.Id,x.Term+1,x.Id,x.Log,x.Start,1,[x.Id],x.Next,x.Match,x.Commit,0,5+Int.tmod d 8,x.Up⟩
def voteM (y:Node) (to:Int):Message:=⟨1,y.Id,to,y.Term,(y.Log.length:Int),tv y (y.Log.length:Int),0,[],false⟩
def electR (x:Node) (d:Int):Node×List Message:=
 bif mostB (hasB [x.Id]) (mems x) then (withC (leadN (electN x d)) (advC (leadN (electN x d)) (mems x) (leadL (electN x d)).length),told (leadN (electN x d)) (mems x))
 else (electN x d,((mems x).filter (notId (electN x d))).map (voteM (electN x d)))
theorem GN.elect {x:Node} (h:GN x) (d:Int):GN (electN x d):=⟨⟨h.sz.Log,h.sz.Start,by show [x.Id].length≤_;simp [M20],h.sz.Next,h.sz.Match⟩,h.da,h.mm,h.st,h.c0,h.c1,h.n7,h.m7,h.nx,h.ll⟩
def te (x:Node):Int:=if x.Elapsed+1<1000 then x.Elapsed+1 else 1000
def withE (x:Node) (e:Int):Node:=⟨x.Id,x.Term,x.Vote,x.Log,x.Start,x.Role,x.Votes,x.Next,x.Match,x.Commit,e,x.Wait,x.Up⟩
theorem GN.withE {x:Node} (h:GN x) (e:Int):GN (withE x e):=⟨⟨h.sz.Log,h.sz.Start,h.sz.Votes,h.sz.Next,h.sz.Match⟩,h.da,h.mm,h.st,h.c0,h.c1,h.n7,h.m7,h.nx,h.ll⟩
def tickR (x:Node) (d:Int):Node×List Message:=
 bif x.Role==2 then (bif decide (te x<2) then (withE x (te x),[]) else (withE x 0,told (withE x 0) (mems x)))
 else bif decide (te x<x.Wait) then (withE x (te x),[]) else bif !hasB (mems x) x.Id then (withE x (te x),[]) else bif x.Term==1000000 then (withE x (te x),[]) else electR (withE x (te x)) d
end Mir.Y
