/- The root of a good state's ledger, and the same ledger. -/
import Derived.Test.YtmjmhkpkmejbnaaGreatQSY6
namespace Mir.Y
set_option linter.unusedVariables false
set_option linter.unusedSimpArgs false
open Go
set_option linter.unusedSectionVars false
variable [UU]
theorem splitI {N:Nat} (hN:Big N) (n:Nat) (h2:2≤n) (h:n≤64):∃k:Nat,impl_split.m N (n:Int)=some (k:Int)∧1≤k∧k<n:=by
 refine miter_all (p:=fun r=>∃k:Nat,r=some (k:Int)∧1≤k∧k<n) (fun v:Int=>n - v.toNat) (fun v=>1≤v∧v<n) ?_ N 1 ⟨by omega,by omega⟩ (by simp;omega)
 rintro v ⟨hv0,hv1⟩ rec hrec
 have e1:w64 (2 * v)=2 * v:=w_small (by omega) (by omega)
 have e2:w64 (v * 2)=v * 2:=w_small (by omega) (by omega)
 simp only [impl_split.step2,e1,e2]
 by_cases hc:2 * v<n
 ·rw [decide_eq_true hc,cond_true]
  exact hrec _ ⟨by omega,by omega⟩ (by omega)
 ·rw [decide_eq_false hc,cond_false]
  exact ⟨v.toNat,by rw [Int.toNat_of_nonneg (by omega)],by omega,by omega⟩
theorem treeI {N:Nat} (hN:Big N):∀(m f:Nat) (a:List ByteArray),a.length≤m→a.length<f→a.length≤64→(∀x∈a,x.size=32)→∃r:ByteArray,r.size=32∧impl_treeHash.mF N f a=some r
 | _,0,_,_,h,_,_=>by omega
 | 0,f+1,a,hm,_,_,_=>by
  obtain rfl:=List.eq_nil_of_length_eq_zero (Nat.le_zero.1 hm)
  refine ⟨hb ByteArray.empty,hb_size _,?_⟩
  show ob (impl_hash.m N ByteArray.empty) _=_
  rw [implHash hN _ (by decide)];rfl
 | m+1,f+1,a,hm,hf,h64,hs=>by
  by_cases h0:a.length=0
  ·obtain rfl:=List.eq_nil_of_length_eq_zero h0
   exact treeI hN 0 (f+1) [] (Nat.le_refl _) (by simp) (by simp) hs
  by_cases h1:a.length=1
  ·have h1':0<a.length:=by omega
   refine ⟨a[0],hs _ (List.getElem_mem h1'),?_⟩
   show impl_treeHash.mb N (impl_treeHash.mF N f) a=_
   unfold impl_treeHash.mb
   rw [h1,getD_at h1'];rfl
  obtain ⟨k,k2,k3,k4⟩:=splitI hN a.length (by omega) h64
  have e0:((a.length:Int)==0)=false:=by rw [beq_eq_false_iff_ne];omega
  have e1:((a.length:Int)==1)=false:=by rw [beq_eq_false_iff_ne];omega
  obtain ⟨r1,s1,u1⟩:=treeI hN m f (a.take k) (by rw [List.length_take];omega) (by rw [List.length_take];omega) (by rw [List.length_take];omega) (fun x hx=>hs x (List.mem_of_mem_take hx))
  obtain ⟨r2,s2,u2⟩:=treeI hN m f (a.drop k) (by rw [List.length_drop];omega) (by rw [List.length_drop];omega) (by rw [List.length_drop];omega) (fun x hx=>hs x (List.mem_of_mem_drop hx))
  have d0:decide ((0:Int)≤(k:Int))=true:=nn_dec k
  have d1:decide ((k:Int)≤((a.length:Nat):Int))=true:=decide_eq_true (by omega)
  refine ⟨ndQ r1 r2,hb_size _,?_⟩
  show impl_treeHash.mb N (impl_treeHash.mF N f) a=_
  unfold impl_treeHash.mb
  rw [e0,e1,k2,ob_some,d0,d1,Int.toNat_natCast,u1,ob_some,u2,ob_some,implNd hN _ _ s1 s2]
  rfl
theorem rootI {N:Nat} (hN:Big N):∀(n f:Nat) (b:Branch) (P:List Int),n≤f→C n b P→∃r:ByteArray,r.size=32∧impl_mapRoot.mF N f b=some r
 | 0,_,_,_,_,h=>h.elim
 | n+1,0,_,_,h,_=>by omega
 | n+1,f+1,b,P,hf,.inl ⟨h1,h2,h3,h4,_⟩=>by
  have em:emB b=false:=by
   unfold emB;rw [h4]
   cases seq b.Key ByteArray.empty<;>cases seq b.Value ByteArray.empty<;>rfl
  have hk:=h2.2
  refine ⟨lfH b.Key b.Value,hb_size _,?_⟩
  show impl_mapRoot.mb N (impl_mapRoot.mF N f) b=_
  unfold impl_mapRoot.mb
  rw [brEta,isEmptyI,ob_some,em,cond_false,h4,implLf hN _ _ (by omega) (by omega)]
  rfl
 | n+1,f+1,b,P,hf,.inr ⟨x,y,Q,A,h1,h2,h3,h4,_,_,h7,_,hx,hy⟩=>by
  obtain ⟨r1,s1,u1⟩:=rootI hN n f x _ (by omega) hx
  obtain ⟨r2,s2,u2⟩:=rootI hN n f y _ (by omega) hy
  have em:emB b=false:=by
   unfold emB;rw [h1]
   cases seq b.Key ByteArray.empty<;>cases seq b.Value ByteArray.empty<;>cases (b.At==0)<;>rfl
  have g0:b.Kids.getD 0 Branch.dz=x:=by rw [h1];rfl
  have g1:b.Kids.getD 1 Branch.dz=y:=by rw [h1];rfl
  have kl:(b.Kids.length:Int)=2:=by rw [h1];rfl
  have ea:(b.At==256)=false:=by rw [beq_eq_false_iff_ne];omega
  refine ⟨fkH b.At r1 r2,hb_size _,?_⟩
  show impl_mapRoot.mb N (impl_mapRoot.mF N f) b=_
  unfold impl_mapRoot.mb
  rw [brEta,isEmptyI,ob_some,em,cond_false,ea,g0,g1,brEta,brEta,u1,u2,kl,ob_some,ob_some,implFk hN _ _ _ s1 s2]
  rfl
theorem InvS.ldRoot {N:Nat} (hN:Big N) {s:St} (h:InvS s):∃r:ByteArray,impl_LedgerRoot.m N s.led=some (r,0):=by
 obtain ⟨r1,s1,t1⟩:=treeI hN s.lv.length N s.lv (Nat.le_refl _) (by have:=h.lv;omega) (by have:=h.lv;omega) h.lh
 have t1:impl_treeHash.m N s.lv=some r1:=t1
 obtain ⟨r2,s2,t2⟩:∃r:ByteArray,r.size=32∧impl_mapRoot.m N s.b=some r:=by
  rcases h.mq.em with ⟨e,hL⟩ | ⟨e,c1,c2⟩
  ·obtain ⟨M,rfl⟩:∃M,N=M+1:=⟨N - 1,by omega⟩
   refine ⟨hb ⟨#[2]⟩,hb_size _,?_⟩
   show impl_mapRoot.mb (M+1) (impl_mapRoot.mF (M+1) M) s.b=_
   unfold impl_mapRoot.mb
   rw [brEta,isEmptyI,ob_some,e,cond_true,implHash hN _ (by decide)];rfl
  ·exact rootI hN 257 N s.b [] (by omega) c1
 unfold impl_LedgerRoot.m impl_ledgerRoot.m
 simp only [brEta]
 rw [h.okI hN,ob_some,t1,ob_some,t2]
 simp only [ob_some,Bool.not_true,cond_false]
 have hsz:(((⟨#[114,111,111,116]⟩:ByteArray)++r1)++r2).size=68:=by
  rw [size_append,size_append,s1,s2];rfl
 have h4:(⟨#[114,111,111,116]⟩:ByteArray).size=4:=rfl
 rw [capQ (by rw [h4];omega),capQ (by rw [size_append,h4];omega),cond_true,cond_true,implHash hN _ (by omega)]
 exact ⟨_,rfl⟩
end Mir.Y
