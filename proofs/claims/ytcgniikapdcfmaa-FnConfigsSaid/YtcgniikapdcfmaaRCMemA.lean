/- slices.Backward over entries. -/
import Derived.RangeFuncNested
import Derived.RangeFuncBound
import Derived.RangeFuncCalls
import Derived.RangeFuncLeaves
import Derived.Shelf.Abstract
import Derived.WalkKit
import Derived.OwnWalkIn
import Derived.TacticsInMore
import Derived.LoopNIn
import Derived.LoopIn
import Derived.Test.YtcgniikapdcfmaaProg
namespace Go.Proofs
open Go.RowKit Go.Shelf
attribute [local go_sem] Oper.semAt_some
namespace Mem
def downto {α:Type} (f:Nat→α) (n:Nat):Nat→List α
 | 0=>[]
 | k+1=>downto f n k++[f (n - 1 - k)]
theorem downto_length {α:Type} (f:Nat→α) (n:Nat):∀k,(downto f n k).length=k
 | 0=>rfl
 | k+1=>by simp [downto,downto_length f n k]
theorem downto_mem {α:Type} (f:Nat→α) (n:Nat):∀ {k j:Nat},j<k→f (n - 1 - j)∈downto f n k
 | k+1,j,h=>by
  simp only [downto,List.mem_append,List.mem_singleton]
  by_cases e:j=k
  ·exact .inr (by rw [e])
  ·exact .inl (downto_mem f n (by omega))
structure Ent where
 t:Int
 k:Int
 s:ByteArray
def Ent.v (e:Ent):Value:=.agg #[.int .i64 e.t,.int .i64 e.k,.string e.s]
set_option maxRecDepth 100000 in
set_option maxHeartbeats 2000000 in
theorem back1_in {β:Type} (ev:β→Ent) (F:Fence) (n:Nat) (h7:F.fn 51) (hro:F.round=none) (hn:1≤n) (l Bs n₀ b off len cap:Nat) (zs:Nat→β) (hreach:len≤1048576000) (hb:b<n₀) (J Jx:List (Nat×β)→World→Prop)
  (hY:∀pre x W,J pre W→pre.length<len→YieldAt F (n - 1) Try.prog l #[.int .i64 (x.1:Int),(ev x.2).v] W fun e W'=>
   (e = .returned (.bool true)∧J (pre++[x]) W'∧Below n₀ W W')∨(e = .returned (.bool false)∧Jx (pre++[x]) W'))
  (W:World) (hBs:W.cell? ⟨Bs,0,none⟩=some (.slice (some ⟨b,off,none⟩) len cap)) (hBn:Bs<n₀)
  (hc0:∀j,j<len→W.cell? ⟨b,off+j * 3,none⟩=some (.int .i64 (ev (zs j)).t)) (hc1:∀j,j<len→W.cell? ⟨b,off+j * 3+1,none⟩=some (.int .i64 (ev (zs j)).k)) (hc2:∀j,j<len→W.cell? ⟨b,off+j * 3+2,none⟩=some (.string (ev (zs j)).s)) (h0:J [] W) :
  CallsIn F n Try.prog 51 #[.func (.yield l) #[] #[],.pointer (some ⟨Bs,0,none⟩)] W fun e W'=>(∃v,e = .returned v)∧
   ((∃ys,ys=downto (fun j=>(j,zs j)) len len∧J ys W')∨(∃pre,(∃k,k≤len∧pre=downto (fun j=>(j,zs j)) len k)∧Jx pre W')):=by
 refine callsIn_of_wp Try.func51 rfl h7 ?_ hro
 simp only [Try.ntmps51,List.size_toArray,List.length_cons,List.length_nil,Nat.reduceAdd,Nat.reduceSub,Array.replicate_succ,Array.replicate_zero,List.push_toArray,List.append_toArray,List.nil_append,List.cons_append]
 gi_wp2
 gi_loopw [3] (fun i wr=>∃k:Nat,k≤len∧i = .int .i64 ((len:Int) - 1 - (k:Int))∧J (downto (fun j=>(j,zs j)) len k) wr∧Below n₀ W wr)
  (fun i _=>(intOf i+1).toNat)
 case atStart=>
  refine ⟨0,Nat.zero_le _,?_,h0,Below.refl _ _⟩
  simp
 case round=>
  obtain ⟨k,hk,rfl,hJs,hnx⟩:=hrel
  have hBs':=(hnx.cell (p:=⟨Bs,0,none⟩) hBn).trans hBs
  by_cases hlt:k<len
  ·obtain ⟨m,hm⟩:∃m:Nat,m+1+k≤len∧len≤m+1+k:=⟨len - 1 - k,by omega⟩
   have hi:(len:Int) - 1 - (k:Int)=(m:Int):=by omega
   have hml:m<len:=by omega
   have hmk:len - 1 - k=m:=by omega
   rw [hi]
   obtain ⟨fn,tmps,assign,body,hy,hR⟩:=hY _ (m,zs m) wr hJs (by rw [downto_length];exact hlt)
   have g0:wr.cell? ⟨b,off+m * 3,none⟩=some (.int .i64 (ev (zs m)).t):=(hnx.cell (p:=⟨b,off+m * 3,none⟩) hb).trans (hc0 m hml)
   have g1:wr.cell? ⟨b,off+m * 3+1,none⟩=some (.int .i64 (ev (zs m)).k):=(hnx.cell (p:=⟨b,off+m * 3+1,none⟩) hb).trans (hc1 m hml)
   have g2:wr.cell? ⟨b,off+m * 3+2,none⟩=some (.string (ev (zs m)).s):=(hnx.cell (p:=⟨b,off+m * 3+2,none⟩) hb).trans (hc2 m hml)
   simp only [Ent.v] at hy
   gi_wp2
   refine hR.mono ?_
   rintro e W3 (⟨rfl,hJ3,hk3⟩ | ⟨rfl,hJx3⟩)
   ·gi_wp2
    go_roundw
    case rel=>exact ⟨k+1,by omega,by simp;omega,by simp only [downto,hmk];exact hJ3,hnx.trans hk3⟩
    case measure=>simp [intOf]
   ·gi_wp2
    refine bodyPost_ret (results_none rfl _ _ _) rfl ?_
    exact ⟨⟨_,rfl⟩,.inr ⟨_,⟨k+1,by omega,by simp only [downto,hmk]⟩,hJx3⟩⟩
  ·obtain rfl:k=len:=by omega
   gi_wp2
   go_end0
   exact ⟨⟨_,rfl⟩,.inl ⟨_,rfl,hJs⟩⟩
set_option maxRecDepth 100000 in
set_option maxHeartbeats 1000000 in
theorem back1_nil_in {β:Type} (F:Fence) (n:Nat) (h7:F.fn 51) (hro:F.round=none) (l Bs cap:Nat) (A:Option Addr) (J:List (Nat×β)→World→Prop) (W:World) (hBs:W.cell? ⟨Bs,0,none⟩=some (.slice A 0 cap)) (h0:J [] W) :
  CallsIn F n Try.prog 51 #[.func (.yield l) #[] #[],.pointer (some ⟨Bs,0,none⟩)] W fun e W'=>(∃v,e = .returned v)∧J [] W':=by
 refine callsIn_of_wp Try.func51 rfl h7 ?_ hro
 simp only [Try.ntmps51,List.size_toArray,List.length_cons,List.length_nil,Nat.reduceAdd,Nat.reduceSub,Array.replicate_succ,Array.replicate_zero,List.push_toArray,List.append_toArray,List.nil_append,List.cons_append]
 gi_wp2
 gi_loopw [3] (fun i wr=>i = .int .i64 (-1)∧J [] wr) (fun _ _=>0)
 case atStart=>exact ⟨by simp,h0⟩
 case round=>
  obtain ⟨rfl,hJs⟩:=hrel
  gi_wp2
  go_end0
  exact ⟨⟨_,rfl⟩,hJs⟩
set_option maxHeartbeats 1000000 in
theorem back_in (F:Fence) (n:Nat) (h5:F.fn 38) (hro:F.round=none) (a:Option Addr) (len cap:Nat) (w:World) :
  CallsIn F n Try.prog 38 #[.slice a len cap] w fun e w'=>e = .returned (.func (.func 51) #[] #[.pointer (some ⟨w.heap.size,0,none⟩)])∧w'=w.alloc (.cells #[.slice a len cap] 23):=by
 refine callsIn_of_wp Try.func38 rfl h5 ?_ hro
 simp only [Try.ntmps38,List.size_toArray,List.length_cons,List.length_nil,Nat.reduceAdd,Nat.reduceSub,Array.replicate_succ,Array.replicate_zero,List.push_toArray,List.append_toArray,List.nil_append,List.cons_append]
 gi_wp2
 go_ret
 exact ⟨rfl,rfl⟩
def Ents {β:Type} (ev:β→Ent) (n₀:Nat) (W:World) (sv:Value) (len:Nat) (zs:Nat→β):Prop:=
 (∃A cap,sv = .slice A 0 cap∧len=0)∨∃b off cap,sv = .slice (some ⟨b,off,none⟩) len cap∧b<n₀∧∀j,j<len→W.cell? ⟨b,off+j * 3,none⟩=some (.int .i64 (ev (zs j)).t)∧W.cell? ⟨b,off+j * 3+1,none⟩=some (.int .i64 (ev (zs j)).k)∧W.cell? ⟨b,off+j * 3+2,none⟩=some (.string (ev (zs j)).s)
theorem Ents.below {β:Type} {ev:β→Ent} {n₀:Nat} {A B:World} (h:Below n₀ A B) {sv:Value} {len:Nat} {zs:Nat→β}:Ents ev n₀ A sv len zs→Ents ev n₀ B sv len zs
 | .inl e=>.inl e
 | .inr ⟨b,off,cap,e,hb,hc⟩=>.inr ⟨b,off,cap,e,hb,fun j hj=>⟨(h.cell (p:=⟨b,_,none⟩) hb).trans (hc j hj).1,(h.cell (p:=⟨b,_,none⟩) hb).trans (hc j hj).2.1,(h.cell (p:=⟨b,_,none⟩) hb).trans (hc j hj).2.2⟩⟩
theorem back_stops {β:Type} (ev:β→Ent) (F:Fence) (n:Nat) (h8:F.fn 51) (hro:F.round=none) (hn:1≤n) (Bs n₀:Nat) (sv:Value) (len:Nat) (zs:Nat→β) (hreach:len≤1048576000) (w:World) (hBs:Bs<n₀) (hn₀:n₀≤w.heap.size)
  (hc:w.cell? ⟨Bs,0,none⟩=some sv) (hI:Ents ev n₀ w sv len zs) :
  SeqStopsK F n Try.prog 51 #[.pointer (some ⟨Bs,0,none⟩)] (fun x:Nat×β=>#[Value.int .i64 (x.1:Int),(ev x.2).v]) (Below n₀) (fun ys=>ys=downto (fun j=>(j,zs j)) len len)
   (fun pre=>∃k,k≤len∧pre=downto (fun j=>(j,zs j)) len k) len w:=fun l J Jx W hW _ _ hY h0=>by
 have hc':=(hW.cell (p:=⟨Bs,0,none⟩) (Nat.lt_of_lt_of_le hBs hn₀)).trans hc
 rcases hI.below (hW.mono hn₀) with ⟨A,cap,rfl,rfl⟩ | ⟨b,off,cap,rfl,hb,hcs⟩
 ·exact (back1_nil_in F n h8 hro l Bs cap A J W hc' h0).mono fun e W' ⟨he,hj⟩=>⟨he,.inl ⟨_,rfl,hj⟩⟩
 ·exact back1_in ev F n h8 hro hn l Bs n₀ b off len cap zs hreach hb J Jx hY W hc' hBs (fun j hj=>(hcs j hj).1) (fun j hj=>(hcs j hj).2.1) (fun j hj=>(hcs j hj).2.2) h0
end Mem
end Go.Proofs
