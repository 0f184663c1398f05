/- (*books).apply by hand. -/
import Derived.RangeFuncCalls
import Derived.Shelf.RegionOpen
import Derived.Sort.QuietIn
import Derived.WalkKit
import Derived.OwnWalkIn
import Derived.TacticsInMore
import Derived.LoopNIn
import Derived.LoopIn
import Derived.Test.YtmjmhkpkmejbnaaGreatProg
import Derived.Test.YtmjmhkpkmejbnaaGreatEngC
namespace Go.Proofs
open Go.RowKit Go.Shelf
attribute [local go_sem] Oper.semAt_some
namespace Apl
open Mir
set_option linter.unusedVariables false
theorem setCell_heap {W:World} {b off:Nat} {v:Value} {cur:Array Value} {t:Nat} (h:W.heap[b]? = some (.cells cur t (0,0))):(W.setCell ⟨b,off,none⟩ v).heap[b]? = some (.cells (cur.setIfInBounds off v) t (0,0)):=by
 obtain ⟨hlt,hk⟩:=Array.getElem?_eq_some_iff.1 h
 show (W.heap.modify b _)[b]? = _
 rw [Array.getElem?_eq_getElem (by rw [Array.size_modify];exact hlt),Array.getElem_modify_self,hk]
 rfl
theorem drew_below (B:Nat) (W:World):Below B W W.drew:=⟨rfl,rfl,rfl,Nat.le_refl _,fun _ _=>rfl⟩
theorem drewN_below (B:Nat) (W:World) (m:Nat):Below B W (W.drewN m):=⟨rfl,rfl,rfl,Nat.le_refl _,fun _ _=>rfl⟩
theorem drew_heap (W:World):W.drew.heap=W.heap:=rfl
theorem setCell_size (W:World) (a:Addr) (v:Value):(W.setCell a v).heap.size=W.heap.size:=by
 show (W.heap.modify a.block _).size=_
 rw [Array.size_modify]
set_option maxRecDepth 100000 in
set_option maxHeartbeats 1000000 in
theorem ap_write (n:Nat) (hn:2≤n) (W:World) (g k:Nat) (v0 v1:Value) (sb len cap:Nat) (kd se sq:Int) (key val:ByteArray) (id0 seq0 kd0 pl0:Int) (vl0:ByteArray) (rk rp:Int) (rv:ByteArray)
  (hg:W.heap[g]? = some (.cells #[v0,v1,.slice (some ⟨sb,0,none⟩) len cap] 93 (0,0))) (hk:k<len)
  (s0:W.cell? ⟨sb,k * 5,none⟩=some (.int .i64 id0)) (s1:W.cell? ⟨sb,k * 5+1,none⟩=some (.int .i64 seq0)) (s2:W.cell? ⟨sb,k * 5+2,none⟩=some (.int .i64 kd0)) (s3:W.cell? ⟨sb,k * 5+3,none⟩=some (.int .i64 pl0)) (s4:W.cell? ⟨sb,k * 5+4,none⟩=some (.string vl0))
  (h4:¬ kd=4) (h5:¬ kd=5) (hrep:¬ (sq=seq0∧¬ kd0=0)) (hlt:¬ sq≤seq0)
  (hc1:∀W1,Below W.heap.size W W1→CallsIn Fence.wide (n - 1) Tryz.prog 67 #[.pointer (some ⟨g,0,none⟩),.int .i64 se] W1 fun e W2=>e = .returned (tupV [.int .i64 (k:Int),.bool true])∧Below W1.heap.size W1 W2)
  (Pw:World→Prop) (bad:Nat→Prop) (hbad:∀b,bad b→b<W.heap.size) (hsb:¬ bad sb) (curT:Nat) (cur:Array Value) (hcur:W.heap[sb]? = some (.cells cur curT (0,0)))
  (hc2:∀W1,Below W.heap.size W W1→W.heap.size+2≤W1.heap.size→CallsIn Fence.wide (n - 1) Tryz.prog 68 #[.pointer (some ⟨g,0,none⟩),.agg #[.int .i64 kd,.int .i64 se,.int .i64 sq,.string key,.string val]] W1 fun e W2=>e = .returned (.agg #[.int .i64 rk,.int .i64 rp,.string rv])∧W1.heap.size≤W2.heap.size∧(∀b,b<W1.heap.size→¬ bad b→W2.heap[b]? = W1.heap[b]?)∧Pw W2) :
  CallsIn Fence.wide n Tryz.prog 36 #[.pointer (some ⟨g,0,none⟩),.agg #[.int .i64 kd,.int .i64 se,.int .i64 sq,.string key,.string val]] W fun e W'=>e = .returned (.agg #[.int .i64 rk,.int .i64 rp,.string rv])∧∃W3,Pw W3∧W3.heap.size≤W'.heap.size∧(W'.os=W3.os∧W'.tape=W3.tape∧W'.output=W3.output)∧(∀b,b<W3.heap.size→b≠sb→b≠W.heap.size+1→W'.heap[b]? = W3.heap[b]?)∧
   ∃cur',W'.heap[sb]? = some (.cells cur' curT (0,0))∧cur'=(((cur.setIfInBounds (k * 5+1) (.int .i64 sq)).setIfInBounds (k * 5+2) (.int .i64 rk)).setIfInBounds (k * 5+2+1) (.int .i64 rp)).setIfInBounds (k * 5+2+2) (.string rv):=by
 have mixed:Tryz.prog.follows .mixedOrders=true:=by kernel_rfl
 refine callsIn_of_wp Tryz.func36 rfl trivial ?_ rfl
 simp only [Tryz.ntmps36,List.size_toArray,List.length_cons,List.length_nil,Nat.reduceAdd,Nat.reduceSub,Array.replicate_succ,Array.replicate_zero,List.push_toArray,List.append_toArray,List.nil_append,List.cons_append]
 have hgl:g<W.heap.size:=(Array.getElem?_eq_some_iff.1 hg).1
 have hsl:sb<W.heap.size:=by
  by_cases h:sb<W.heap.size
  ·exact h
  ·have hn:W.heap[sb]? = none:=by simp;omega
   simp [World.cell?,hn] at s0
 have hA:Below W.heap.size W ((W.alloc (Obj.cells #[.int .i64 kd,.int .i64 se,.int .i64 sq,.string key,.string val] 31)).alloc (Obj.cells #[.int .i64 0,.int .i64 0,.string { data:=#[] }] 27)):=((Below.refl _ W).alloc (Nat.le_refl _) _).alloc (by simp) _
 have facts:∀W2,Below (W.heap.size+2) ((W.alloc (Obj.cells #[.int .i64 kd,.int .i64 se,.int .i64 sq,.string key,.string val] 31)).alloc (Obj.cells #[.int .i64 0,.int .i64 0,.string { data:=#[] }] 27)) W2→
   W2.heap[W.heap.size]? = some (.cells #[.int .i64 kd,.int .i64 se,.int .i64 sq,.string key,.string val] 31 (0,0))∧W2.heap[W.heap.size+1]? = some (.cells #[.int .i64 0,.int .i64 0,.string { data:=#[] }] 27 (0,0))∧Below W.heap.size W W2:=by
  intro W2 h2
  have e0:=h2.block W.heap.size (by omega)
  have e1:=h2.block (W.heap.size+1) (by omega)
  refine ⟨e0.trans ((Below.heap_alloc _ _ _ (by simp)).trans (World.alloc_heap_new W _)),e1.trans ?_,hA.trans (h2.mono (by omega))⟩
  have:=World.alloc_heap_new (W.alloc (Obj.cells #[.int .i64 kd,.int .i64 se,.int .i64 sq,.string key,.string val] 31)) (Obj.cells #[.int .i64 0,.int .i64 0,.string { data:=#[] }] 27)
  rwa [World.size_alloc] at this
 gi_wp2_with (refine ⟨trivial,fun _=>by omega,?_⟩;gi_at_call 67;refine (hc1 _ hA).mono ?_;rintro e W2 ⟨rfl,hB2⟩;obtain ⟨f1,f2,f3⟩:=facts W2 (hB2.mono (by simp));have cC1:W2.cell? ⟨W.heap.size,1,none⟩=some (.int .i64 se):=(by simp [World.cell?,f1]);have cC2:W2.cell? ⟨W.heap.size,2,none⟩=some (.int .i64 sq):=(by simp [World.cell?,f1]);have cG:W2.cell? ⟨g,2,none⟩=some (.slice (some ⟨sb,0,none⟩) len cap):=(by have:=f3.block g hgl;simp [World.cell?,this,hg]);have t0:=(f3.cell (p:=⟨sb,k * 5,none⟩) hsl).trans s0;have t1:=(f3.cell (p:=⟨sb,k * 5+1,none⟩) hsl).trans s1;have t2:=(f3.cell (p:=⟨sb,k * 5+2,none⟩) hsl).trans s2;have t3:=(f3.cell (p:=⟨sb,k * 5+3,none⟩) hsl).trans s3;have t4:=(f3.cell (p:=⟨sb,k * 5+4,none⟩) hsl).trans s4;simp only [tupV])
 have hne:¬ sq=seq0:=by omega
 have hq:decide (sq=seq0)=false:=decide_eq_false hne
 have hq2:(sq==seq0)=false:=by simp [hne]
 gi_quiet (fail)
 have hle:decide (sq≤seq0)=false:=decide_eq_false (by omega)
 have cC:W2.heap[W.heap.size]? = some (.cells #[.int .i64 kd,.int .i64 se,.int .i64 sq,.string key,.string val] 31 (0,0)):=f1
 have cL:∀j,j<5→W2.cell? ⟨W.heap.size,j,none⟩=(#[.int .i64 kd,.int .i64 se,.int .i64 sq,.string key,.string val]:Array Value)[j]?:=fun j _=>by simp [World.cell?,f1]
 gi_wp2
 gi_quiet (fail)
 have hdr:∀m,Below W.heap.size W (W2.drewN m):=fun m=>f3.trans ⟨rfl,rfl,rfl,Nat.le_refl _,fun _ _=>rfl⟩
 have hz2:W.heap.size+2≤W2.heap.size:=by have:=hB2.size;simpa using this
 gi_wp2_with (refine ⟨trivial,fun _=>by omega,?_⟩;gi_at_call 68;refine (hc2 _ (hdr _) hz2).mono ?_;rintro e W3 ⟨rfl,hs3,hb3,hPw⟩;have hs3:W2.heap.size≤W3.heap.size:=hs3;have g1:W3.heap[W.heap.size]? = some (.cells #[.int .i64 kd,.int .i64 se,.int .i64 sq,.string key,.string val] 31 (0,0)):=(hb3 _ (by show W.heap.size<W2.heap.size;omega) (fun h=>by have:=hbad _ h;omega)).trans f1;have g2:W3.heap[W.heap.size+1]? = some (.cells #[.int .i64 0,.int .i64 0,.string { data:=#[] }] 27 (0,0)):=(hb3 _ (by show W.heap.size+1<W2.heap.size;omega) (fun h=>by have:=hbad _ h;omega)).trans f2;have g3:W3.heap[sb]? = some (.cells cur curT (0,0)):=(hb3 _ (by show sb<W2.heap.size;omega) hsb).trans ((f3.block sb hsl).trans hcur);have cC3:W3.cell? ⟨W.heap.size,2,none⟩=some (.int .i64 sq):=(by simp [World.cell?,g1]))
 have fz:∀j o,(W3.alloc o).frozen? ⟨sb,j,none⟩=false:=fun j o=>by
  have hN:(W3.alloc o).heap[sb]? = some (.cells cur curT (0,0)):=(Below.heap_alloc W3 o sb (by omega)).trans g3
  simp [World.frozen?,hN]
 have fz1:=fz (k * 5+1) (Obj.cells #[.int .i64 rk,.int .i64 rp,.string rv] 27)
 have fz2:=fz (k * 5+2) (Obj.cells #[.int .i64 rk,.int .i64 rp,.string rv] 27)
 have cC4:(W3.alloc (Obj.cells #[.int .i64 rk,.int .i64 rp,.string rv] 27)).cell? ⟨W.heap.size,2,none⟩=some (.int .i64 sq):=by
  have hN:=(Below.heap_alloc W3 (Obj.cells #[.int .i64 rk,.int .i64 rp,.string rv] 27) W.heap.size (by omega)).trans g1
  simp [World.cell?,hN]
 have cs:∀j o,(W3.alloc o).cell? ⟨sb,j,none⟩=W.cell? ⟨sb,j,none⟩:=fun j o=>by
  have hN:(W3.alloc o).heap[sb]? = some (.cells cur curT (0,0)):=(Below.heap_alloc W3 o sb (by omega)).trans g3
  simp [World.cell?,hN,hcur]
 have u1:=(cs (k * 5+1) (Obj.cells #[.int .i64 rk,.int .i64 rp,.string rv] 27)).trans s1
 have u2:=(cs (k * 5+2) (Obj.cells #[.int .i64 rk,.int .i64 rp,.string rv] 27)).trans s2
 have u3:=(cs (k * 5+3) (Obj.cells #[.int .i64 rk,.int .i64 rp,.string rv] 27)).trans s3
 have u4:=(cs (k * 5+4) (Obj.cells #[.int .i64 rk,.int .i64 rp,.string rv] 27)).trans s4
 have fz3:=fz (k * 5+3) (Obj.cells #[.int .i64 rk,.int .i64 rp,.string rv] 27)
 have fz4:=fz (k * 5+4) (Obj.cells #[.int .i64 rk,.int .i64 rp,.string rv] 27)
 gi_region_o
 have frame:∀b,b≠sb→(((((W3.alloc (Obj.cells #[.int .i64 rk,.int .i64 rp,.string rv] 27)).setCell ⟨sb,k * 5+1,none⟩ (.int .i64 sq)).setCell ⟨sb,k * 5+2,none⟩ (.int .i64 rk)).setCell ⟨sb,k * 5+2+1,none⟩ (.int .i64 rp)).setCell ⟨sb,k * 5+2+2,none⟩ (.string rv)).drew.heap[b]? = (W3.alloc (Obj.cells #[.int .i64 rk,.int .i64 rp,.string rv] 27)).heap[b]?:=fun b hb=>
  (Below.heap_setCell _ _ _ b hb).trans ((Below.heap_setCell _ _ _ b hb).trans ((Below.heap_setCell _ _ _ b hb).trans (Below.heap_setCell _ _ _ b hb)))
 have r1:=(frame (W.heap.size+1) (by omega)).trans ((Below.heap_alloc W3 (Obj.cells #[.int .i64 rk,.int .i64 rp,.string rv] 27) (W.heap.size+1) (by omega)).trans g2)
 have r2:=(frame W3.heap.size (by omega)).trans (World.alloc_heap_new W3 (Obj.cells #[.int .i64 rk,.int .i64 rp,.string rv] 27))
 obtain ⟨W5,hW5⟩:∃W5,(((((W3.alloc (Obj.cells #[.int .i64 rk,.int .i64 rp,.string rv] 27)).setCell ⟨sb,k * 5+1,none⟩ (.int .i64 sq)).setCell ⟨sb,k * 5+2,none⟩ (.int .i64 rk)).setCell ⟨sb,k * 5+2+1,none⟩ (.int .i64 rp)).setCell ⟨sb,k * 5+2+2,none⟩ (.string rv)).drew=W5:=⟨_,rfl⟩
 rw [hW5] at frame r1 r2 ⊢
 have q10:W5.cell? ⟨W.heap.size+1,0,none⟩=some (.int .i64 0):=by simp [World.cell?,r1]
 have q11:W5.cell? ⟨W.heap.size+1,1,none⟩=some (.int .i64 0):=by simp [World.cell?,r1]
 have q12:W5.cell? ⟨W.heap.size+1,2,none⟩=some (.string { data:=#[] }):=by simp [World.cell?,r1]
 have q20:W5.cell? ⟨W3.heap.size,0,none⟩=some (.int .i64 rk):=by simp [World.cell?,r2]
 have q21:W5.cell? ⟨W3.heap.size,1,none⟩=some (.int .i64 rp):=by simp [World.cell?,r2]
 have q22:W5.cell? ⟨W3.heap.size,2,none⟩=some (.string rv):=by simp [World.cell?,r2]
 have z10:W5.frozen? ⟨W.heap.size+1,0,none⟩=false:=by simp [World.frozen?,r1]
 have z11:W5.frozen? ⟨W.heap.size+1,1,none⟩=false:=by simp [World.frozen?,r1]
 have z12:W5.frozen? ⟨W.heap.size+1,2,none⟩=false:=by simp [World.frozen?,r1]
 gi_wp2
 have r6:(((W5.setCell ⟨W.heap.size+1,0,none⟩ (.int .i64 rk)).setCell ⟨W.heap.size+1,1,none⟩ (.int .i64 rp)).setCell ⟨W.heap.size+1,2,none⟩ (.string rv)).heap[W.heap.size+1]? = some (.cells #[.int .i64 rk,.int .i64 rp,.string rv] 27 (0,0)):=by
  exact setCell_heap (setCell_heap (setCell_heap r1))
 have frame6:∀b,b≠W.heap.size+1→(((W5.setCell ⟨W.heap.size+1,0,none⟩ (.int .i64 rk)).setCell ⟨W.heap.size+1,1,none⟩ (.int .i64 rp)).setCell ⟨W.heap.size+1,2,none⟩ (.string rv)).heap[b]? = W5.heap[b]?:=fun b hb=>
  (Below.heap_setCell _ _ _ b hb).trans ((Below.heap_setCell _ _ _ b hb).trans (Below.heap_setCell _ _ _ b hb))
 have hsz6:(((W5.setCell ⟨W.heap.size+1,0,none⟩ (.int .i64 rk)).setCell ⟨W.heap.size+1,1,none⟩ (.int .i64 rp)).setCell ⟨W.heap.size+1,2,none⟩ (.string rv)).heap.size=W3.heap.size+1:=by
  rw [setCell_size,setCell_size,setCell_size,← hW5,drew_heap,setCell_size,setCell_size,setCell_size,setCell_size,World.size_alloc]
 have hos6:(((W5.setCell ⟨W.heap.size+1,0,none⟩ (.int .i64 rk)).setCell ⟨W.heap.size+1,1,none⟩ (.int .i64 rp)).setCell ⟨W.heap.size+1,2,none⟩ (.string rv)).os=W3.os∧(((W5.setCell ⟨W.heap.size+1,0,none⟩ (.int .i64 rk)).setCell ⟨W.heap.size+1,1,none⟩ (.int .i64 rp)).setCell ⟨W.heap.size+1,2,none⟩ (.string rv)).tape=W3.tape∧(((W5.setCell ⟨W.heap.size+1,0,none⟩ (.int .i64 rk)).setCell ⟨W.heap.size+1,1,none⟩ (.int .i64 rp)).setCell ⟨W.heap.size+1,2,none⟩ (.string rv)).output=W3.output:=by
  have b5:Below 0 W3 W5:=by
   rw [← hW5]
   exact (((((((Below.refl 0 W3).alloc (Nat.zero_le _) _).setCell (Nat.zero_le _) _).setCell (Nat.zero_le _) _).setCell (Nat.zero_le _) _).setCell (Nat.zero_le _) _)).trans (drew_below 0 _)
  have b6:=((b5.setCell (p:=⟨W.heap.size+1,0,none⟩) (Nat.zero_le _) (.int .i64 rk)).setCell (p:=⟨W.heap.size+1,1,none⟩) (Nat.zero_le _) (.int .i64 rp)).setCell (p:=⟨W.heap.size+1,2,none⟩) (Nat.zero_le _) (.string rv)
  exact ⟨b6.os,b6.tape,b6.output⟩
 have hsb5:W5.heap[sb]? = some (.cells ((((cur.setIfInBounds (k * 5+1) (.int .i64 sq)).setIfInBounds (k * 5+2) (.int .i64 rk)).setIfInBounds (k * 5+2+1) (.int .i64 rp)).setIfInBounds (k * 5+2+2) (.string rv)) curT (0,0)):=by
  rw [← hW5,drew_heap]
  have hN:(W3.alloc (Obj.cells #[.int .i64 rk,.int .i64 rp,.string rv] 27)).heap[sb]? = some (.cells cur curT (0,0)):=(Below.heap_alloc W3 _ sb (by omega)).trans g3
  exact setCell_heap (setCell_heap (setCell_heap (setCell_heap hN)))
 obtain ⟨W6,hW6⟩:∃W6,(((W5.setCell ⟨W.heap.size+1,0,none⟩ (.int .i64 rk)).setCell ⟨W.heap.size+1,1,none⟩ (.int .i64 rp)).setCell ⟨W.heap.size+1,2,none⟩ (.string rv))=W6:=⟨_,rfl⟩
 rw [hW6] at r6 frame6 hsz6 hos6 ⊢
 have c0:W6.cell? ⟨W.heap.size+1,0,none⟩=some (.int .i64 rk):=by simp [World.cell?,r6]
 have c1:W6.cell? ⟨W.heap.size+1,1,none⟩=some (.int .i64 rp):=by simp [World.cell?,r6]
 have c2:W6.cell? ⟨W.heap.size+1,2,none⟩=some (.string rv):=by simp [World.cell?,r6]
 refine ⟨rfl,.agg #[.int .i64 rk,.int .i64 rp,.string rv],?_,rfl,W3,hPw,by omega,hos6,fun b hb h1 h2=>?_,_,(frame6 sb (by omega)).trans hsb5,rfl⟩
 ·simp [results,Tryz.f36,go_sem,c0,c1,c2]
 ·exact (frame6 b h2).trans ((frame b h1).trans (Below.heap_alloc W3 _ b hb))
set_option maxRecDepth 100000 in
set_option maxHeartbeats 1000000 in
theorem ap_open (n:Nat) (hn:2≤n) (W:World) (g:Nat) (kd se sq:Int) (key val:ByteArray) (rk rp:Int) (rv:ByteArray) (h4:kd=4)
  (Pw:World→Prop) (bad:Nat→Prop) (hbad:∀b,bad b→b<W.heap.size)
  (hc2:∀W1,Below W.heap.size W W1→W.heap.size+2≤W1.heap.size→CallsIn Fence.wide (n - 1) Tryz.prog 65 #[.pointer (some ⟨g,0,none⟩),.int .i64 se] W1 fun e W2=>e = .returned (.agg #[.int .i64 rk,.int .i64 rp,.string rv])∧W1.heap.size≤W2.heap.size∧(∀b,b<W1.heap.size→¬ bad b→W2.heap[b]? = W1.heap[b]?)∧Pw W2) :
  CallsIn Fence.wide n Tryz.prog 36 #[.pointer (some ⟨g,0,none⟩),.agg #[.int .i64 kd,.int .i64 se,.int .i64 sq,.string key,.string val]] W fun e W'=>e = .returned (.agg #[.int .i64 rk,.int .i64 rp,.string rv])∧∃W3,Pw W3∧W3.heap.size≤W'.heap.size∧(W'.os=W3.os∧W'.tape=W3.tape∧W'.output=W3.output)∧(∀b,b<W3.heap.size→b≠W.heap.size+1→W'.heap[b]? = W3.heap[b]?):=by
 subst h4
 refine callsIn_of_wp Tryz.func36 rfl trivial ?_ rfl
 simp only [Tryz.ntmps36,List.size_toArray,List.length_cons,List.length_nil,Nat.reduceAdd,Nat.reduceSub,Array.replicate_succ,Array.replicate_zero,List.push_toArray,List.append_toArray,List.nil_append,List.cons_append]
 have hA:Below W.heap.size W ((W.alloc (Obj.cells #[.int .i64 4,.int .i64 se,.int .i64 sq,.string key,.string val] 31)).alloc (Obj.cells #[.int .i64 0,.int .i64 0,.string { data:=#[] }] 27)):=((Below.refl _ W).alloc (Nat.le_refl _) _).alloc (by simp) _
 have hA0:((W.alloc (Obj.cells #[.int .i64 4,.int .i64 se,.int .i64 sq,.string key,.string val] 31)).alloc (Obj.cells #[.int .i64 0,.int .i64 0,.string { data:=#[] }] 27)).heap[W.heap.size]? = some (.cells #[.int .i64 4,.int .i64 se,.int .i64 sq,.string key,.string val] 31 (0,0)):=(Below.heap_alloc _ _ _ (by simp)).trans (World.alloc_heap_new W _)
 have hA1:((W.alloc (Obj.cells #[.int .i64 4,.int .i64 se,.int .i64 sq,.string key,.string val] 31)).alloc (Obj.cells #[.int .i64 0,.int .i64 0,.string { data:=#[] }] 27)).heap[W.heap.size+1]? = some (.cells #[.int .i64 0,.int .i64 0,.string { data:=#[] }] 27 (0,0)):=by
  have:=World.alloc_heap_new (W.alloc (Obj.cells #[.int .i64 4,.int .i64 se,.int .i64 sq,.string key,.string val] 31)) (Obj.cells #[.int .i64 0,.int .i64 0,.string { data:=#[] }] 27)
  rwa [World.size_alloc] at this
 have hAs:((W.alloc (Obj.cells #[.int .i64 4,.int .i64 se,.int .i64 sq,.string key,.string val] 31)).alloc (Obj.cells #[.int .i64 0,.int .i64 0,.string { data:=#[] }] 27)).heap.size=W.heap.size+2:=by simp
 gi_wp2_with (refine ⟨trivial,fun _=>by omega,?_⟩;gi_at_call 65;refine (hc2 _ hA (Nat.le_of_eq hAs.symm)).mono ?_;rintro e W2 ⟨rfl,hs3,hb3,hPw⟩;have f2:=(hb3 (W.heap.size+1) (by omega) (fun h=>by have:=hbad _ h;omega)).trans hA1;have q10:W2.cell? ⟨W.heap.size+1,0,none⟩=some (.int .i64 0):=(by simp [World.cell?,f2]);have q11:W2.cell? ⟨W.heap.size+1,1,none⟩=some (.int .i64 0):=(by simp [World.cell?,f2]);have q12:W2.cell? ⟨W.heap.size+1,2,none⟩=some (.string { data:=#[] }):=(by simp [World.cell?,f2]);have z10:W2.frozen? ⟨W.heap.size+1,0,none⟩=false:=(by simp [World.frozen?,f2]);have z11:W2.frozen? ⟨W.heap.size+1,1,none⟩=false:=(by simp [World.frozen?,f2]);have z12:W2.frozen? ⟨W.heap.size+1,2,none⟩=false:=(by simp [World.frozen?,f2]))
 have r6:=setCell_heap (off:=2) (v:=.string rv) (setCell_heap (off:=1) (v:=.int .i64 rp) (setCell_heap (off:=0) (v:=.int .i64 rk) f2))
 have frame6:∀b,b≠W.heap.size+1→(((W2.setCell ⟨W.heap.size+1,0,none⟩ (.int .i64 rk)).setCell ⟨W.heap.size+1,1,none⟩ (.int .i64 rp)).setCell ⟨W.heap.size+1,2,none⟩ (.string rv)).heap[b]? = W2.heap[b]?:=fun b hb=>
  (Below.heap_setCell _ _ _ b hb).trans ((Below.heap_setCell _ _ _ b hb).trans (Below.heap_setCell _ _ _ b hb))
 have hsz6:(((W2.setCell ⟨W.heap.size+1,0,none⟩ (.int .i64 rk)).setCell ⟨W.heap.size+1,1,none⟩ (.int .i64 rp)).setCell ⟨W.heap.size+1,2,none⟩ (.string rv)).heap.size=W2.heap.size:=by
  rw [setCell_size,setCell_size,setCell_size]
 have b6:=(((Below.refl 0 W2).setCell (p:=⟨W.heap.size+1,0,none⟩) (Nat.zero_le _) (.int .i64 rk)).setCell (p:=⟨W.heap.size+1,1,none⟩) (Nat.zero_le _) (.int .i64 rp)).setCell (p:=⟨W.heap.size+1,2,none⟩) (Nat.zero_le _) (.string rv)
 obtain ⟨W6,hW6⟩:∃W6,(((W2.setCell ⟨W.heap.size+1,0,none⟩ (.int .i64 rk)).setCell ⟨W.heap.size+1,1,none⟩ (.int .i64 rp)).setCell ⟨W.heap.size+1,2,none⟩ (.string rv))=W6:=⟨_,rfl⟩
 rw [hW6] at r6 frame6 hsz6 b6 ⊢
 have c0:W6.cell? ⟨W.heap.size+1,0,none⟩=some (.int .i64 rk):=by simp [World.cell?,r6]
 have c1:W6.cell? ⟨W.heap.size+1,1,none⟩=some (.int .i64 rp):=by simp [World.cell?,r6]
 have c2:W6.cell? ⟨W.heap.size+1,2,none⟩=some (.string rv):=by simp [World.cell?,r6]
 refine ⟨rfl,.agg #[.int .i64 rk,.int .i64 rp,.string rv],?_,rfl,W2,hPw,by omega,⟨b6.os,b6.tape,b6.output⟩,fun b _ h2=>frame6 b h2⟩
 simp [results,Tryz.f36,go_sem,c0,c1,c2]
set_option maxRecDepth 100000 in
set_option maxHeartbeats 1000000 in
theorem ap_shut (n:Nat) (hn:2≤n) (W:World) (g:Nat) (kd se sq:Int) (key val:ByteArray) (rk rp:Int) (rv:ByteArray) (h4:kd=5)
  (Pw:World→Prop) (bad:Nat→Prop) (hbad:∀b,bad b→b<W.heap.size)
  (hc2:∀W1,Below W.heap.size W W1→W.heap.size+2≤W1.heap.size→CallsIn Fence.wide (n - 1) Tryz.prog 66 #[.pointer (some ⟨g,0,none⟩),.int .i64 se] W1 fun e W2=>e = .returned (.agg #[.int .i64 rk,.int .i64 rp,.string rv])∧W1.heap.size≤W2.heap.size∧(∀b,b<W1.heap.size→¬ bad b→W2.heap[b]? = W1.heap[b]?)∧Pw W2) :
  CallsIn Fence.wide n Tryz.prog 36 #[.pointer (some ⟨g,0,none⟩),.agg #[.int .i64 kd,.int .i64 se,.int .i64 sq,.string key,.string val]] W fun e W'=>e = .returned (.agg #[.int .i64 rk,.int .i64 rp,.string rv])∧∃W3,Pw W3∧W3.heap.size≤W'.heap.size∧(W'.os=W3.os∧W'.tape=W3.tape∧W'.output=W3.output)∧(∀b,b<W3.heap.size→b≠W.heap.size+1→W'.heap[b]? = W3.heap[b]?):=by
 subst h4
 refine callsIn_of_wp Tryz.func36 rfl trivial ?_ rfl
 simp only [Tryz.ntmps36,List.size_toArray,List.length_cons,List.length_nil,Nat.reduceAdd,Nat.reduceSub,Array.replicate_succ,Array.replicate_zero,List.push_toArray,List.append_toArray,List.nil_append,List.cons_append]
 have hA:Below W.heap.size W ((W.alloc (Obj.cells #[.int .i64 5,.int .i64 se,.int .i64 sq,.string key,.string val] 31)).alloc (Obj.cells #[.int .i64 0,.int .i64 0,.string { data:=#[] }] 27)):=((Below.refl _ W).alloc (Nat.le_refl _) _).alloc (by simp) _
 have hA0:((W.alloc (Obj.cells #[.int .i64 5,.int .i64 se,.int .i64 sq,.string key,.string val] 31)).alloc (Obj.cells #[.int .i64 0,.int .i64 0,.string { data:=#[] }] 27)).heap[W.heap.size]? = some (.cells #[.int .i64 5,.int .i64 se,.int .i64 sq,.string key,.string val] 31 (0,0)):=(Below.heap_alloc _ _ _ (by simp)).trans (World.alloc_heap_new W _)
 have hA1:((W.alloc (Obj.cells #[.int .i64 5,.int .i64 se,.int .i64 sq,.string key,.string val] 31)).alloc (Obj.cells #[.int .i64 0,.int .i64 0,.string { data:=#[] }] 27)).heap[W.heap.size+1]? = some (.cells #[.int .i64 0,.int .i64 0,.string { data:=#[] }] 27 (0,0)):=by
  have:=World.alloc_heap_new (W.alloc (Obj.cells #[.int .i64 5,.int .i64 se,.int .i64 sq,.string key,.string val] 31)) (Obj.cells #[.int .i64 0,.int .i64 0,.string { data:=#[] }] 27)
  rwa [World.size_alloc] at this
 have hAs:((W.alloc (Obj.cells #[.int .i64 5,.int .i64 se,.int .i64 sq,.string key,.string val] 31)).alloc (Obj.cells #[.int .i64 0,.int .i64 0,.string { data:=#[] }] 27)).heap.size=W.heap.size+2:=by simp
 gi_wp2_with (refine ⟨trivial,fun _=>by omega,?_⟩;gi_at_call 66;refine (hc2 _ hA (Nat.le_of_eq hAs.symm)).mono ?_;rintro e W2 ⟨rfl,hs3,hb3,hPw⟩;have f2:=(hb3 (W.heap.size+1) (by omega) (fun h=>by have:=hbad _ h;omega)).trans hA1;have q10:W2.cell? ⟨W.heap.size+1,0,none⟩=some (.int .i64 0):=(by simp [World.cell?,f2]);have q11:W2.cell? ⟨W.heap.size+1,1,none⟩=some (.int .i64 0):=(by simp [World.cell?,f2]);have q12:W2.cell? ⟨W.heap.size+1,2,none⟩=some (.string { data:=#[] }):=(by simp [World.cell?,f2]);have z10:W2.frozen? ⟨W.heap.size+1,0,none⟩=false:=(by simp [World.frozen?,f2]);have z11:W2.frozen? ⟨W.heap.size+1,1,none⟩=false:=(by simp [World.frozen?,f2]);have z12:W2.frozen? ⟨W.heap.size+1,2,none⟩=false:=(by simp [World.frozen?,f2]))
 have r6:=setCell_heap (off:=2) (v:=.string rv) (setCell_heap (off:=1) (v:=.int .i64 rp) (setCell_heap (off:=0) (v:=.int .i64 rk) f2))
 have frame6:∀b,b≠W.heap.size+1→(((W2.setCell ⟨W.heap.size+1,0,none⟩ (.int .i64 rk)).setCell ⟨W.heap.size+1,1,none⟩ (.int .i64 rp)).setCell ⟨W.heap.size+1,2,none⟩ (.string rv)).heap[b]? = W2.heap[b]?:=fun b hb=>
  (Below.heap_setCell _ _ _ b hb).trans ((Below.heap_setCell _ _ _ b hb).trans (Below.heap_setCell _ _ _ b hb))
 have hsz6:(((W2.setCell ⟨W.heap.size+1,0,none⟩ (.int .i64 rk)).setCell ⟨W.heap.size+1,1,none⟩ (.int .i64 rp)).setCell ⟨W.heap.size+1,2,none⟩ (.string rv)).heap.size=W2.heap.size:=by
  rw [setCell_size,setCell_size,setCell_size]
 have b6:=(((Below.refl 0 W2).setCell (p:=⟨W.heap.size+1,0,none⟩) (Nat.zero_le _) (.int .i64 rk)).setCell (p:=⟨W.heap.size+1,1,none⟩) (Nat.zero_le _) (.int .i64 rp)).setCell (p:=⟨W.heap.size+1,2,none⟩) (Nat.zero_le _) (.string rv)
 obtain ⟨W6,hW6⟩:∃W6,(((W2.setCell ⟨W.heap.size+1,0,none⟩ (.int .i64 rk)).setCell ⟨W.heap.size+1,1,none⟩ (.int .i64 rp)).setCell ⟨W.heap.size+1,2,none⟩ (.string rv))=W6:=⟨_,rfl⟩
 rw [hW6] at r6 frame6 hsz6 b6 ⊢
 have c0:W6.cell? ⟨W.heap.size+1,0,none⟩=some (.int .i64 rk):=by simp [World.cell?,r6]
 have c1:W6.cell? ⟨W.heap.size+1,1,none⟩=some (.int .i64 rp):=by simp [World.cell?,r6]
 have c2:W6.cell? ⟨W.heap.size+1,2,none⟩=some (.string rv):=by simp [World.cell?,r6]
 refine ⟨rfl,.agg #[.int .i64 rk,.int .i64 rp,.string rv],?_,rfl,W2,hPw,by omega,⟨b6.os,b6.tape,b6.output⟩,fun b _ h2=>frame6 b h2⟩
 simp [results,Tryz.f36,go_sem,c0,c1,c2]
set_option maxRecDepth 100000 in
set_option maxHeartbeats 1000000 in
theorem ap_gone (n:Nat) (hn:2≤n) (W:World) (g:Nat) (k:Int) (kd se sq:Int) (key val:ByteArray) (h4:¬ kd=4) (h5:¬ kd=5)
  (hc1:∀W1,Below W.heap.size W W1→CallsIn Fence.wide (n - 1) Tryz.prog 67 #[.pointer (some ⟨g,0,none⟩),.int .i64 se] W1 fun e W2=>e = .returned (tupV [.int .i64 k,.bool false])∧Below W1.heap.size W1 W2) :
  CallsIn Fence.wide n Tryz.prog 36 #[.pointer (some ⟨g,0,none⟩),.agg #[.int .i64 kd,.int .i64 se,.int .i64 sq,.string key,.string val]] W fun e W'=>e = .returned (.agg #[.int .i64 4,.int .i64 0,.string ByteArray.empty])∧Below W.heap.size W W':=by
 refine callsIn_of_wp Tryz.func36 rfl trivial ?_ rfl
 simp only [Tryz.ntmps36,List.size_toArray,List.length_cons,List.length_nil,Nat.reduceAdd,Nat.reduceSub,Array.replicate_succ,Array.replicate_zero,List.push_toArray,List.append_toArray,List.nil_append,List.cons_append]
 have hA:Below W.heap.size W ((W.alloc (Obj.cells #[.int .i64 kd,.int .i64 se,.int .i64 sq,.string key,.string val] 31)).alloc (Obj.cells #[.int .i64 0,.int .i64 0,.string { data:=#[] }] 27)):=((Below.refl _ W).alloc (Nat.le_refl _) _).alloc (by simp) _
 have hA0:((W.alloc (Obj.cells #[.int .i64 kd,.int .i64 se,.int .i64 sq,.string key,.string val] 31)).alloc (Obj.cells #[.int .i64 0,.int .i64 0,.string { data:=#[] }] 27)).heap[W.heap.size]? = some (.cells #[.int .i64 kd,.int .i64 se,.int .i64 sq,.string key,.string val] 31 (0,0)):=(Below.heap_alloc _ _ _ (by simp)).trans (World.alloc_heap_new W _)
 have hA1:((W.alloc (Obj.cells #[.int .i64 kd,.int .i64 se,.int .i64 sq,.string key,.string val] 31)).alloc (Obj.cells #[.int .i64 0,.int .i64 0,.string { data:=#[] }] 27)).heap[W.heap.size+1]? = some (.cells #[.int .i64 0,.int .i64 0,.string { data:=#[] }] 27 (0,0)):=by
  have:=World.alloc_heap_new (W.alloc (Obj.cells #[.int .i64 kd,.int .i64 se,.int .i64 sq,.string key,.string val] 31)) (Obj.cells #[.int .i64 0,.int .i64 0,.string { data:=#[] }] 27)
  rwa [World.size_alloc] at this
 have hAs:((W.alloc (Obj.cells #[.int .i64 kd,.int .i64 se,.int .i64 sq,.string key,.string val] 31)).alloc (Obj.cells #[.int .i64 0,.int .i64 0,.string { data:=#[] }] 27)).heap.size=W.heap.size+2:=by simp
 gi_wp2_with (refine ⟨trivial,fun _=>by omega,?_⟩;gi_at_call 67;refine (hc1 _ hA).mono ?_;rintro e W2 ⟨rfl,hB2⟩;have f3:=hA.trans (hB2.mono (by omega));have f2:=(hB2.block (W.heap.size+1) (by omega)).trans hA1;have q10:W2.cell? ⟨W.heap.size+1,0,none⟩=some (.int .i64 0):=(by simp [World.cell?,f2]);have q11:W2.cell? ⟨W.heap.size+1,1,none⟩=some (.int .i64 0):=(by simp [World.cell?,f2]);have q12:W2.cell? ⟨W.heap.size+1,2,none⟩=some (.string { data:=#[] }):=(by simp [World.cell?,f2]);have z10:W2.frozen? ⟨W.heap.size+1,0,none⟩=false:=(by simp [World.frozen?,f2]);have z11:W2.frozen? ⟨W.heap.size+1,1,none⟩=false:=(by simp [World.frozen?,f2]);have z12:W2.frozen? ⟨W.heap.size+1,2,none⟩=false:=(by simp [World.frozen?,f2]);simp only [tupV])
 refine ⟨rfl,.agg #[.int .i64 4,.int .i64 0,.string ByteArray.empty],?_,rfl,?_⟩
 ·simp [results,Tryz.f36,go_sem,q10,q11,q12]
  rfl
 ·exact ((f3.setCell (p:=⟨W.heap.size+1,0,none⟩) (by show W.heap.size≤W.heap.size+1;omega) _).setCell (p:=⟨W.heap.size+1,1,none⟩) (by show W.heap.size≤W.heap.size+1;omega) _).setCell (p:=⟨W.heap.size+1,2,none⟩) (by show W.heap.size≤W.heap.size+1;omega) _
set_option maxRecDepth 100000 in
set_option maxHeartbeats 1000000 in
theorem ap_old (n:Nat) (hn:2≤n) (W:World) (g k:Nat) (v0 v1:Value) (sb len cap:Nat) (kd se sq:Int) (key val:ByteArray) (id0 seq0 kd0 pl0:Int) (vl0:ByteArray)
  (hg:W.heap[g]? = some (.cells #[v0,v1,.slice (some ⟨sb,0,none⟩) len cap] 93 (0,0))) (hk:k<len)
  (s0:W.cell? ⟨sb,k * 5,none⟩=some (.int .i64 id0)) (s1:W.cell? ⟨sb,k * 5+1,none⟩=some (.int .i64 seq0)) (s2:W.cell? ⟨sb,k * 5+2,none⟩=some (.int .i64 kd0)) (s3:W.cell? ⟨sb,k * 5+3,none⟩=some (.int .i64 pl0)) (s4:W.cell? ⟨sb,k * 5+4,none⟩=some (.string vl0))
  (h4:¬ kd=4) (h5:¬ kd=5) (hne:¬ sq=seq0) (hle:sq≤seq0)
  (hc1:∀W1,Below W.heap.size W W1→CallsIn Fence.wide (n - 1) Tryz.prog 67 #[.pointer (some ⟨g,0,none⟩),.int .i64 se] W1 fun e W2=>e = .returned (tupV [.int .i64 (k:Int),.bool true])∧Below W1.heap.size W1 W2) :
  CallsIn Fence.wide n Tryz.prog 36 #[.pointer (some ⟨g,0,none⟩),.agg #[.int .i64 kd,.int .i64 se,.int .i64 sq,.string key,.string val]] W fun e W'=>e = .returned (.agg #[.int .i64 3,.int .i64 0,.string ByteArray.empty])∧Below W.heap.size W W':=by
 have mixed:Tryz.prog.follows .mixedOrders=true:=by kernel_rfl
 refine callsIn_of_wp Tryz.func36 rfl trivial ?_ rfl
 simp only [Tryz.ntmps36,List.size_toArray,List.length_cons,List.length_nil,Nat.reduceAdd,Nat.reduceSub,Array.replicate_succ,Array.replicate_zero,List.push_toArray,List.append_toArray,List.nil_append,List.cons_append]
 have hgl:g<W.heap.size:=(Array.getElem?_eq_some_iff.1 hg).1
 have hsl:sb<W.heap.size:=by
  by_cases h:sb<W.heap.size
  ·exact h
  ·have hn:W.heap[sb]? = none:=by simp;omega
   simp [World.cell?,hn] at s0
 have hA:Below W.heap.size W ((W.alloc (Obj.cells #[.int .i64 kd,.int .i64 se,.int .i64 sq,.string key,.string val] 31)).alloc (Obj.cells #[.int .i64 0,.int .i64 0,.string { data:=#[] }] 27)):=((Below.refl _ W).alloc (Nat.le_refl _) _).alloc (by simp) _
 have facts:∀W2,Below (W.heap.size+2) ((W.alloc (Obj.cells #[.int .i64 kd,.int .i64 se,.int .i64 sq,.string key,.string val] 31)).alloc (Obj.cells #[.int .i64 0,.int .i64 0,.string { data:=#[] }] 27)) W2→
   W2.heap[W.heap.size]? = some (.cells #[.int .i64 kd,.int .i64 se,.int .i64 sq,.string key,.string val] 31 (0,0))∧W2.heap[W.heap.size+1]? = some (.cells #[.int .i64 0,.int .i64 0,.string { data:=#[] }] 27 (0,0))∧Below W.heap.size W W2:=by
  intro W2 h2
  have e0:=h2.block W.heap.size (by omega)
  have e1:=h2.block (W.heap.size+1) (by omega)
  refine ⟨e0.trans ((Below.heap_alloc _ _ _ (by simp)).trans (World.alloc_heap_new W _)),e1.trans ?_,hA.trans (h2.mono (by omega))⟩
  have:=World.alloc_heap_new (W.alloc (Obj.cells #[.int .i64 kd,.int .i64 se,.int .i64 sq,.string key,.string val] 31)) (Obj.cells #[.int .i64 0,.int .i64 0,.string { data:=#[] }] 27)
  rwa [World.size_alloc] at this
 gi_wp2_with (refine ⟨trivial,fun _=>by omega,?_⟩;gi_at_call 67;refine (hc1 _ hA).mono ?_;rintro e W2 ⟨rfl,hB2⟩;obtain ⟨f1,f2,f3⟩:=facts W2 (hB2.mono (by simp));have cC1:W2.cell? ⟨W.heap.size,1,none⟩=some (.int .i64 se):=(by simp [World.cell?,f1]);have cC2:W2.cell? ⟨W.heap.size,2,none⟩=some (.int .i64 sq):=(by simp [World.cell?,f1]);have cG:W2.cell? ⟨g,2,none⟩=some (.slice (some ⟨sb,0,none⟩) len cap):=(by have:=f3.block g hgl;simp [World.cell?,this,hg]);have t0:=(f3.cell (p:=⟨sb,k * 5,none⟩) hsl).trans s0;have t1:=(f3.cell (p:=⟨sb,k * 5+1,none⟩) hsl).trans s1;have t2:=(f3.cell (p:=⟨sb,k * 5+2,none⟩) hsl).trans s2;have t3:=(f3.cell (p:=⟨sb,k * 5+3,none⟩) hsl).trans s3;have t4:=(f3.cell (p:=⟨sb,k * 5+4,none⟩) hsl).trans s4;simp only [tupV])
 have q10:W2.cell? ⟨W.heap.size+1,0,none⟩=some (.int .i64 0):=by simp [World.cell?,f2]
 have q11:W2.cell? ⟨W.heap.size+1,1,none⟩=some (.int .i64 0):=by simp [World.cell?,f2]
 have q12:W2.cell? ⟨W.heap.size+1,2,none⟩=some (.string { data:=#[] }):=by simp [World.cell?,f2]
 have z10:W2.frozen? ⟨W.heap.size+1,0,none⟩=false:=by simp [World.frozen?,f2]
 have z11:W2.frozen? ⟨W.heap.size+1,1,none⟩=false:=by simp [World.frozen?,f2]
 have z12:W2.frozen? ⟨W.heap.size+1,2,none⟩=false:=by simp [World.frozen?,f2]
 have hq:decide (sq=seq0)=false:=decide_eq_false hne
 have hq2:(sq==seq0)=false:=by simp [hne]
 gi_quiet (fail)
 have hle2:decide (sq≤seq0)=true:=decide_eq_true hle
 gi_wp2
 gi_quiet (fail)
 gi_wp2
 refine ⟨rfl,.agg #[.int .i64 3,.int .i64 0,.string ByteArray.empty],?_,rfl,?_⟩
 ·simp [results,Tryz.f36,go_sem,q10,q11,q12]
  rfl
 ·exact (((f3.trans (drewN_below _ _ _)).setCell (p:=⟨W.heap.size+1,0,none⟩) (by show W.heap.size≤W.heap.size+1;omega) _).setCell (p:=⟨W.heap.size+1,1,none⟩) (by show W.heap.size≤W.heap.size+1;omega) _).setCell (p:=⟨W.heap.size+1,2,none⟩) (by show W.heap.size≤W.heap.size+1;omega) _
set_option maxRecDepth 100000 in
set_option maxHeartbeats 1000000 in
theorem ap_rep (n:Nat) (hn:2≤n) (W:World) (g k:Nat) (v0 v1:Value) (sb len cap:Nat) (kd se sq:Int) (key val:ByteArray) (id0 seq0 kd0 pl0:Int) (vl0:ByteArray)
  (hg:W.heap[g]? = some (.cells #[v0,v1,.slice (some ⟨sb,0,none⟩) len cap] 93 (0,0))) (hk:k<len)
  (s0:W.cell? ⟨sb,k * 5,none⟩=some (.int .i64 id0)) (s1:W.cell? ⟨sb,k * 5+1,none⟩=some (.int .i64 seq0)) (s2:W.cell? ⟨sb,k * 5+2,none⟩=some (.int .i64 kd0)) (s3:W.cell? ⟨sb,k * 5+3,none⟩=some (.int .i64 pl0)) (s4:W.cell? ⟨sb,k * 5+4,none⟩=some (.string vl0))
  (h4:¬ kd=4) (h5:¬ kd=5) (hne:sq=seq0) (hk0:¬ kd0=0)
  (hc1:∀W1,Below W.heap.size W W1→CallsIn Fence.wide (n - 1) Tryz.prog 67 #[.pointer (some ⟨g,0,none⟩),.int .i64 se] W1 fun e W2=>e = .returned (tupV [.int .i64 (k:Int),.bool true])∧Below W1.heap.size W1 W2) :
  CallsIn Fence.wide n Tryz.prog 36 #[.pointer (some ⟨g,0,none⟩),.agg #[.int .i64 kd,.int .i64 se,.int .i64 sq,.string key,.string val]] W fun e W'=>e = .returned (.agg #[.int .i64 kd0,.int .i64 pl0,.string vl0])∧Below W.heap.size W W':=by
 subst hne
 have mixed:Tryz.prog.follows .mixedOrders=true:=by kernel_rfl
 refine callsIn_of_wp Tryz.func36 rfl trivial ?_ rfl
 simp only [Tryz.ntmps36,List.size_toArray,List.length_cons,List.length_nil,Nat.reduceAdd,Nat.reduceSub,Array.replicate_succ,Array.replicate_zero,List.push_toArray,List.append_toArray,List.nil_append,List.cons_append]
 have hgl:g<W.heap.size:=(Array.getElem?_eq_some_iff.1 hg).1
 have hsl:sb<W.heap.size:=by
  by_cases h:sb<W.heap.size
  ·exact h
  ·have hn:W.heap[sb]? = none:=by simp;omega
   simp [World.cell?,hn] at s0
 have hA:Below W.heap.size W ((W.alloc (Obj.cells #[.int .i64 kd,.int .i64 se,.int .i64 sq,.string key,.string val] 31)).alloc (Obj.cells #[.int .i64 0,.int .i64 0,.string { data:=#[] }] 27)):=((Below.refl _ W).alloc (Nat.le_refl _) _).alloc (by simp) _
 have facts:∀W2,Below (W.heap.size+2) ((W.alloc (Obj.cells #[.int .i64 kd,.int .i64 se,.int .i64 sq,.string key,.string val] 31)).alloc (Obj.cells #[.int .i64 0,.int .i64 0,.string { data:=#[] }] 27)) W2→
   W2.heap[W.heap.size]? = some (.cells #[.int .i64 kd,.int .i64 se,.int .i64 sq,.string key,.string val] 31 (0,0))∧W2.heap[W.heap.size+1]? = some (.cells #[.int .i64 0,.int .i64 0,.string { data:=#[] }] 27 (0,0))∧Below W.heap.size W W2:=by
  intro W2 h2
  have e0:=h2.block W.heap.size (by omega)
  have e1:=h2.block (W.heap.size+1) (by omega)
  refine ⟨e0.trans ((Below.heap_alloc _ _ _ (by simp)).trans (World.alloc_heap_new W _)),e1.trans ?_,hA.trans (h2.mono (by omega))⟩
  have:=World.alloc_heap_new (W.alloc (Obj.cells #[.int .i64 kd,.int .i64 se,.int .i64 sq,.string key,.string val] 31)) (Obj.cells #[.int .i64 0,.int .i64 0,.string { data:=#[] }] 27)
  rwa [World.size_alloc] at this
 gi_wp2_with (refine ⟨trivial,fun _=>by omega,?_⟩;gi_at_call 67;refine (hc1 _ hA).mono ?_;rintro e W2 ⟨rfl,hB2⟩;obtain ⟨f1,f2,f3⟩:=facts W2 (hB2.mono (by simp));have cC1:W2.cell? ⟨W.heap.size,1,none⟩=some (.int .i64 se):=(by simp [World.cell?,f1]);have cC2:W2.cell? ⟨W.heap.size,2,none⟩=some (.int .i64 sq):=(by simp [World.cell?,f1]);have cG:W2.cell? ⟨g,2,none⟩=some (.slice (some ⟨sb,0,none⟩) len cap):=(by have:=f3.block g hgl;simp [World.cell?,this,hg]);have t0:=(f3.cell (p:=⟨sb,k * 5,none⟩) hsl).trans s0;have t1:=(f3.cell (p:=⟨sb,k * 5+1,none⟩) hsl).trans s1;have t2:=(f3.cell (p:=⟨sb,k * 5+2,none⟩) hsl).trans s2;have t3:=(f3.cell (p:=⟨sb,k * 5+3,none⟩) hsl).trans s3;have t4:=(f3.cell (p:=⟨sb,k * 5+4,none⟩) hsl).trans s4;simp only [tupV])
 have q10:W2.cell? ⟨W.heap.size+1,0,none⟩=some (.int .i64 0):=by simp [World.cell?,f2]
 have q11:W2.cell? ⟨W.heap.size+1,1,none⟩=some (.int .i64 0):=by simp [World.cell?,f2]
 have q12:W2.cell? ⟨W.heap.size+1,2,none⟩=some (.string { data:=#[] }):=by simp [World.cell?,f2]
 have z10:W2.frozen? ⟨W.heap.size+1,0,none⟩=false:=by simp [World.frozen?,f2]
 have z11:W2.frozen? ⟨W.heap.size+1,1,none⟩=false:=by simp [World.frozen?,f2]
 have z12:W2.frozen? ⟨W.heap.size+1,2,none⟩=false:=by simp [World.frozen?,f2]
 have hq3:(kd0 != 0)=true:=by rw [bne_iff_ne];exact hk0
 gi_quiet (fail)
 have cs:∀j,(W2.drewN 0).cell? ⟨sb,j,none⟩=W2.cell? ⟨sb,j,none⟩:=fun j=>rfl
 gi_wp2
 refine ⟨rfl,.agg #[.int .i64 kd0,.int .i64 pl0,.string vl0],?_,rfl,?_⟩
 ·simp [results,Tryz.f36,go_sem,q10,q11,q12]
 ·exact (((f3.trans (drewN_below _ _ _)).setCell (p:=⟨W.heap.size+1,0,none⟩) (by show W.heap.size≤W.heap.size+1;omega) _).setCell (p:=⟨W.heap.size+1,1,none⟩) (by show W.heap.size≤W.heap.size+1;omega) _).setCell (p:=⟨W.heap.size+1,2,none⟩) (by show W.heap.size≤W.heap.size+1;omega) _
end Apl
end Go.Proofs
