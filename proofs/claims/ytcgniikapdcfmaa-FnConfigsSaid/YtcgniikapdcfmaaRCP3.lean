/- The models are what the functions do. -/
import Derived.Test.YtcgniikapdcfmaaRCP2
import Derived.Test.YtcgniikapdcfmaaRCMemA
namespace Mir.Y
set_option linter.unusedVariables false
set_option maxRecDepth 10000
open Go Go.Proofs Mir
end Mir.Y
namespace Go.Proofs
open Go.RowKit Go.Shelf
attribute [local go_sem] Oper.semAt_some
namespace Mem
open Mir Mir.Y
def zOf (l:List Entry) (j:Nat):Ent:=⟨(l.getD j Entry.dz).Term,(l.getD j Entry.dz).Kind,(l.getD j Entry.dz).Data⟩
abbrev EntR (N:Nat):={ x:Ent // x.k=2→∃r,impl_readMembers.m N x.s=some r }
theorem _root_.Mir.CellsAt.int {m:Bool} {W:World} {g:Nat} {cur:Array Value} {e:Nat} (h:Mir.CellsAt m W g cur e) (hm:m=false):W.heap[g]? = some (.cells cur e (0,0)):=by
 obtain ⟨fz,h1,h2⟩:=h
 rcases h2 with rfl | ⟨h2,_⟩
 ·exact h1
 ·rw [hm] at h2;cases h2
theorem shA_slice {W:World} {F:Nat→Prop} {e:Nat} {t:Mir.Ty} {xs:List (Mir.Ty.D Mir.Y.E.S t)} {v:Value} {fp:List Nat} (h:Mir.ShA Mir.Y.E W F e t xs v fp):∃A n c,v = .slice A n c:=by
 rcases h with ⟨A,h,_⟩ | ⟨g,c,cur,d,h,_⟩
 ·exact ⟨_,_,_,h⟩
 ·exact ⟨_,_,_,h⟩
theorem shA_kept {W W':World} {F:Nat→Prop} {xs:List Int} {v:Value} {fp:List Nat} (h:Mir.ShA Mir.Y.E W F 3 (.int .i64) xs v fp) (hk:∀g∈fp,W'.heap[g]? = W.heap[g]?):Mir.ShA Mir.Y.E W' F 3 (.int .i64) xs v fp:=by
 rcases h with h | ⟨g,c,cur,d,k1,k2,k3,k4,k5,k6,k7,k8⟩
 ·exact .inl h
 ·exact .inr ⟨g,c,cur,d,k1,k2,k3,k4.congr (hk g (by rw [k2];simp)),k5,k6,k7,fun i hi=>by obtain ⟨u,hu,h⟩:=k8 i hi;exact ⟨u,hu,by cases d<;>exact h⟩⟩
theorem shA_lt {W:World} {F:Nat→Prop} {xs:List Int} {v:Value} {fp:List Nat} (h:Mir.ShA Mir.Y.E W F 3 (.int .i64) xs v fp):∀g∈fp,g<W.heap.size:=by
 rcases h with ⟨_,_,_,rfl⟩ | ⟨g,c,cur,d,k1,rfl,k3,k4,_⟩
 ·intro g hg;cases hg
 ·intro g' hg;simp at hg;subst hg;exact k4.lt
def Box3 (W:World) (B:Nat) (e:Ent):Prop:=W.heap[B]? = some (.cells #[.int .i64 e.t,.int .i64 e.k,.string e.s] 35 (0,0))
theorem Ents.mono {β:Type} {ev:β→Ent} {n₀ m₀:Nat} {W:World} {sv:Value} {len:Nat} {zs:Nat→β} (h:n₀≤m₀):Ents ev n₀ W sv len zs→Ents ev m₀ W sv len zs
 | .inl e=>.inl e
 | .inr ⟨b,off,cap,e,hb,hc⟩=>.inr ⟨b,off,cap,e,Nat.lt_of_lt_of_le hb h,hc⟩
theorem box3_own {β:Type} (B:Nat) (f:β→Ent):Own (fun s W=>Box3 W B (f s)):=fun s W W' row hs hg hr=>(grownBy_keeps_cells hg hr hs rfl).trans hs
def Ret (N:Nat) (b1:Nat) (F:Nat→Prop) (B:Nat) (r:List Int) (W:World):Prop:=
 ∃v fp,Boxed W b1 24 v∧Mir.ShA Mir.Y.E W F 3 (.int .i64) r v fp∧fp.Nodup∧∀b∈fp,B≤b
set_option maxRecDepth 100000 in
set_option maxHeartbeats 4000000 in
theorem members_in (N:Nat) (n:Nat) (hn:3≤n) (w:World) (F:Nat→Prop) (hF:∀b,F b→b<w.heap.size) (c0 c1 c2 c5 c6 c7 c8 c9 c10 c11 c12:Value) (A A4:Option Addr) (len cap l4 cap4:Nat) (hcs:c0.oneCell'=true)
  (start:List Int) (hreach:len≤1048576000) (zs:Nat→EntR N) (hE:Ents Subtype.val w.heap.size w (.slice A len cap) len zs) (hS:Mir.RoV Mir.Y.E w F (.slice 3 (.int .i64)) start (.slice A4 l4 cap4)) (R:List Int)
  (hR:(∃k q,k<len∧(zs (len - 1 - k)).1.k=2∧(∀j,j<k→(zs (len - 1 - j)).1.k≠2)∧impl_readMembers.m N (zs (len - 1 - k)).1.s=some (R,q))∨((∀j,j<len→(zs (len - 1 - j)).1.k≠2)∧slices_Clone_int_int.m N start=some R)) :
  CallsIn Fence.wide n Try.prog 20 #[.agg #[c0,c1,c2,.slice A len cap,.slice A4 l4 cap4,c5,c6,c7,c8,c9,c10,c11,c12]] w fun e W'=>∃v fp,e = .returned v∧Below w.heap.size w W'∧Mir.ShA Mir.Y.E W' F 3 (.int .i64) R v fp∧fp.Nodup∧∀b∈fp,w.heap.size≤b:=by
 have h1:1≤n:=by omega
 refine callsIn_of_wp_marks Try.func20 rfl trivial ?_ rfl
 simp only [Try.ntmps20,List.size_toArray,List.length_cons,List.length_nil,Nat.reduceAdd,Nat.reduceSub,Array.replicate_succ,Array.replicate_zero,List.push_toArray,List.append_toArray,List.nil_append,List.cons_append]
 gi_wp2_with (refine ⟨trivial,?_⟩;gi_at_call 38;refine (back_in Fence.wide (n - 1) trivial rfl _ _ _ _).mono ?_;rintro e w' ⟨rfl,rfl⟩)
 have bN:(((w.alloc (.cells #[c0,c1,c2,.slice A len cap,.slice A4 l4 cap4,c5,c6,c7,c8,c9,c10,c11,c12] 26)).alloc (.cells #[.slice none 0 0] 24)).alloc (.cells #[.slice A len cap] 23)).cell? ⟨w.heap.size,4,none⟩=some (.slice A4 l4 cap4):=by
  have hN:=(Below.heap_alloc ((w.alloc (.cells #[c0,c1,c2,.slice A len cap,.slice A4 l4 cap4,c5,c6,c7,c8,c9,c10,c11,c12] 26)).alloc (.cells #[.slice none 0 0] 24)) (.cells #[.slice A len cap] 23) w.heap.size (by simp;omega)).trans ((Below.heap_alloc (w.alloc (.cells #[c0,c1,c2,.slice A len cap,.slice A4 l4 cap4,c5,c6,c7,c8,c9,c10,c11,c12] 26)) (.cells #[.slice none 0 0] 24) w.heap.size (by simp)).trans (World.alloc_heap_new w _))
  simp [World.cell?,hN]
 have bR:=(Boxed.new (w.alloc (.cells #[c0,c1,c2,.slice A len cap,.slice A4 l4 cap4,c5,c6,c7,c8,c9,c10,c11,c12] 26)) 24 (.slice none 0 0)).alloc (.cells #[.slice A len cap] 23)
 have bB:=Boxed.new ((w.alloc (.cells #[c0,c1,c2,.slice A len cap,.slice A4 l4 cap4,c5,c6,c7,c8,c9,c10,c11,c12] 26)).alloc (.cells #[.slice none 0 0] 24)) 23 (.slice A len cap)
 simp only [World.size_alloc] at bR bB
 have hB0:Below w.heap.size w (((w.alloc (.cells #[c0,c1,c2,.slice A len cap,.slice A4 l4 cap4,c5,c6,c7,c8,c9,c10,c11,c12] 26)).alloc (.cells #[.slice none 0 0] 24)).alloc (.cells #[.slice A len cap] 23)):=(((Below.refl _ w).alloc (Nat.le_refl _) _).alloc (by simp) _).alloc (by simp;omega) _
 have hsz:(((w.alloc (.cells #[c0,c1,c2,.slice A len cap,.slice A4 l4 cap4,c5,c6,c7,c8,c9,c10,c11,c12] 26)).alloc (.cells #[.slice none 0 0] 24)).alloc (.cells #[.slice A len cap] 23)).heap.size=w.heap.size+3:=by simp
 obtain ⟨W0,hW0⟩:∃W0,(((w.alloc (.cells #[c0,c1,c2,.slice A len cap,.slice A4 l4 cap4,c5,c6,c7,c8,c9,c10,c11,c12] 26)).alloc (.cells #[.slice none 0 0] 24)).alloc (.cells #[.slice A len cap] 23))=W0:=⟨_,rfl⟩
 rw [hW0] at bN bR bB hB0 hsz ⊢
 clear hW0
 have hretOwn:∀(r:List Int) (v:Value) (fp:List Nat),Own (fun (_:Unit) W=>Boxed W (w.heap.size+1) 24 v∧Mir.ShA Mir.Y.E W F 3 (.int .i64) r v fp):=by
  rintro r v fp s X Y row ⟨h1,h2⟩ hg hr
  refine ⟨boxed_own _ 24 (fun (_:Unit)=>v) () X Y row h1 hg hr,?_⟩
  rcases h2 with h2 | ⟨g,c,cur,d,k1,k2,k3,k4,k5,k6,k7,k8⟩
  ·exact .inl h2
  ·have k4':=k4.int rfl
   refine .inr ⟨g,c,cur,d,k1,k2,k3,k4.congr (grownBy_keeps_cells hg hr k4' rfl),k5,k6,k7,fun i hi=>?_⟩
   obtain ⟨u,hu,h⟩:=k8 i hi
   exact ⟨u,hu,by cases d<;>exact h⟩
 have hread:∀(x:EntR N) (W:World),w.heap.size≤W.heap.size→(x.1.k==2)=true→Calls Try.prog 39 #[.string x.1.s] W fun e W'=>∃(A':Option Addr) (n' c':Nat) (r:List Int×Bool) (fp:List Nat),e = .returned (.tuple #[.slice A' n' c',.bool r.2])∧impl_readMembers.m N x.1.s=some r∧Below W.heap.size W W'∧Mir.ShA Mir.Y.E W' F 3 (.int .i64) r.1 (.slice A' n' c') fp∧fp.Nodup∧∀b∈fp,W.heap.size≤b:=by
  intro x W hW hx
  obtain ⟨r,hr⟩:=x.2 (by simpa using hx)
  refine ((impl_readMembers.snd N).2 W F (x.1.s,()) r [.string x.1.s] [] hr ⟨_,[],[],[],rfl,rfl,⟨⟨0,rfl⟩,rfl⟩,rfl,rfl⟩ List.nodup_nil (fun b h=>by cases h) (fun b hb=>Nat.lt_of_lt_of_le (hF b hb) hW)).mono ?_
  rintro e W' ⟨v,rfl,hl⟩
  obtain ⟨F',vs,fpR,fpO,rfl,hFF,hF',hres,hout,hnd,hfree⟩:=hl.ex
  obtain ⟨v1,q1,f1,g1,rfl,rfl,ho1,v2,q2,f2,g2,rfl,rfl,ho2,rfl,rfl⟩:=hres
  obtain ⟨rfl,rfl⟩:=ho2
  simp only [List.append_nil] at hnd hfree
  have ho1:Mir.ShA Mir.Y.E W' F' 3 (.int .i64) r.1 v1 f1:=ho1
  obtain ⟨A',n',c',rfl⟩:=shA_slice ho1
  refine ⟨A',n',c',r,f1,rfl,hr,⟨hl.os,hl.tape,hl.output,hl.size,fun k hk=>hl.block k hk (by simp)⟩,?_,(List.nodup_append.1 hnd).1,fun b hb=>?_⟩
  ·rcases ho1 with h | ⟨g,c,cur,d,k1,k2,k3,k4,k5,k6,k7,k8⟩
   ·exact .inl h
   ·exact .inr ⟨g,c,cur,d,k1,k2,k3,k4,k5,k6,k7,fun i hi=>by obtain ⟨u,hu,h⟩:=k8 i hi;exact ⟨u,hu,by cases d<;>exact h⟩⟩
  ·rcases (hfree b (List.mem_append_left _ hb)).2 with h | h
   ·cases h
   ·exact h
 have hclone:slices_Clone_int_int.m N start=some R→∀(W:World),w.heap.size≤W.heap.size→Below w.heap.size w W→Calls Try.prog 40 #[.slice A4 l4 cap4] W fun e W'=>∃(A':Option Addr) (n' c':Nat) (fp:List Nat),e = .returned (.slice A' n' c')∧Below W.heap.size W W'∧Mir.ShA Mir.Y.E W' F 3 (.int .i64) R (.slice A' n' c') fp∧fp.Nodup∧∀b∈fp,W.heap.size≤b:=by
  intro hr W hW hBW
  have hS':Mir.RoV Mir.Y.E W F (.slice 3 (.int .i64)) start (.slice A4 l4 cap4):=by
   obtain ⟨d,hd⟩:=hS
   exact ⟨d,Mir.RoA.more (fun _ h=>h) (fun b hb=>hBW.block b (hF b hb)) d d (Nat.le_refl _) _ _ _ hd⟩
  refine ((slices_Clone_int_int.snd N).2 W F (start,()) R [.slice A4 l4 cap4] [] hr ⟨_,[],[],[],rfl,rfl,⟨hS',rfl⟩,rfl,rfl⟩ List.nodup_nil (fun b h=>by cases h) (fun b hb=>Nat.lt_of_lt_of_le (hF b hb) hW)).mono ?_
  rintro e W' ⟨v,rfl,hl⟩
  obtain ⟨F',vs,fpR,fpO,rfl,hFF,hF',hres,hout,hnd,hfree⟩:=hl.ex
  obtain ⟨v1,q1,f1,g1,rfl,rfl,ho1,rfl,rfl⟩:=hres
  simp only [List.append_nil] at hnd hfree
  have ho1:Mir.ShA Mir.Y.E W' F' 3 (.int .i64) R v1 f1:=ho1
  obtain ⟨A',n',c',rfl⟩:=shA_slice ho1
  refine ⟨A',n',c',f1,rfl,⟨hl.os,hl.tape,hl.output,hl.size,fun k hk=>hl.block k hk (by simp)⟩,?_,(List.nodup_append.1 hnd).1,fun b hb=>?_⟩
  ·rcases ho1 with h | ⟨g,c,cur,d,k1,k2,k3,k4,k5,k6,k7,k8⟩
   ·exact .inl h
   ·exact .inr ⟨g,c,cur,d,k1,k2,k3,k4,k5,k6,k7,fun i hi=>by obtain ⟨u,hu,h⟩:=k8 i hi;exact ⟨u,hu,by cases d<;>exact h⟩⟩
  ·rcases (hfree b (List.mem_append_left _ hb)).2 with h | h
   ·cases h
   ·exact h
 refine wpIn_rangeFunc_ownH rfl h1 (gf:=51) (lb:=#[.pointer (some ⟨w.heap.size+1+1,0,none⟩)]) rfl trivial (enters_of Try.func51 (by kernel_rfl) rfl)
  (back_stops Subtype.val Fence.wide (n - 1) trivial rfl (by omega) (w.heap.size+1+1) W0.heap.size (.slice A len cap) len zs hreach W0 (by omega) (Nat.le_refl _) bB.cell ((hE.below hB0).mono (by omega))) belowK_t (belowK_b (by omega)) (Below.refl _ _) (fun _=>rfl)
  (fun pre W=>(∀p∈pre,p.2.1.k≠2)∧Below W0.heap.size W0 W)
  (fun c pre W=>(c = .ret∧∃(ini:List (Nat×EntR N)) (last:Nat×EntR N) (r:List Int×Bool) (v:Value) (fp:List Nat),pre=ini++[last]∧(∀p∈ini,p.2.1.k≠2)∧last.2.1.k=2∧impl_readMembers.m N last.2.1.s=some r∧fp.Nodup∧(∀b∈fp,w.heap.size≤b)∧(Boxed W (w.heap.size+1) 24 v∧Mir.ShA Mir.Y.E W F 3 (.int .i64) r.1 v fp))∧Below w.heap.size w W)
  (OwnFrom.and (fun s X Y row hs hg hr=>hs) (ownFrom_below (Nat.le_refl _) (Nat.le_refl _)))
  (fun c=>OwnFrom.and (Own.from (fun s X Y row hs hg hr=>by
   obtain ⟨hc,ini,last,r,v,fp,e1,e2,e3,e4,e5,e6,e7⟩:=hs
   exact ⟨hc,ini,last,r,v,fp,e1,e2,e3,e4,e5,e6,hretOwn r.1 v fp () X Y row e7 hg hr⟩) _) (ownFrom_below (Nat.le_refl _) (by omega)))
  ⟨by simp,Below.refl _ _⟩
  (fun x a' W=>∃Bx,w.heap.size+1<Bx∧Box3 W Bx x.2.1∧a' = { tmps:=#[.agg #[c0,c1,c2,.slice A len cap,.slice A4 l4 cap4,c5,c6,c7,c8,c9,c10,c11,c12],.pointer (some ⟨w.heap.size,0,none⟩),.pointer (some ⟨w.heap.size+1,0,none⟩),undef,.pointer (some ⟨Bx,0,none⟩),undef,undef,.pointer (some ⟨w.heap.size,3,none⟩),.slice A len cap,.func (.func 51) #[] #[.pointer (some ⟨w.heap.size+1+1,0,none⟩)],.int .i64 (x.1:Int),x.2.1.v,undef,undef,undef,undef,undef,undef,undef,undef,undef,undef,undef,undef,undef],defers:=[] })
  (fun x a' _ X Y row hs hg hr=>by obtain ⟨Bx,h1,h2,h3⟩:=hs;exact ⟨Bx,h1,box3_own Bx (fun (_:Unit)=>x.2.1) () X Y row h2 hg (fun r e=>(hr r e).2),h3⟩)
  ?assign ?body ?done ?stop
 case assign=>
  rintro l pre x W K ⟨hp,hB1⟩ hK
  simp only [Ent.v]
  gi_wp2
  exact hK _ _ ((KeepsOthers.alloc _ _).from _) ((Below.refl _ W).alloc hB1.size _) ⟨hp,hB1.alloc hB1.size _⟩ ⟨W.heap.size,by have:=hB1.size;omega,World.alloc_heap_new W _,rfl⟩
 case body=>
  rintro l pre x a' W hl ⟨rr,hr⟩ ⟨hp,hB1⟩ ⟨Bx,hBx,bX,rfl⟩ hlt
  have bR1:Boxed W (w.heap.size+1) 24 (.slice none 0 0):=(hB1.block (w.heap.size+1) (by omega)).trans bR
  have cR1:=bR1.cell
  have fR1:=bR1.frozen
  have cX0:W.cell? ⟨Bx,0,none⟩=some (.int .i64 x.2.1.t):=by simp [World.cell?,show W.heap[Bx]? = _ from bX]
  have cX1:W.cell? ⟨Bx,1,none⟩=some (.int .i64 x.2.1.k):=by simp [World.cell?,show W.heap[Bx]? = _ from bX]
  have cX2:W.cell? ⟨Bx,2,none⟩=some (.string x.2.1.s):=by simp [World.cell?,show W.heap[Bx]? = _ from bX]
  simp only [Ent.v]
  gi_wp2_with (refine ⟨trivial,fun h=>(by cases h),?_⟩;gi_at_call 39;refine (CallsIn.inRound l (callsIn_wide.2 (hread x.2 W (Nat.le_trans hB0.size hB1.size) (by assumption)))).mono ?_;rintro e W' ⟨A',n',c',r,fp,rfl,hr1,hBl,hsh,hnd,hfp⟩;have bR2:Boxed W' (w.heap.size+1) 24 (.slice none 0 0):=(hBl.block (w.heap.size+1) bR1.lt).trans bR1;have cR2:=bR2.cell;have fR2:=bR2.frozen)
  ·have hx2:(x.2.1.k==2)=true:=by assumption
   have hWlt:w.heap.size+1<W.heap.size:=bR1.lt
   refine ⟨(show KeepsFrom _ W W' from ⟨hBl.size,fun i o _ hi _=>(hBl.block i (Array.getElem?_eq_some_iff.1 hi).1).trans hi⟩).trans ((KeepsOthers.setCell _ _ _).from _),⟨rfl,pre,x,r,.slice A' n' c',fp,rfl,hp,by simpa using hx2,hr1,hnd,fun b hb=>by have:=hfp b hb;omega,bR2.set _,shA_kept hsh fun g hg=>?_⟩,((hB0.trans (hB1.mono (by omega))).trans (hBl.mono (by have:=hB1.size;omega))).setCell (p:=⟨w.heap.size+1,0,none⟩) (by simp) _⟩
   refine (grownBy_setCell' W' (w.heap.size+1) (.slice A' n' c')).block g (shA_lt hsh g hg) (fun e=>?_)
   cases e
   have:=hfp _ hg
   omega
  ·have hx2:(x.2.1.k==2)=false:=by assumption
   have hnot:∀p∈pre++[x],p.2.1.k≠2:=by
    intro p hp'
    rcases List.mem_append.1 hp' with h | h
    ·exact hp p h
    ·rw [List.mem_singleton] at h;subst h;simpa using hx2
   exact ⟨KeepsFrom.refl _ _,Below.refl _ _,hnot,hB1⟩
 case done=>
  rintro D ys W hD rfl ⟨hp,hB1⟩ hK
  have bR1:Boxed W (w.heap.size+1) 24 (.slice none 0 0):=(hB1.block (w.heap.size+1) (by omega)).trans bR
  have bN1:W.cell? ⟨w.heap.size,4,none⟩=some (.slice A4 l4 cap4):=(hB1.cell (p:=⟨w.heap.size,4,none⟩) (by show w.heap.size<W0.heap.size;omega)).trans bN
  have cR1:=bR1.cell
  have fR1:=bR1.frozen
  have hclone':=hclone ?_ W (Nat.le_trans hB0.size hB1.size) (hB0.trans (hB1.mono (by omega)))
  gi_wp2_with (refine ⟨trivial,?_⟩;gi_at_call 40;refine (callsIn_wide.2 hclone').mono ?_;rintro e W' ⟨A',n',c',fp,rfl,hBl,hsh,hnd,hfp⟩;have bR2:Boxed W' (w.heap.size+1) 24 (.slice none 0 0):=(hBl.block (w.heap.size+1) bR1.lt).trans bR1;have cR2:=bR2.cell;have fR2:=bR2.frozen)
  ·have hWlt:w.heap.size+1<W.heap.size:=bR1.lt
   have hKD:W'.heap[D]? = some (.deferred (some [])):=(hBl.block D (Array.getElem?_eq_some_iff.1 hK).1).trans hK
   have hK':=(KeepsOthers.setCell W' ⟨w.heap.size+1,0,none⟩ (.slice A' n' c')).same D _ hKD rfl
   have hb:=bR2.set (.slice A' n' c')
   have hsh':Mir.ShA Mir.Y.E (W'.setCell ⟨w.heap.size+1,0,none⟩ (.slice A' n' c')) F 3 (.int .i64) R (.slice A' n' c') fp:=shA_kept hsh fun g hg=>by
    refine (grownBy_setCell' W' (w.heap.size+1) (.slice A' n' c')).block g (shA_lt hsh g hg) (fun e=>?_)
    cases e
    have:=hfp _ hg
    omega
   have hfin:=hretOwn R (.slice A' n' c') fp () _ _ (some D) ⟨hb,hsh'⟩ (grownBy_putObj' _ D (.deferred none)) (fun r e=>by cases e;exact ⟨_,hK',rfl⟩)
   have hcell:=hfin.1.cell
   have hBel:Below w.heap.size w (W'.setCell ⟨w.heap.size+1,0,none⟩ (.slice A' n' c')):=((hB0.trans (hB1.mono (by omega))).trans (hBl.mono (by have:=hB1.size;omega))).setCell (p:=⟨w.heap.size+1,0,none⟩) (by simp) _
   refine ⟨by simp,.inl ⟨_,_,rfl,run_takeDeferred hK',?_⟩⟩
   refine ⟨.slice A' n' c',?_,.slice A' n' c',fp,rfl,hBel.trans (belowK_b (w:=w) (Nat.le_refl _) _ D _ _ (by omega) hK' rfl rfl),hfin.2,hnd,fun b hb=>by have:=hfp b hb;omega⟩
   simp [results,Try.f20,go_sem,hcell]
  ·rcases hR with ⟨k,q,k1,k2,_⟩ | ⟨_,h⟩
   ·exact absurd k2 (hp _ (downto_mem (fun j=>(j,zs j)) len k1))
   ·exact h
 case stop=>
  rintro D c pre W hD ⟨k,hk,hpre⟩ ⟨⟨rfl,ini,last,r,v,fp,e1,e2,e3,e4,e5,e6,e7,e8⟩,hB1⟩ hK
  obtain ⟨A',n',c',rfl⟩:=shA_slice e8
  have hRr:r.1=R:=by
   obtain ⟨k',rfl⟩:∃k',k=k'+1:=by
    cases k with
    | zero=>rw [e1] at hpre;simp [downto] at hpre
    | succ k'=>exact ⟨k',rfl⟩
   rw [e1] at hpre
   simp only [downto] at hpre
   obtain ⟨h1,h2⟩:=List.append_inj' hpre rfl
   have h2:last=(len - 1 - k',zs (len - 1 - k')):=by simpa using h2
   subst h1 h2
   rcases hR with ⟨kk,q,k1,k2,k3,k4⟩ | ⟨h,_⟩
   ·have hkk:kk=k':=by
     rcases Nat.lt_trichotomy kk k' with h | h | h
     ·exact absurd k2 (e2 _ (downto_mem (fun j=>(j,zs j)) len h))
     ·exact h
     ·exact absurd e3 (k3 k' h)
    subst hkk
    have:=e4.symm.trans k4
    cases this
    rfl
   ·exact absurd e3 (h k' (by omega))
  subst hRr
  gi_wp2
  have hfin:=hretOwn r.1 (.slice A' n' c') fp () _ _ (some D) ⟨e7,e8⟩ (grownBy_putObj' _ D (.deferred none)) (fun r e=>by cases e;exact ⟨_,hK,rfl⟩)
  have hcell:=hfin.1.cell
  refine ⟨by simp,.inl ⟨_,_,rfl,run_takeDeferred hK,?_⟩⟩
  refine ⟨.slice A' n' c',?_,.slice A' n' c',fp,rfl,hB1.trans (belowK_b (w:=w) (Nat.le_refl _) _ D _ _ (by omega) hK rfl rfl),hfin.2,e5,e6⟩
  simp [results,Try.f20,go_sem,hcell]
end Mem
end Go.Proofs
namespace Mir.Y
set_option linter.unusedVariables false
set_option maxRecDepth 10000
open Go Go.Proofs Mir
namespace impl_Node_members
open Go.Proofs.Mem
theorem agg_of {W:World} {F:Nat→Prop} {a:Node} {v:Value} (h:RoV E W F (.st 26) a v):∃(A A4 A6 A7 A8:Option Addr) (l6 l7 l8 c3 c4 c6 c7 c8 d:Nat),v = .agg #[.int .i64 a.Id,.int .i64 a.Term,.int .i64 a.Vote,.slice A a.Log.length c3,.slice A4 a.Start.length c4,.int .i64 a.Role,.slice A6 l6 c6,.slice A7 l7 c7,.slice A8 l8 c8,.int .i64 a.Commit,.int .i64 a.Elapsed,.int .i64 a.Wait,.bool a.Up]∧
  RoA E W F d (.slice 35 (.st 35)) a.Log (.slice A a.Log.length c3)∧RoA E W F d (.slice 3 (.int .i64)) a.Start (.slice A4 a.Start.length c4):=by
 obtain ⟨vs,d,rfl,h⟩:=h
 have h:RoL E (RoA E W F d) [.int .i64,.int .i64,.int .i64,.slice 35 (.st 35),.slice 3 (.int .i64),.int .i64,.slice 3 (.int .i64),.slice 3 (.int .i64),.slice 3 (.int .i64),.int .i64,.int .i64,.int .i64,.bool] (a.Id,a.Term,a.Vote,a.Log,a.Start,a.Role,a.Votes,a.Next,a.Match,a.Commit,a.Elapsed,a.Wait,a.Up,()) vs:=h
 cases d with
 | zero=>obtain ⟨v0,r0,rfl,h0,v1,r1,rfl,h1,v2,r2,rfl,h2,v3,r3,rfl,h3,_⟩:=h;exact h3.elim
 | succ d=>
  obtain ⟨v0,r0,rfl,h0,v1,r1,rfl,h1,v2,r2,rfl,h2,v3,r3,rfl,h3,v4,r4,rfl,h4,v5,r5,rfl,h5,v6,r6,rfl,h6,v7,r7,rfl,h7,v8,r8,rfl,h8,v9,r9,rfl,h9,v10,r10,rfl,h10,v11,r11,rfl,h11,v12,r12,rfl,h12,h13⟩:=h
  have e0:v0 = .int .i64 a.Id:=h0
  have e1:v1 = .int .i64 a.Term:=h1
  have e2:v2 = .int .i64 a.Vote:=h2
  have e5:v5 = .int .i64 a.Role:=h5
  have e9:v9 = .int .i64 a.Commit:=h9
  have e10:v10 = .int .i64 a.Elapsed:=h10
  have e11:v11 = .int .i64 a.Wait:=h11
  have e12:v12 = .bool a.Up:=h12
  have e13:r12=[]:=h13
  have k3:=h3
  have k4:=h4
  obtain ⟨A,c3,q3,_⟩:=h3
  obtain ⟨A4,c4,q4,_⟩:=h4
  obtain ⟨A6,c6,q6,_⟩:=h6
  obtain ⟨A7,c7,q7,_⟩:=h7
  obtain ⟨A8,c8,q8,_⟩:=h8
  have q3:v3 = .slice A a.Log.length c3:=q3
  have q4:v4 = .slice A4 a.Start.length c4:=q4
  subst e0 e1 e2 e5 e9 e10 e11 e12 e13 q3 q4 q6 q7 q8
  exact ⟨A,A4,A6,A7,A8,_,_,_,c3,c4,c6,c7,c8,d+1,rfl,k3,k4⟩
theorem find_spec (p:Entry→Bool):∀(l:List Entry),(∃k e,k<l.length∧l.reverse.find? p=some e∧l.getD (l.length - 1 - k) Entry.dz=e∧p e=true∧∀j,j<k→p (l.getD (l.length - 1 - j) Entry.dz)=false)∨(l.reverse.find? p=none∧∀j,j<l.length→p (l.getD (l.length - 1 - j) Entry.dz)=false):=by
 intro l
 have key:∀(r:List Entry),(∃k e,k<r.length∧r.find? p=some e∧r.getD k Entry.dz=e∧p e=true∧∀j,j<k→p (r.getD j Entry.dz)=false)∨(r.find? p=none∧∀j,j<r.length→p (r.getD j Entry.dz)=false):=by
  intro r
  induction r with
  | nil=>exact .inr ⟨rfl,fun j hj=>by cases hj⟩
  | cons x r ih=>
   cases hx:p x with
   | true=>exact .inl ⟨0,x,by simp,by simp [List.find?,hx],rfl,hx,fun j hj=>by cases hj⟩
   | false=>
    rcases ih with ⟨k,e,h1,h2,h3,h4,h5⟩ | ⟨h1,h2⟩
    ·refine .inl ⟨k+1,e,by simpa using h1,by simp [List.find?,hx,h2],by simpa using h3,h4,fun j hj=>?_⟩
     cases j with
     | zero=>exact hx
     | succ j=>simpa using h5 j (by omega)
    ·refine .inr ⟨by simp [List.find?,hx,h1],fun j hj=>?_⟩
     cases j with
     | zero=>exact hx
     | succ j=>simpa using h2 j (by simpa using hj)
 have hrev:∀j,j<l.length→l.reverse.getD j Entry.dz=l.getD (l.length - 1 - j) Entry.dz:=fun j hj=>by
  rw [List.getD_eq_getElem?_getD,List.getD_eq_getElem?_getD,List.getElem?_reverse hj]
 rcases key l.reverse with ⟨k,e,h1,h2,h3,h4,h5⟩ | ⟨h1,h2⟩
 ·rw [List.length_reverse] at h1
  exact .inl ⟨k,e,h1,h2,by rw [← hrev k h1];exact h3,h4,fun j hj=>by rw [← hrev j (by omega)];exact h5 j hj⟩
 ·exact .inr ⟨h1,fun j hj=>by rw [← hrev j hj];exact h2 j (by simpa using hj)⟩
theorem snd (N:Nat):Sound Try.prog E 20 (sp N):=by
 refine ⟨fun args W=>run_callFunc_go Try.func20 (c:=Try.f20.body.getD .skip) (by kernel_rfl) (by kernel_rfl) args W,?_⟩
 rintro W F ⟨a0,_⟩ r args fp hfn ⟨v,vs,f1,f2,rfl,rfl,⟨h0,rfl⟩,⟨rfl,rfl⟩⟩ _ _ hF
 have hfn:m N a0=some r:=hfn
 unfold m at hfn
 cases hc:decide (a0.Log.length≤1048576000)&&a0.Log.all (fun e=>!(e.Kind==2)||(impl_readMembers.m N e.Data).isSome) with
 | false=>rw [hc] at hfn;cases hfn
 | true=>
  rw [hc,cond_true] at hfn
  simp only [Bool.and_eq_true,decide_eq_true_eq,List.all_eq_true] at hc
  obtain ⟨A,A4,A6,A7,A8,l6,l7,l8,c3,c4,c6,c7,c8,d,rfl,hlog,hstart⟩:=agg_of h0
  have hz:∀j,(zOf a0.Log j).k=2→∃r,impl_readMembers.m N (zOf a0.Log j).s=some r:=by
   intro j hj
   by_cases hjl:j<a0.Log.length
   ·have hm:a0.Log.getD j Entry.dz∈a0.Log:=by
     rw [List.getD_eq_getElem?_getD,List.getElem?_eq_getElem hjl];exact List.getElem_mem hjl
    have:=hc.2 _ hm
    have hk:(a0.Log.getD j Entry.dz).Kind=2:=hj
    rw [hk] at this
    have h2:(impl_readMembers.m N (a0.Log.getD j Entry.dz).Data).isSome=true:=by simpa using this
    exact Option.isSome_iff_exists.1 h2
   ·have:(zOf a0.Log j).k=0:=by
     unfold zOf
     rw [List.getD_eq_getElem?_getD,List.getElem?_eq_none (by omega)]
     rfl
    rw [this] at hj;cases hj
  have hE:Ents Subtype.val W.heap.size W (.slice A a0.Log.length c3) a0.Log.length (fun j=>(⟨zOf a0.Log j,hz j⟩:EntR N)):=by
   cases d with
   | zero=>exact hlog.elim
   | succ d=>
    obtain ⟨A',c',hv,hlc,h⟩:=hlog
    cases hv
    by_cases hl:0<a0.Log.length
    ·obtain ⟨ad,rfl,hFa,hel⟩:=h hl
     have cells:∀j,(hj:j<a0.Log.length)→W.cell? (ad.add (j * 3+0))=some (.int .i64 (zOf a0.Log j).t)∧W.cell? (ad.add (j * 3+1))=some (.int .i64 (zOf a0.Log j).k)∧W.cell? (ad.add (j * 3+2))=some (.string (zOf a0.Log j).s):=by
      intro j hj
      obtain ⟨us,hr,hcells⟩:=hel j hj
      have hr:RoL E (RoA E W F d) [.int .i64,.int .i64,.str] (a0.Log[j].Term,a0.Log[j].Kind,a0.Log[j].Data,()) us:=hr
      obtain ⟨u0,q0,rfl,k0,u1,q1,rfl,k1,u2,q2,rfl,k2,k3⟩:=hr
      have e0:u0 = .int .i64 a0.Log[j].Term:=by cases d<;>exact k0
      have e1:u1 = .int .i64 a0.Log[j].Kind:=by cases d<;>exact k1
      have e2:u2 = .string a0.Log[j].Data:=by cases d<;>exact k2
      have e3:q2=[]:=k3
      subst e0 e1 e2 e3
      have hg:a0.Log.getD j Entry.dz=a0.Log[j]:=by rw [List.getD_eq_getElem?_getD,List.getElem?_eq_getElem hj];rfl
      unfold zOf
      rw [hg]
      exact ⟨hcells 0 (by simp),hcells 1 (by simp),hcells 2 (by simp)⟩
     have hspot:ad.spot=none:=by
      have h0:=(cells 0 hl).1
      have e:ad.add (0 * 3+0)=ad:=rfl
      rw [e] at h0
      unfold World.cell? at h0
      split at h0
      ·cases hs:ad.spot with
       | none=>rfl
       | some s=>rw [hs] at h0;simp at h0
      ·cases h0
     obtain ⟨b,off,sp⟩:=ad
     have hspot:sp=none:=hspot
     subst hspot
     refine .inr ⟨b,off,c3,rfl,hF b hFa,fun j hj=>?_⟩
     obtain ⟨q0,q1,q2⟩:=cells j hj
     rw [add_lit] at q0 q1 q2
     exact ⟨q0,q1,q2⟩
    ·exact .inl ⟨A,c3,by rw [show a0.Log.length=0 by omega],by omega⟩
  have hR:(∃k q,k<a0.Log.length∧(zOf a0.Log (a0.Log.length - 1 - k)).k=2∧(∀j,j<k→(zOf a0.Log (a0.Log.length - 1 - j)).k≠2)∧impl_readMembers.m N (zOf a0.Log (a0.Log.length - 1 - k)).s=some (r,q))∨((∀j,j<a0.Log.length→(zOf a0.Log (a0.Log.length - 1 - j)).k≠2)∧slices_Clone_int_int.m N a0.Start=some r):=by
   rcases find_spec (fun e=>e.Kind==2) a0.Log with ⟨k,e,h1,h2,h3,h4,h5⟩ | ⟨h1,h2⟩
   ·rw [h2] at hfn
    obtain ⟨q,hq1,hq2⟩:=Option.map_eq_some_iff.1 hfn
    refine .inl ⟨k,q.2,h1,?_,fun j hj=>?_,?_⟩
    ·show (a0.Log.getD (a0.Log.length - 1 - k) Entry.dz).Kind=2
     rw [h3];simpa using h4
    ·have:=h5 j hj
     show (a0.Log.getD (a0.Log.length - 1 - j) Entry.dz).Kind≠2
     simpa using this
    ·show impl_readMembers.m N (a0.Log.getD (a0.Log.length - 1 - k) Entry.dz).Data=_
     rw [h3,hq1,← hq2]
   ·rw [h1] at hfn
    refine .inr ⟨fun j hj=>?_,hfn⟩
    show (a0.Log.getD (a0.Log.length - 1 - j) Entry.dz).Kind≠2
    simpa using h2 j hj
  have hcall:=members_in N 3 (Nat.le_refl _) W F hF (.int .i64 a0.Id) (.int .i64 a0.Term) (.int .i64 a0.Vote) (.int .i64 a0.Role) (.slice A6 l6 c6) (.slice A7 l7 c7) (.slice A8 l8 c8) (.int .i64 a0.Commit) (.int .i64 a0.Elapsed) (.int .i64 a0.Wait) (.bool a0.Up) A A4 a0.Log.length c3 a0.Start.length c4 rfl a0.Start hc.1 _ hE ⟨d,hstart⟩ r hR
  refine (callsIn_wide.1 hcall).mono ?_
  rintro e W' ⟨v,fp,rfl,hB,hsh,hnd,hfp⟩
  refine ⟨v,rfl,⟨F,[v],fp,[],rfl,fun _ h=>h,fun b h=>⟨.inl h,Nat.lt_of_lt_of_le (hF b h) hB.size⟩,⟨v,[],fp,[],rfl,by simp,hsh,rfl,rfl⟩,⟨_,[],[],[],rfl,rfl,rfl,rfl,rfl⟩,by simpa using hnd,fun b hb=>?_⟩,hB.os,hB.tape,hB.output,hB.size,fun b hb _=>hB.block b hb⟩
  rw [List.append_nil] at hb
  have:=hfp b hb
  exact ⟨fun h=>by have:=hF b h;omega,.inr this⟩
end impl_Node_members
namespace slices_Index_int_int
noncomputable def code:Code:=Try.f48.body.getD .skip
abbrev live:Live:=[(2,[0,1,7,8])]
noncomputable def G (N:Nat):Ctx E:=gam []
noncomputable def loop2:Code:=codeAt code [1,0,1,0]
noncomputable def body2:Code:=codeAt loop2 [0]
noncomputable def K2 (N:Nat) (o0:Orc E R):KT E R:=kAt T (G N) live [] o0 code [1,0,1,0] (kfin T Try.f48 (sp N))
noncomputable def St2 (a0:List Int) (a1:Int):(Int×Int)→St E
 | (v2,v3)=>{ ρ:=[(0,.c (.at (.ro 3 (.int .i64) a0))),(1,.c (.at (.int .i64 a1))),(7,.c (.at (.int .i64 v2))),(8,.c (.at (.int .i64 v3)))],H:=[],nx:=0,n:=19,pin:=[] }
theorem run (N:Nat) (o0:Orc E R) (a0:List Int) (a1:Int):runF T (G N) live [] Try.f48 code (sp N) o0 (a0,a1,())=m0 N a0 a1 (fun a=>o0 loop2 (K2 N o0) (St2 a0 a1 a)):=by kernel_rfl
theorem body2_0 (N:Nat) (o0:Orc E R) (o1:Orc E R) (q1:St E→Option R) (a0:List Int) (a1:Int) (v2:Int) (v3:Int):runA T (G N) live [] o1 body2 (St2 a0 a1 (v2,v3)) (kloop [0,1,7,8] q1 (K2 N o0))=step2 N a0 a1 (fun a=>q1 (St2 a0 a1 a)) (v2,v3):=by kernel_rfl
theorem lp2_eq (N:Nat) (a0:List Int) (a1:Int) (a:Int×Int):(orc T (G N) live [] N 2) loop2 (K2 N (orc T (G N) live [] N 2)) (St2 a0 a1 a)=lp2 N a0 a1 a:=
 (orc_loop (b:=body2) (live:=[0,1,7,8]) (by kernel_rfl)).trans (iter_eq (St2 a0 a1) _ _ (fun q1 a=>by
  have hc:=congrFun (congrFun (rfl:(step2 N a0 a1)=(step2 N a0 a1)) (fun a=>q1 (St2 a0 a1 a))) a
  obtain ⟨u0,u1⟩:=a
  exact (body2_0 N (orc T (G N) live [] N 2) (orc T (G N) live [] N 1) q1 a0 a1 u0 u1).trans hc) N a)
theorem G_ok (N:Nat):GamOK Try.prog (G N):=gam_ok (trivial)
theorem snd (N:Nat):Sound Try.prog E 48 (sp N):=
 Mir.sound T_OK (G_ok N) mixed Try.func48 (c:=code) (by kernel_rfl) (by kernel_rfl) (sp N) (Nat.le_of_ble_eq_true (by kernel_rfl)) live [] (by
  rintro ⟨a0,a1,_⟩ r h
  exact ⟨N,2,((run N _ a0 a1).trans (congrArg (m0 N a0 a1) (funext fun a=>lp2_eq N a0 a1 a))).trans h⟩)
end slices_Index_int_int
namespace slices_Contains_int_int
noncomputable def code:Code:=Try.f30.body.getD .skip
abbrev live:Live:=[]
noncomputable def G (N:Nat):Ctx E:=gam [(48,[],slices_Index_int_int.sp N)]
theorem run (N:Nat) (o0:Orc E R) (a0:List Int) (a1:Int):runF T (G N) live [] Try.f30 code (sp N) o0 (a0,a1,())=m N a0 a1:=by kernel_rfl
theorem G_ok (N:Nat):GamOK Try.prog (G N):=gam_ok (⟨slices_Index_int_int.snd N,trivial⟩)
theorem snd (N:Nat):Sound Try.prog E 30 (sp N):=
 Mir.sound T_OK (G_ok N) mixed Try.func30 (c:=code) (by kernel_rfl) (by kernel_rfl) (sp N) (Nat.le_of_ble_eq_true (by kernel_rfl)) live [] (by
  rintro ⟨a0,a1,_⟩ r h
  exact ⟨N,2,((run N _ a0 a1).trans rfl).trans h⟩)
end slices_Contains_int_int
namespace impl_configAllowed_1
noncomputable def code:Code:=Try.f32.body.getD .skip
abbrev live:Live:=[]
noncomputable def G (N:Nat):Ctx E:=gam []
theorem run (N:Nat) (o0:Orc E R) (a0:Entry):runF T (G N) live [] Try.f32 code (sp N) o0 (a0,())=m N a0:=by kernel_rfl
theorem G_ok (N:Nat):GamOK Try.prog (G N):=gam_ok (trivial)
theorem snd (N:Nat):Sound Try.prog E 32 (sp N):=
 Mir.sound T_OK (G_ok N) mixed Try.func32 (c:=code) (by kernel_rfl) (by kernel_rfl) (sp N) (Nat.le_of_ble_eq_true (by kernel_rfl)) live [] (by
  rintro ⟨a0,_⟩ r h
  exact ⟨N,2,((run N _ a0).trans rfl).trans h⟩)
end impl_configAllowed_1
namespace slices_IndexFunc_impl_Entry_impl_Entry__impl_configAllowed_1
noncomputable def code:Code:=Try.f49.body.getD .skip
abbrev live:Live:=[(2,[0,1,7,8])]
noncomputable def G (N:Nat):Ctx E:=gam [(32,[],impl_configAllowed_1.sp N)]
noncomputable def loop2:Code:=codeAt code [1,0,1,0]
noncomputable def body2:Code:=codeAt loop2 [0]
noncomputable def K2 (N:Nat) (o0:Orc E R):KT E R:=kAt T (G N) live [] o0 code [1,0,1,0] (kfin T Try.f49 (sp N))
noncomputable def St2 (a0:List Entry):(Int×Int)→St E
 | (v1,v2)=>{ ρ:=[(0,.c (.at (.ro 35 (.st 35) a0))),(1,.clo 32 []),(7,.c (.at (.int .i64 v1))),(8,.c (.at (.int .i64 v2)))],H:=[],nx:=0,n:=19,pin:=[] }
theorem run (N:Nat) (o0:Orc E R) (a0:List Entry):runF T (G N) live [] Try.f49 code (sp N) o0 (a0,(),())=m0 N a0 (fun a=>o0 loop2 (K2 N o0) (St2 a0 a)):=by kernel_rfl
theorem body2_0 (N:Nat) (o0:Orc E R) (o1:Orc E R) (q1:St E→Option R) (a0:List Entry) (v1:Int) (v2:Int):runA T (G N) live [] o1 body2 (St2 a0 (v1,v2)) (kloop [0,1,7,8] q1 (K2 N o0))=step2 N a0 (fun a=>q1 (St2 a0 a)) (v1,v2):=by kernel_rfl
theorem lp2_eq (N:Nat) (a0:List Entry) (a:Int×Int):(orc T (G N) live [] N 2) loop2 (K2 N (orc T (G N) live [] N 2)) (St2 a0 a)=lp2 N a0 a:=
 (orc_loop (b:=body2) (live:=[0,1,7,8]) (by kernel_rfl)).trans (iter_eq (St2 a0) _ _ (fun q1 a=>by
  have hc:=congrFun (congrFun (rfl:(step2 N a0)=(step2 N a0)) (fun a=>q1 (St2 a0 a))) a
  obtain ⟨u0,u1⟩:=a
  exact (body2_0 N (orc T (G N) live [] N 2) (orc T (G N) live [] N 1) q1 a0 u0 u1).trans hc) N a)
theorem G_ok (N:Nat):GamOK Try.prog (G N):=gam_ok (⟨impl_configAllowed_1.snd N,trivial⟩)
theorem snd (N:Nat):Sound Try.prog E 49 (sp N):=
 Mir.sound T_OK (G_ok N) mixed Try.func49 (c:=code) (by kernel_rfl) (by kernel_rfl) (sp N) (Nat.le_of_ble_eq_true (by kernel_rfl)) live [] (by
  rintro ⟨a0,_,_⟩ r h
  exact ⟨N,2,((run N _ a0).trans (congrArg (m0 N a0) (funext fun a=>lp2_eq N a0 a))).trans h⟩)
end slices_IndexFunc_impl_Entry_impl_Entry__impl_configAllowed_1
namespace slices_ContainsFunc_impl_Entry_impl_Entry__impl_configAllowed_1
noncomputable def code:Code:=Try.f31.body.getD .skip
abbrev live:Live:=[]
noncomputable def G (N:Nat):Ctx E:=gam [(49,[32],slices_IndexFunc_impl_Entry_impl_Entry__impl_configAllowed_1.sp N)]
theorem run (N:Nat) (o0:Orc E R) (a0:List Entry):runF T (G N) live [] Try.f31 code (sp N) o0 (a0,(),())=m N a0:=by kernel_rfl
theorem G_ok (N:Nat):GamOK Try.prog (G N):=gam_ok (⟨slices_IndexFunc_impl_Entry_impl_Entry__impl_configAllowed_1.snd N,trivial⟩)
theorem snd (N:Nat):Sound Try.prog E 31 (sp N):=
 Mir.sound T_OK (G_ok N) mixed Try.func31 (c:=code) (by kernel_rfl) (by kernel_rfl) (sp N) (Nat.le_of_ble_eq_true (by kernel_rfl)) live [] (by
  rintro ⟨a0,_,_⟩ r h
  exact ⟨N,2,((run N _ a0).trans rfl).trans h⟩)
end slices_ContainsFunc_impl_Entry_impl_Entry__impl_configAllowed_1
namespace impl_Node_termAt
noncomputable def code:Code:=Try.f33.body.getD .skip
abbrev live:Live:=[]
noncomputable def G (N:Nat):Ctx E:=gam []
theorem run (N:Nat) (o0:Orc E R) (a0:Node) (a1:Int):runF T (G N) live [] Try.f33 code (sp N) o0 (a0,a1,())=m N a0 a1:=by kernel_rfl
theorem G_ok (N:Nat):GamOK Try.prog (G N):=gam_ok (trivial)
theorem snd (N:Nat):Sound Try.prog E 33 (sp N):=
 Mir.sound T_OK (G_ok N) mixed Try.func33 (c:=code) (by kernel_rfl) (by kernel_rfl) (sp N) (Nat.le_of_ble_eq_true (by kernel_rfl)) live [] (by
  rintro ⟨a0,a1,_⟩ r h
  exact ⟨N,2,((run N _ a0 a1).trans rfl).trans h⟩)
end impl_Node_termAt
namespace impl_configAllowed
noncomputable def code:Code:=Try.f16.body.getD .skip
abbrev live:Live:=[(3,[1,2,5,6,11])]
noncomputable def G (N:Nat):Ctx E:=gam [(20,[],impl_Node_members.sp N),(30,[],slices_Contains_int_int.sp N),(31,[32],slices_ContainsFunc_impl_Entry_impl_Entry__impl_configAllowed_1.sp N),(33,[],impl_Node_termAt.sp N)]
noncomputable def loop3:Code:=codeAt code [1,1,0,1,0]
noncomputable def body3:Code:=codeAt loop3 [0]
noncomputable def K3 (N:Nat) (o0:Orc E R):KT E R:=kAt T (G N) live [] o0 code [1,1,0,1,0] (kfin T Try.f16 (sp N))
noncomputable def St3 (a0:Node) (a1:List Int):(Int×Int×(List Int))→St E
 | (v1,v2,v16)=>{ ρ:=[(1,.c (.at (.ro 3 (.int .i64) a1))),(2,.c (.at (.ptr 0 0))),(5,.c (.at (.own 1))),(6,.c (.at (.int .i64 v1))),(11,.c (.at (.int .i64 v2)))],H:=[(0,.box 26 [.int .i64 a0.Id,.int .i64 a0.Term,.int .i64 a0.Vote,.ro 35 (.st 35) a0.Log,.ro 3 (.int .i64) a0.Start,.int .i64 a0.Role,.ro 3 (.int .i64) a0.Votes,.ro 3 (.int .i64) a0.Next,.ro 3 (.int .i64) a0.Match,.int .i64 a0.Commit,.int .i64 a0.Elapsed,.int .i64 a0.Wait,.bool a0.Up]),(1,.row 3 (.int .i64) v16 false)],nx:=2,n:=55,pin:=[] }
theorem run (N:Nat) (o0:Orc E R) (a0:Node) (a1:List Int):runF T (G N) live [] Try.f16 code (sp N) o0 (a0,a1,())=m0 N a0 a1 (fun a=>o0 loop3 (K3 N o0) (St3 a0 a1 a)):=by kernel_rfl
theorem body3_0 (N:Nat) (o0:Orc E R) (o1:Orc E R) (q1:St E→Option R) (a0:Node) (a1:List Int) (v1:Int) (v2:Int) (v16:List Int):runA T (G N) live [] o1 body3 (St3 a0 a1 (v1,v2,v16)) (kloop [1,2,5,6,11] q1 (K3 N o0))=step3 N a0 a1 (fun a=>q1 (St3 a0 a1 a)) (v1,v2,v16):=by kernel_rfl
theorem lp3_eq (N:Nat) (a0:Node) (a1:List Int) (a:Int×Int×(List Int)):(orc T (G N) live [] N 2) loop3 (K3 N (orc T (G N) live [] N 2)) (St3 a0 a1 a)=lp3 N a0 a1 a:=
 (orc_loop (b:=body3) (live:=[1,2,5,6,11]) (by kernel_rfl)).trans (iter_eq (St3 a0 a1) _ _ (fun q1 a=>by
  have hc:=congrFun (congrFun (rfl:(step3 N a0 a1)=(step3 N a0 a1)) (fun a=>q1 (St3 a0 a1 a))) a
  obtain ⟨u0,u1,u2⟩:=a
  exact (body3_0 N (orc T (G N) live [] N 2) (orc T (G N) live [] N 1) q1 a0 a1 u0 u1 u2).trans hc) N a)
theorem G_ok (N:Nat):GamOK Try.prog (G N):=gam_ok (⟨impl_Node_members.snd N,slices_Contains_int_int.snd N,slices_ContainsFunc_impl_Entry_impl_Entry__impl_configAllowed_1.snd N,impl_Node_termAt.snd N,trivial⟩)
theorem snd (N:Nat):Sound Try.prog E 16 (sp N):=
 Mir.sound T_OK (G_ok N) mixed Try.func16 (c:=code) (by kernel_rfl) (by kernel_rfl) (sp N) (Nat.le_of_ble_eq_true (by kernel_rfl)) live [] (by
  rintro ⟨a0,a1,_⟩ r h
  exact ⟨N,2,((run N _ a0 a1).trans (congrArg (m0 N a0 a1) (funext fun a=>lp3_eq N a0 a1 a))).trans h⟩)
end impl_configAllowed
namespace impl_ConfigAllowed
noncomputable def code:Code:=Try.f6.body.getD .skip
abbrev live:Live:=[]
noncomputable def G (N:Nat):Ctx E:=gam [(13,[],impl_isList_int.sp N),(14,[],impl_NodeOK.sp N),(15,[],impl_membersOK.sp N),(16,[],impl_configAllowed.sp N)]
theorem run (N:Nat) (o0:Orc E R) (a0:Node) (a1:List Int):runF T (G N) live [] Try.f6 code (sp N) o0 (a0,a1,())=m N a0 a1:=by kernel_rfl
theorem G_ok (N:Nat):GamOK Try.prog (G N):=gam_ok (⟨impl_isList_int.snd N,impl_NodeOK.snd N,impl_membersOK.snd N,impl_configAllowed.snd N,trivial⟩)
theorem snd (N:Nat):Sound Try.prog E 6 (sp N):=
 Mir.sound T_OK (G_ok N) mixed Try.func6 (c:=code) (by kernel_rfl) (by kernel_rfl) (sp N) (Nat.le_of_ble_eq_true (by kernel_rfl)) live [] (by
  rintro ⟨a0,a1,_⟩ r h
  exact ⟨N,2,((run N _ a0 a1).trans rfl).trans h⟩)
end impl_ConfigAllowed
namespace spec_l02Entry
noncomputable def code:Code:=Try.f50.body.getD .skip
abbrev live:Live:=[]
noncomputable def G (N:Nat):Ctx E:=gam [(34,[],spec_l01In.sp N),(41,[],spec_l02Members.sp N)]
theorem run (N:Nat) (o0:Orc E R) (a0:Entry):runF T (G N) live [] Try.f50 code (sp N) o0 (a0,())=m N a0:=by kernel_rfl
theorem G_ok (N:Nat):GamOK Try.prog (G N):=gam_ok (⟨spec_l01In.snd N,spec_l02Members.snd N,trivial⟩)
theorem snd (N:Nat):Sound Try.prog E 50 (sp N):=
 Mir.sound T_OK (G_ok N) mixed Try.func50 (c:=code) (by kernel_rfl) (by kernel_rfl) (sp N) (Nat.le_of_ble_eq_true (by kernel_rfl)) live [] (by
  rintro ⟨a0,_⟩ r h
  exact ⟨N,2,((run N _ a0).trans rfl).trans h⟩)
end spec_l02Entry
namespace spec_StateOK
noncomputable def code:Code:=Try.f35.body.getD .skip
abbrev live:Live:=[(4,[1,3])]
noncomputable def G (N:Nat):Ctx E:=gam [(34,[],spec_l01In.sp N),(50,[],spec_l02Entry.sp N)]
noncomputable def loop4:Code:=codeAt code [1,1,0,1,0]
noncomputable def body4:Code:=codeAt loop4 [0]
noncomputable def K4 (N:Nat) (o0:Orc E R):KT E R:=kAt T (G N) live [] o0 code [1,1,0,1,0] (kfin T Try.f35 (sp N))
noncomputable def St4 (a0:State):Int→St E
 | v0=>{ ρ:=[(1,.c (.at (.ptr 0 0))),(3,.c (.at (.int .i64 v0)))],H:=[(0,.box 58 [.int .i64 a0.Term,.int .i64 a0.Vote,.ro 35 (.st 35) a0.Log])],nx:=1,n:=65,pin:=[] }
theorem run (N:Nat) (o0:Orc E R) (a0:State):runF T (G N) live [] Try.f35 code (sp N) o0 (a0,())=m0 N a0 (fun a=>o0 loop4 (K4 N o0) (St4 a0 a)):=by kernel_rfl
theorem body4_0 (N:Nat) (o0:Orc E R) (o1:Orc E R) (q1:St E→Option R) (a0:State) (v0:Int):runA T (G N) live [] o1 body4 (St4 a0 v0) (kloop [1,3] q1 (K4 N o0))=step4 N a0 (fun a=>q1 (St4 a0 a)) v0:=by kernel_rfl
theorem lp4_eq (N:Nat) (a0:State) (a:Int):(orc T (G N) live [] N 2) loop4 (K4 N (orc T (G N) live [] N 2)) (St4 a0 a)=lp4 N a0 a:=
 (orc_loop (b:=body4) (live:=[1,3]) (by kernel_rfl)).trans (iter_eq (St4 a0) _ _ (fun q1 a=>by
  have hc:=congrFun (congrFun (rfl:(step4 N a0)=(step4 N a0)) (fun a=>q1 (St4 a0 a))) a
  exact (body4_0 N (orc T (G N) live [] N 2) (orc T (G N) live [] N 1) q1 a0 a).trans hc) N a)
theorem G_ok (N:Nat):GamOK Try.prog (G N):=gam_ok (⟨spec_l01In.snd N,spec_l02Entry.snd N,trivial⟩)
theorem snd (N:Nat):Sound Try.prog E 35 (sp N):=
 Mir.sound T_OK (G_ok N) mixed Try.func35 (c:=code) (by kernel_rfl) (by kernel_rfl) (sp N) (Nat.le_of_ble_eq_true (by kernel_rfl)) live [] (by
  rintro ⟨a0,_⟩ r h
  exact ⟨N,2,((run N _ a0).trans (congrArg (m0 N a0) (funext fun a=>lp4_eq N a0 a))).trans h⟩)
end spec_StateOK
namespace spec_l10Ids
noncomputable def code:Code:=Try.f18.body.getD .skip
abbrev live:Live:=[(2,[0,3])]
noncomputable def G (N:Nat):Ctx E:=gam [(34,[],spec_l01In.sp N)]
noncomputable def loop2:Code:=codeAt code [1,0,1,0]
noncomputable def body2:Code:=codeAt loop2 [0]
noncomputable def K2 (N:Nat) (o0:Orc E R):KT E R:=kAt T (G N) live [] o0 code [1,0,1,0] (kfin T Try.f18 (sp N))
noncomputable def St2 (a0:List Int):Int→St E
 | v1=>{ ρ:=[(0,.c (.at (.ro 3 (.int .i64) a0))),(3,.c (.at (.int .i64 v1)))],H:=[],nx:=0,n:=32,pin:=[] }
theorem run (N:Nat) (o0:Orc E R) (a0:List Int):runF T (G N) live [] Try.f18 code (sp N) o0 (a0,())=m0 N a0 (fun a=>o0 loop2 (K2 N o0) (St2 a0 a)):=by kernel_rfl
theorem body2_0 (N:Nat) (o0:Orc E R) (o1:Orc E R) (q1:St E→Option R) (a0:List Int) (v1:Int):runA T (G N) live [] o1 body2 (St2 a0 v1) (kloop [0,3] q1 (K2 N o0))=step2 N a0 (fun a=>q1 (St2 a0 a)) v1:=by kernel_rfl
theorem lp2_eq (N:Nat) (a0:List Int) (a:Int):(orc T (G N) live [] N 2) loop2 (K2 N (orc T (G N) live [] N 2)) (St2 a0 a)=lp2 N a0 a:=
 (orc_loop (b:=body2) (live:=[0,3]) (by kernel_rfl)).trans (iter_eq (St2 a0) _ _ (fun q1 a=>by
  have hc:=congrFun (congrFun (rfl:(step2 N a0)=(step2 N a0)) (fun a=>q1 (St2 a0 a))) a
  exact (body2_0 N (orc T (G N) live [] N 2) (orc T (G N) live [] N 1) q1 a0 a).trans hc) N a)
theorem G_ok (N:Nat):GamOK Try.prog (G N):=gam_ok (⟨spec_l01In.snd N,trivial⟩)
theorem snd (N:Nat):Sound Try.prog E 18 (sp N):=
 Mir.sound T_OK (G_ok N) mixed Try.func18 (c:=code) (by kernel_rfl) (by kernel_rfl) (sp N) (Nat.le_of_ble_eq_true (by kernel_rfl)) live [] (by
  rintro ⟨a0,_⟩ r h
  exact ⟨N,2,((run N _ a0).trans (congrArg (m0 N a0) (funext fun a=>lp2_eq N a0 a))).trans h⟩)
end spec_l10Ids
namespace spec_NodeOK
noncomputable def code:Code:=Try.f17.body.getD .skip
abbrev live:Live:=[(6,[1,3])]
noncomputable def G (N:Nat):Ctx E:=gam [(34,[],spec_l01In.sp N),(35,[],spec_StateOK.sp N),(18,[],spec_l10Ids.sp N)]
noncomputable def loop6:Code:=codeAt code [1,1,1,0,1,0]
noncomputable def body6:Code:=codeAt loop6 [0]
noncomputable def K6 (N:Nat) (o0:Orc E R):KT E R:=kAt T (G N) live [] o0 code [1,1,1,0,1,0] (kfin T Try.f17 (sp N))
noncomputable def St6 (a0:Node):Int→St E
 | v0=>{ ρ:=[(1,.c (.at (.ptr 0 0))),(3,.c (.at (.int .i64 v0)))],H:=[(0,.box 26 [.int .i64 a0.Id,.int .i64 a0.Term,.int .i64 a0.Vote,.ro 35 (.st 35) a0.Log,.ro 3 (.int .i64) a0.Start,.int .i64 a0.Role,.ro 3 (.int .i64) a0.Votes,.ro 3 (.int .i64) a0.Next,.ro 3 (.int .i64) a0.Match,.int .i64 a0.Commit,.int .i64 a0.Elapsed,.int .i64 a0.Wait,.bool a0.Up])],nx:=1,n:=111,pin:=[] }
theorem run (N:Nat) (o0:Orc E R) (a0:Node):runF T (G N) live [] Try.f17 code (sp N) o0 (a0,())=m0 N a0 (fun a=>o0 loop6 (K6 N o0) (St6 a0 a)):=by kernel_rfl
theorem body6_0 (N:Nat) (o0:Orc E R) (o1:Orc E R) (q1:St E→Option R) (a0:Node) (v0:Int):runA T (G N) live [] o1 body6 (St6 a0 v0) (kloop [1,3] q1 (K6 N o0))=step6 N a0 (fun a=>q1 (St6 a0 a)) v0:=by kernel_rfl
theorem lp6_eq (N:Nat) (a0:Node) (a:Int):(orc T (G N) live [] N 2) loop6 (K6 N (orc T (G N) live [] N 2)) (St6 a0 a)=lp6 N a0 a:=
 (orc_loop (b:=body6) (live:=[1,3]) (by kernel_rfl)).trans (iter_eq (St6 a0) _ _ (fun q1 a=>by
  have hc:=congrFun (congrFun (rfl:(step6 N a0)=(step6 N a0)) (fun a=>q1 (St6 a0 a))) a
  exact (body6_0 N (orc T (G N) live [] N 2) (orc T (G N) live [] N 1) q1 a0 a).trans hc) N a)
theorem G_ok (N:Nat):GamOK Try.prog (G N):=gam_ok (⟨spec_l01In.snd N,spec_StateOK.snd N,spec_l10Ids.snd N,trivial⟩)
theorem snd (N:Nat):Sound Try.prog E 17 (sp N):=
 Mir.sound T_OK (G_ok N) mixed Try.func17 (c:=code) (by kernel_rfl) (by kernel_rfl) (sp N) (Nat.le_of_ble_eq_true (by kernel_rfl)) live [] (by
  rintro ⟨a0,_⟩ r h
  exact ⟨N,2,((run N _ a0).trans (congrArg (m0 N a0) (funext fun a=>lp6_eq N a0 a))).trans h⟩)
end spec_NodeOK
namespace spec_ConfigAllowed
noncomputable def code:Code:=Try.f7.body.getD .skip
abbrev live:Live:=[]
noncomputable def G (N:Nat):Ctx E:=gam [(17,[],spec_NodeOK.sp N),(18,[],spec_l10Ids.sp N),(19,[],spec_l11Allowed.sp N)]
theorem run (N:Nat) (o0:Orc E R) (a0:Node) (a1:List Int):runF T (G N) live [] Try.f7 code (sp N) o0 (a0,a1,())=m N a0 a1:=by kernel_rfl
theorem G_ok (N:Nat):GamOK Try.prog (G N):=gam_ok (⟨spec_NodeOK.snd N,spec_l10Ids.snd N,spec_l11Allowed.snd N,trivial⟩)
theorem snd (N:Nat):Sound Try.prog E 7 (sp N):=
 Mir.sound T_OK (G_ok N) mixed Try.func7 (c:=code) (by kernel_rfl) (by kernel_rfl) (sp N) (Nat.le_of_ble_eq_true (by kernel_rfl)) live [] (by
  rintro ⟨a0,a1,_⟩ r h
  exact ⟨N,2,((run N _ a0 a1).trans rfl).trans h⟩)
end spec_ConfigAllowed
namespace impl_MembersOf
noncomputable def code:Code:=Try.f8.body.getD .skip
abbrev live:Live:=[]
noncomputable def G (N:Nat):Ctx E:=gam [(14,[],impl_NodeOK.sp N),(20,[],impl_Node_members.sp N)]
theorem run (N:Nat) (o0:Orc E R) (a0:Node):runF T (G N) live [] Try.f8 code (sp N) o0 (a0,())=m N a0:=by kernel_rfl
theorem G_ok (N:Nat):GamOK Try.prog (G N):=gam_ok (⟨impl_NodeOK.snd N,impl_Node_members.snd N,trivial⟩)
theorem snd (N:Nat):Sound Try.prog E 8 (sp N):=
 Mir.sound T_OK (G_ok N) mixed Try.func8 (c:=code) (by kernel_rfl) (by kernel_rfl) (sp N) (Nat.le_of_ble_eq_true (by kernel_rfl)) live [] (by
  rintro ⟨a0,_⟩ r h
  exact ⟨N,2,((run N _ a0).trans rfl).trans h⟩)
end impl_MembersOf
namespace spec_MembersOf
noncomputable def code:Code:=Try.f9.body.getD .skip
abbrev live:Live:=[]
noncomputable def G (N:Nat):Ctx E:=gam [(17,[],spec_NodeOK.sp N),(21,[],spec_l10Members_.sp N)]
theorem run (N:Nat) (o0:Orc E R) (a0:Node):runF T (G N) live [] Try.f9 code (sp N) o0 (a0,())=m N a0:=by kernel_rfl
theorem G_ok (N:Nat):GamOK Try.prog (G N):=gam_ok (⟨spec_NodeOK.snd N,spec_l10Members_.snd N,trivial⟩)
theorem snd (N:Nat):Sound Try.prog E 9 (sp N):=
 Mir.sound T_OK (G_ok N) mixed Try.func9 (c:=code) (by kernel_rfl) (by kernel_rfl) (sp N) (Nat.le_of_ble_eq_true (by kernel_rfl)) live [] (by
  rintro ⟨a0,_⟩ r h
  exact ⟨N,2,((run N _ a0).trans rfl).trans h⟩)
end spec_MembersOf
namespace laws_sameInts
noncomputable def code:Code:=Try.f10.body.getD .skip
abbrev live:Live:=[(4,[0,1,5])]
noncomputable def G (N:Nat):Ctx E:=gam []
noncomputable def loop4:Code:=codeAt code [1,1,0,1,0]
noncomputable def body4:Code:=codeAt loop4 [0]
noncomputable def K4 (N:Nat) (o0:Orc E R):KT E R:=kAt T (G N) live [] o0 code [1,1,0,1,0] (kfin T Try.f10 (sp N))
noncomputable def St4 (a0:List Int) (a1:List Int):Int→St E
 | v2=>{ ρ:=[(0,.c (.at (.ro 3 (.int .i64) a0))),(1,.c (.at (.ro 3 (.int .i64) a1))),(5,.c (.at (.int .i64 v2)))],H:=[],nx:=0,n:=26,pin:=[] }
theorem run (N:Nat) (o0:Orc E R) (a0:List Int) (a1:List Int):runF T (G N) live [] Try.f10 code (sp N) o0 (a0,a1,())=m0 N a0 a1 (fun a=>o0 loop4 (K4 N o0) (St4 a0 a1 a)):=by kernel_rfl
theorem body4_0 (N:Nat) (o0:Orc E R) (o1:Orc E R) (q1:St E→Option R) (a0:List Int) (a1:List Int) (v2:Int):runA T (G N) live [] o1 body4 (St4 a0 a1 v2) (kloop [0,1,5] q1 (K4 N o0))=step4 N a0 a1 (fun a=>q1 (St4 a0 a1 a)) v2:=by kernel_rfl
theorem lp4_eq (N:Nat) (a0:List Int) (a1:List Int) (a:Int):(orc T (G N) live [] N 2) loop4 (K4 N (orc T (G N) live [] N 2)) (St4 a0 a1 a)=lp4 N a0 a1 a:=
 (orc_loop (b:=body4) (live:=[0,1,5]) (by kernel_rfl)).trans (iter_eq (St4 a0 a1) _ _ (fun q1 a=>by
  have hc:=congrFun (congrFun (rfl:(step4 N a0 a1)=(step4 N a0 a1)) (fun a=>q1 (St4 a0 a1 a))) a
  exact (body4_0 N (orc T (G N) live [] N 2) (orc T (G N) live [] N 1) q1 a0 a1 a).trans hc) N a)
theorem G_ok (N:Nat):GamOK Try.prog (G N):=gam_ok (trivial)
theorem snd (N:Nat):Sound Try.prog E 10 (sp N):=
 Mir.sound T_OK (G_ok N) mixed Try.func10 (c:=code) (by kernel_rfl) (by kernel_rfl) (sp N) (Nat.le_of_ble_eq_true (by kernel_rfl)) live [] (by
  rintro ⟨a0,a1,_⟩ r h
  exact ⟨N,2,((run N _ a0 a1).trans (congrArg (m0 N a0 a1) (funext fun a=>lp4_eq N a0 a1 a))).trans h⟩)
end laws_sameInts
end Mir.Y
