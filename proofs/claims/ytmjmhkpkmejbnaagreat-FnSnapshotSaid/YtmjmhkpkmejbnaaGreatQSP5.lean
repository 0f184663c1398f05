/- The models are what the functions do. -/
import Derived.Test.YtmjmhkpkmejbnaaGreatQSP4
import Derived.Test.YtmjmhkpkmejbnaaGreatQSApT
namespace Mir.Y
set_option linter.unusedVariables false
set_option maxRecDepth 10000
open Go Go.Proofs Mir
set_option linter.unusedSectionVars false
variable [UU]
section
variable {W:World} {F F':Nat→Prop} {i j:UU}
theorem shStr_u {e:Nat} {xs:List ByteArray} {v:Value} {fp:List Nat} (h:ShA (@E i) W F e .str xs v fp):ShA (@E j) W F' e .str xs v fp:=by
 rcases h with h | ⟨g,cap,cur,d,h1,h2,h3,h4,h5,h6,h7,h8⟩
 ·exact .inl h
 ·refine .inr ⟨g,cap,cur,d,h1,h2,h3,h4,h5,h6,h7,fun k hk=>?_⟩
  have:=h8 k hk
  cases d<;>exact this
theorem shPr_u {e:Nat} {xs:List pairOf} {v:Value} {fp:List Nat} (h:ShA (@E i) W F e (.st 98) xs v fp):ShA (@E j) W F' e (.st 98) xs v fp:=by
 rcases h with h | ⟨g,cap,cur,d,h1,h2,h3,h4,h5,h6,h7,h8⟩
 ·exact .inl h
 ·refine .inr ⟨g,cap,cur,d,h1,h2,h3,h4,h5,h6,h7,fun k hk=>?_⟩
  have:=h8 k hk
  cases d<;>exact this
theorem roCm_u {x:Command} {v:Value} (h:RoV (@E i) W F (.st 31) x v):RoV (@E j) W F' (.st 31) x v:=by
 obtain ⟨vs,d,hv,h⟩:=h
 refine ⟨vs,d,hv,?_⟩
 cases d<;>exact h
theorem ownRe_u {x:Reply} {v:Value} {fp:List Nat} (h:OwnE (@E i) W F false (.st 27) x v fp):OwnE (@E j) W F' false (.st 27) x v fp:=h
theorem write_calls (N:Nat) (W:World) (g:Nat) (v0 v1:Value) (A:Option Addr) (n c:Nat) (lv:List ByteArray) (pr:List pairOf) (ss:List Session) (f0 f1:List Nat) (cm:Command) (r:Reply) (b':books)
  (hg:W.heap[g]? = some (.cells #[v0,v1,.slice A n c] 93 (0,0))) (h0:ShA (@E i) W F 9 .str lv v0 f0) (h1:ShA (@E i) W F 98 (.st 98) pr v1 f1) (hnd:(g::(f0++f1)).Nodup)
  (hm:impl_books_write.m N (books.mk lv pr ss) cm=some (r,b')) :
  Calls Tryz.prog 68 #[.pointer (some ⟨g,0,none⟩),.agg #[.int .i64 cm.Kind,.int .i64 cm.Session,.int .i64 cm.Seq,.string cm.Key,.string cm.Value]] W fun e W'=>
   e = .returned (.agg #[.int .i64 r.Kind,.int .i64 r.Place,.string r.Value])∧W.heap.size≤W'.heap.size∧(W'.os=W.os∧W'.tape=W.tape∧W'.output=W.output)∧(∀b,b<W.heap.size→b∉g::(f0++f1)→W'.heap[b]? = W.heap[b]?)∧
   ∃v0' v1' f0' f1',W'.heap[g]? = some (.cells #[v0',v1',.slice A n c] 93 (0,0))∧ShA (@E i) W' F 9 .str b'.leaves v0' f0'∧ShA (@E i) W' F 98 (.st 98) b'.pairs v1' f1'∧(g::(f0'++f1')).Nodup∧∀b∈f0'++f1',b∈g::(f0++f1)∨W.heap.size≤b:=by
 refine ((@impl_books_write.snd ⟨(A,n,c)⟩ N).2 W (fun _=>False) (books.mk lv pr ss,cm,()) (r,b') [.pointer (some ⟨g,0,none⟩),.agg #[.int .i64 cm.Kind,.int .i64 cm.Session,.int .i64 cm.Seq,.string cm.Key,.string cm.Value]] (g::(f0++f1)) hm ?_ hnd (fun b _ h=>h) (fun b h=>h.elim)).mono ?_
 ·refine ⟨_,_,g::(f0++f1),[],rfl,(List.append_nil _).symm,?_,⟨_,[],[],[],rfl,rfl,⟨⟨[.int .i64 cm.Kind,.int .i64 cm.Session,.int .i64 cm.Seq,.string cm.Key,.string cm.Value],0,rfl,⟨_,_,rfl,rfl,_,_,rfl,rfl,_,_,rfl,rfl,_,_,rfl,rfl,_,_,rfl,rfl,rfl⟩⟩,rfl⟩,rfl,rfl⟩⟩
  refine ⟨g,[v0,v1,.slice A n c],f0++f1,rfl,hg,?_,rfl⟩
  exact ⟨v0,_,f0,f1,rfl,rfl,shStr_u h0,v1,_,f1,[],rfl,(List.append_nil _).symm,shPr_u h1,_,[],[],[],rfl,rfl,⟨rfl,rfl⟩,rfl,rfl⟩
 ·rintro e W' ⟨v,rfl,hl⟩
  obtain ⟨F'',vs,fpR,fpO,rfl,hFF,hF',hres,hout,hnd',hfree⟩:=hl.ex
  obtain ⟨w,q1,g1,g2,rfl,rfl,hr,rfl,rfl⟩:=hres
  obtain ⟨ws,rfl,hr⟩:=hr
  obtain ⟨y0,z0,p0,p1,rfl,rfl,⟨rfl,rfl⟩,y1,z1,p2,p3,rfl,rfl,⟨rfl,rfl⟩,y2,z2,p4,p5,rfl,rfl,⟨rfl,rfl⟩,rfl,rfl⟩:=hr
  obtain ⟨w,q1,g1,g2,hw,rfl,hb,hrest⟩:=hout
  cases hw
  obtain ⟨g',vs,f,hv,hheap,hown,rfl⟩:=hb
  cases hv
  obtain ⟨w0,r0,a0,a1,rfl,rfl,hA0,w1,r1,a2,a3,rfl,rfl,hA1,w2,r2,a4,a5,rfl,rfl,⟨rfl,rfl⟩,rfl,rfl⟩:=hown
  obtain ⟨w3,q3,e1,e2,hq,rfl,he,hr2,hr3⟩:=hrest
  obtain rfl:e1=[]:=he
  obtain rfl:e2=[]:=hr3
  simp only [List.append_nil,List.nil_append] at hnd' hfree
  refine ⟨rfl,hl.size,⟨hl.os,hl.tape,hl.output⟩,hl.block,w0,w1,a0,a2,hheap,shStr_u hA0,shPr_u hA1,hnd',fun b hb=>(hfree b (List.mem_cons_of_mem _ hb)).2⟩
theorem open_calls (N:Nat) (W:World) (g:Nat) (v0 v1 v2:Value) (lv:List ByteArray) (pr:List pairOf) (ss:List Session) (f0 f1 f2:List Nat) (x:Int) (r:Reply) (b':books) (hF:∀b,F b→b<W.heap.size) (hFd:∀b∈g::(f0++(f1++f2)),¬ F b)
  (hg:W.heap[g]? = some (.cells #[v0,v1,v2] 93 (0,0))) (h0:ShA (@E i) W F 9 .str lv v0 f0) (h1:ShA (@E i) W F 98 (.st 98) pr v1 f1) (h2:ShA (@E i) W F 72 (.st 72) ss v2 f2) (hnd:(g::(f0++(f1++f2))).Nodup)
  (hm:impl_books_open.m N (books.mk lv pr ss) x=some (r,b')) :
  Calls Tryz.prog 65 #[.pointer (some ⟨g,0,none⟩),.int .i64 x] W fun e W'=>
   e = .returned (.agg #[.int .i64 r.Kind,.int .i64 r.Place,.string r.Value])∧W.heap.size≤W'.heap.size∧(W'.os=W.os∧W'.tape=W.tape∧W'.output=W.output)∧(∀b,b<W.heap.size→b∉g::(f0++(f1++f2))→W'.heap[b]? = W.heap[b]?)∧
   ∃(F':Nat→Prop) (fp:List Nat),(∀b,F b→F' b)∧(∀b,F' b→(F b∨W.heap.size≤b∨b∈g::(f0++(f1++f2)))∧b<W'.heap.size)∧BoxV (@E i) W' F' false 93 93 b' (.pointer (some ⟨g,0,none⟩)) fp∧fp.Nodup∧(∀b∈fp,¬ F' b∧(b∈g::(f0++(f1++f2))∨W.heap.size≤b)):=by
 refine ((@impl_books_open.snd i N).2 W F (books.mk lv pr ss,x,()) (r,b') [.pointer (some ⟨g,0,none⟩),.int .i64 x] (g::(f0++(f1++f2))) hm ?_ hnd hFd hF).mono ?_
 ·refine ⟨_,_,g::(f0++(f1++f2)),[],rfl,(List.append_nil _).symm,?_,⟨_,[],[],[],rfl,rfl,⟨⟨0,rfl⟩,rfl⟩,rfl,rfl⟩⟩
  refine ⟨g,[v0,v1,v2],f0++(f1++f2),rfl,hg,?_,rfl⟩
  exact ⟨v0,_,f0,f1++f2,rfl,rfl,h0,v1,_,f1,f2,rfl,rfl,h1,v2,[],f2,[],rfl,(List.append_nil _).symm,h2,rfl,rfl⟩
 ·rintro e W' ⟨v,rfl,hl⟩
  obtain ⟨F'',vs,fpR,fpO,rfl,hFF,hF',hres,hout,hnd',hfree⟩:=hl.ex
  obtain ⟨w,q1,g1,g2,rfl,rfl,hr,rfl,rfl⟩:=hres
  obtain ⟨ws,rfl,hr⟩:=hr
  obtain ⟨y0,z0,p0,p1,rfl,rfl,⟨rfl,rfl⟩,y1,z1,p2,p3,rfl,rfl,⟨rfl,rfl⟩,y2,z2,p4,p5,rfl,rfl,⟨rfl,rfl⟩,rfl,rfl⟩:=hr
  obtain ⟨w,q1,g1,g2,hw,rfl,hb,hrest⟩:=hout
  cases hw
  obtain ⟨w3,q3,e1,e2,hq,rfl,he,hr2,hr3⟩:=hrest
  obtain rfl:e1=[]:=he
  obtain rfl:e2=[]:=hr3
  simp only [List.append_nil,List.nil_append] at hnd' hfree
  exact ⟨rfl,hl.size,⟨hl.os,hl.tape,hl.output⟩,hl.block,F'',g1,hFF,hF',hb,hnd',hfree⟩
theorem shut_calls (N:Nat) (W:World) (g:Nat) (v0 v1 v2:Value) (lv:List ByteArray) (pr:List pairOf) (ss:List Session) (f0 f1 f2:List Nat) (x:Int) (r:Reply) (b':books) (hF:∀b,F b→b<W.heap.size) (hFd:∀b∈g::(f0++(f1++f2)),¬ F b)
  (hg:W.heap[g]? = some (.cells #[v0,v1,v2] 93 (0,0))) (h0:ShA (@E i) W F 9 .str lv v0 f0) (h1:ShA (@E i) W F 98 (.st 98) pr v1 f1) (h2:ShA (@E i) W F 72 (.st 72) ss v2 f2) (hnd:(g::(f0++(f1++f2))).Nodup)
  (hm:impl_books_shut.m N (books.mk lv pr ss) x=some (r,b')) :
  Calls Tryz.prog 66 #[.pointer (some ⟨g,0,none⟩),.int .i64 x] W fun e W'=>
   e = .returned (.agg #[.int .i64 r.Kind,.int .i64 r.Place,.string r.Value])∧W.heap.size≤W'.heap.size∧(W'.os=W.os∧W'.tape=W.tape∧W'.output=W.output)∧(∀b,b<W.heap.size→b∉g::(f0++(f1++f2))→W'.heap[b]? = W.heap[b]?)∧
   ∃(F':Nat→Prop) (fp:List Nat),(∀b,F b→F' b)∧(∀b,F' b→(F b∨W.heap.size≤b∨b∈g::(f0++(f1++f2)))∧b<W'.heap.size)∧BoxV (@E i) W' F' false 93 93 b' (.pointer (some ⟨g,0,none⟩)) fp∧fp.Nodup∧(∀b∈fp,¬ F' b∧(b∈g::(f0++(f1++f2))∨W.heap.size≤b)):=by
 refine ((@impl_books_shut.snd i N).2 W F (books.mk lv pr ss,x,()) (r,b') [.pointer (some ⟨g,0,none⟩),.int .i64 x] (g::(f0++(f1++f2))) hm ?_ hnd hFd hF).mono ?_
 ·refine ⟨_,_,g::(f0++(f1++f2)),[],rfl,(List.append_nil _).symm,?_,⟨_,[],[],[],rfl,rfl,⟨⟨0,rfl⟩,rfl⟩,rfl,rfl⟩⟩
  refine ⟨g,[v0,v1,v2],f0++(f1++f2),rfl,hg,?_,rfl⟩
  exact ⟨v0,_,f0,f1++f2,rfl,rfl,h0,v1,_,f1,f2,rfl,rfl,h1,v2,[],f2,[],rfl,(List.append_nil _).symm,h2,rfl,rfl⟩
 ·rintro e W' ⟨v,rfl,hl⟩
  obtain ⟨F'',vs,fpR,fpO,rfl,hFF,hF',hres,hout,hnd',hfree⟩:=hl.ex
  obtain ⟨w,q1,g1,g2,rfl,rfl,hr,rfl,rfl⟩:=hres
  obtain ⟨ws,rfl,hr⟩:=hr
  obtain ⟨y0,z0,p0,p1,rfl,rfl,⟨rfl,rfl⟩,y1,z1,p2,p3,rfl,rfl,⟨rfl,rfl⟩,y2,z2,p4,p5,rfl,rfl,⟨rfl,rfl⟩,rfl,rfl⟩:=hr
  obtain ⟨w,q1,g1,g2,hw,rfl,hb,hrest⟩:=hout
  cases hw
  obtain ⟨w3,q3,e1,e2,hq,rfl,he,hr2,hr3⟩:=hrest
  obtain rfl:e1=[]:=he
  obtain rfl:e2=[]:=hr3
  simp only [List.append_nil,List.nil_append] at hnd' hfree
  exact ⟨rfl,hl.size,⟨hl.os,hl.tape,hl.output⟩,hl.block,F'',g1,hFF,hF',hb,hnd',hfree⟩
theorem sess_calls (N:Nat) (W:World) (g:Nat) (v0 v1 v2:Value) (lv:List ByteArray) (pr:List pairOf) (ss:List Session) (f0 f1 f2:List Nat) (x:Int) (r:Int×Bool)
  (hg:W.heap[g]? = some (.cells #[v0,v1,v2] 93 (0,0))) (h0:ShA (@E i) W F 9 .str lv v0 f0) (h1:ShA (@E i) W F 98 (.st 98) pr v1 f1) (h2:ShA (@E i) W F 72 (.st 72) ss v2 f2)
  (hm:impl_books_sessionAt_.m N (books.mk lv pr ss) x=some r) :
  Calls Tryz.prog 67 #[.pointer (some ⟨g,0,none⟩),.int .i64 x] W fun e W'=>e = .returned (tupV [.int .i64 r.1,.bool r.2])∧Go.RowKit.Below W.heap.size W W':=by
 have hgl:g<W.heap.size:=(Array.getElem?_eq_some_iff.1 hg).1
 obtain ⟨d0,h0⟩:=h0.deep rfl
 obtain ⟨d1,h1⟩:=h1.deep rfl
 obtain ⟨d2,h2⟩:=h2.deep rfl
 have k0:=RoA.more (E:=@E i) (fun _ h=>h) (fun _ _=>rfl) d0 (d0+d1+d2) (by omega) _ _ _ (DeepA.ro (F:=fun b=>b<W.heap.size) (fun k hk=>DeepA_lt h0 k hk) h0)
 have k1:=RoA.more (E:=@E i) (fun _ h=>h) (fun _ _=>rfl) d1 (d0+d1+d2) (by omega) _ _ _ (DeepA.ro (F:=fun b=>b<W.heap.size) (fun k hk=>DeepA_lt h1 k hk) h1)
 have k2:=RoA.more (E:=@E i) (fun _ h=>h) (fun _ _=>rfl) d2 (d0+d1+d2) (by omega) _ _ _ (DeepA.ro (F:=fun b=>b<W.heap.size) (fun k hk=>DeepA_lt h2 k hk) h2)
 refine ((@impl_books_sessionAt_.snd i N).2 W (fun b=>b<W.heap.size) (books.mk lv pr ss,x,()) r [.pointer (some ⟨g,0,none⟩),.int .i64 x] [] hm ?_ List.nodup_nil (fun b h=>by cases h) (fun b h=>h)).mono ?_
 ·refine ⟨_,_,[],[],rfl,rfl,⟨?_,rfl⟩,⟨_,[],[],[],rfl,rfl,⟨⟨0,rfl⟩,rfl⟩,rfl,rfl⟩⟩
  refine ⟨g,[v0,v1,v2],d0+d1+d2,rfl,⟨v0,_,rfl,k0,v1,_,rfl,k1,v2,_,rfl,k2,rfl⟩,fun _=>hgl,fun j hj=>?_⟩
  have hj:j<3:=hj
  rcases (show j=0∨j=1∨j=2 by omega) with rfl | rfl | rfl<;>simp [World.cell?,hg]
 ·rintro e W' ⟨v,rfl,hl⟩
  obtain ⟨F'',vs,fpR,fpO,rfl,hFF,hF',hres,hout,hnd',hfree⟩:=hl.ex
  obtain ⟨w,q1,g1,g2,rfl,rfl,⟨rfl,rfl⟩,w',q2,g3,g4,rfl,rfl,⟨rfl,rfl⟩,rfl,rfl⟩:=hres
  exact ⟨rfl,⟨hl.os,hl.tape,hl.output,hl.size,fun k hk=>hl.block k hk (by simp)⟩⟩
theorem sh_below {n:Nat} {W':World} {e:Nat} {t:Mir.Ty} {xs:List (Mir.Ty.D (@E i).S t)} {v:Value} {fp:List Nat} (hB:Go.RowKit.Below n W W') (hfp:∀b∈fp,b<n) (hF:∀b,F b→b<n) (h:ShA (@E i) W F e t xs v fp):ShA (@E i) W' F e t xs v fp:=by
 rcases h with h | ⟨g,cap,cur,d,h1,rfl,h3,h4,h5,h6,h7,h8⟩
 ·exact .inl h
 ·refine .inr ⟨g,cap,cur,d,h1,rfl,h3,?_,h5,h6,h7,fun k hk=>(h8 k hk).mono fun t x v=>RoA.more (fun _ h=>h) (fun b hb=>hB.block b (hF b hb)) d d (Nat.le_refl _) t x v⟩
  have hb:=hB.block g (hfp g (by simp))
  unfold CellsAt at h4 ⊢
  rw [hb]
  exact h4
end
namespace impl_books_apply
open Go.Proofs.Apl
theorem left_same (N:Nat) {W W':World} {F:Nat→Prop} {a0:books} {r:Reply} {g:Nat} {v0 v1 v2 cv:Value} {f0 f1 f2:List Nat} (hF:∀b,F b→b<W.heap.size) (hFd:∀b∈g::(f0++(f1++f2)),¬ F b) (hnd:(g::(f0++(f1++f2))).Nodup)
  (hg:W.heap[g]? = some (.cells #[v0,v1,v2] 93 (0,0))) (h0:ShA E W F 9 .str a0.leaves v0 f0) (h1:ShA E W F 98 (.st 98) a0.pairs v1 f1) (h2:ShA E W F 72 (.st 72) a0.sessions v2 f2) (hlt:∀b∈f0++(f1++f2),b<W.heap.size)
  (hB:Go.RowKit.Below W.heap.size W W') :
  Left E (sp N) (r,a0) W F [.pointer (some ⟨g,0,none⟩),cv] (g::(f0++(f1++f2))) (.agg #[.int .i64 r.Kind,.int .i64 r.Place,.string r.Value]) W':=by
 have hgl:g<W.heap.size:=(Array.getElem?_eq_some_iff.1 hg).1
 refine ⟨⟨F,[.agg #[.int .i64 r.Kind,.int .i64 r.Place,.string r.Value]],[],g::(f0++(f1++f2)),rfl,fun _ h=>h,fun b h=>⟨.inl h,Nat.lt_of_lt_of_le (hF b h) hB.size⟩,?_,?_,by simpa using hnd,fun b hb=>?_⟩,hB.os,hB.tape,hB.output,hB.size,fun b hb _=>hB.block b hb⟩
 ·exact ⟨_,[],[],[],rfl,rfl,⟨[.int .i64 r.Kind,.int .i64 r.Place,.string r.Value],rfl,_,_,[],[],rfl,rfl,⟨rfl,rfl⟩,_,_,[],[],rfl,rfl,⟨rfl,rfl⟩,_,_,[],[],rfl,rfl,⟨rfl,rfl⟩,rfl,rfl⟩,rfl,rfl⟩
 ·refine ⟨_,_,g::(f0++(f1++f2)),[],rfl,(List.append_nil _).symm,⟨g,[v0,v1,v2],f0++(f1++f2),rfl,(hB.block g hgl).trans hg,?_,rfl⟩,⟨_,[],[],[],rfl,rfl,rfl,rfl,rfl⟩⟩
  exact ⟨v0,_,f0,f1++f2,rfl,rfl,sh_below hB (fun b hb=>hlt b (by simp [hb])) hF h0,v1,_,f1,f2,rfl,rfl,sh_below hB (fun b hb=>hlt b (by simp [hb])) hF h1,v2,[],f2,[],rfl,(List.append_nil _).symm,sh_below hB (fun b hb=>hlt b (by simp [hb])) hF h2,rfl,rfl⟩
 ·rw [List.nil_append] at hb
  exact ⟨hFd b hb,.inl hb⟩
theorem sh_same {W W':World} {F:Nat→Prop} {e:Nat} {t:Mir.Ty} {xs:List (Mir.Ty.D E.S t)} {v:Value} {fp:List Nat} (hfp:∀b∈fp,W'.heap[b]? = W.heap[b]?) (hF:∀b,F b→W'.heap[b]? = W.heap[b]?) (h:ShA E W F e t xs v fp):ShA E W' F e t xs v fp:=by
 rcases h with h | ⟨g,cap,cur,d,h1,rfl,h3,h4,h5,h6,h7,h8⟩
 ·exact .inl h
 ·refine .inr ⟨g,cap,cur,d,h1,rfl,h3,?_,h5,h6,h7,fun k hk=>(h8 k hk).mono fun t x v=>RoA.more (fun _ h=>h) hF d d (Nat.le_refl _) t x v⟩
  have hb:=hfp g (by simp)
  unfold CellsAt at h4 ⊢
  rw [hb]
  exact h4
theorem left_box (N:Nat) {W W1 W3 W':World} {F F':Nat→Prop} {r:Reply} {b':books} {g:Nat} {cv:Value} {M fp:List Nat} (hF:∀b,F b→b<W.heap.size) (hM:∀b∈M,b<W.heap.size)
  (hB:Go.RowKit.Below W.heap.size W W1) (hz:W.heap.size+2≤W1.heap.size) (hs:W1.heap.size≤W3.heap.size) (hfr:∀b,b<W1.heap.size→b∉M→W3.heap[b]? = W1.heap[b]?)
  (hos:W3.os=W1.os∧W3.tape=W1.tape∧W3.output=W1.output)
  (hFF:∀b,F b→F' b) (hF':∀b,F' b→(F b∨W1.heap.size≤b∨b∈M)∧b<W3.heap.size) (hb:BoxV E W3 F' false 93 93 b' (.pointer (some ⟨g,0,none⟩)) fp) (hnd:fp.Nodup) (hfree:∀b∈fp,¬ F' b∧(b∈M∨W1.heap.size≤b))
  (hs':W3.heap.size≤W'.heap.size) (hos':W'.os=W3.os∧W'.tape=W3.tape∧W'.output=W3.output) (hfr':∀b,b<W3.heap.size→b≠W.heap.size+1→W'.heap[b]? = W3.heap[b]?) :
  Left E (sp N) (r,b') W F [.pointer (some ⟨g,0,none⟩),cv] M (.agg #[.int .i64 r.Kind,.int .i64 r.Place,.string r.Value]) W':=by
 have hfp3:∀b∈fp,b<W3.heap.size:=by
  obtain ⟨g',vs,f,hv,hg,hown,rfl⟩:=hb
  cases hv
  obtain ⟨v0,r0,f0,x0,rfl,rfl,h0,v1,r1,f1,x1,rfl,rfl,h1,v2,r2,f2,x2,rfl,rfl,h2,rfl,rfl⟩:=hown
  have h0:ShA E W3 F' 9 .str b'.leaves v0 f0:=h0
  have h1:ShA E W3 F' 98 (.st 98) b'.pairs v1 f1:=h1
  have h2:ShA E W3 F' 72 (.st 72) b'.sessions v2 f2:=h2
  obtain ⟨d0,h0⟩:=h0.deep rfl
  obtain ⟨d1,h1⟩:=h1.deep rfl
  obtain ⟨d2,h2⟩:=h2.deep rfl
  intro b hb
  rcases List.mem_cons.1 hb with rfl | hb
  ·exact (Array.getElem?_eq_some_iff.1 hg).1
  rcases List.mem_append.1 hb with hb | hb
  ·exact DeepA_lt h0 b hb
  ·rcases List.mem_append.1 hb with hb | hb
   ·exact DeepA_lt h1 b hb
   ·rw [List.append_nil] at hb
    exact DeepA_lt h2 b hb
 have same:∀b,b<W3.heap.size→(b<W.heap.size∨W1.heap.size≤b)→W'.heap[b]? = W3.heap[b]?:=fun b h1 h2=>hfr' b h1 (by omega)
 have samefp:∀b∈fp,W'.heap[b]? = W3.heap[b]?:=fun b hb=>same b (hfp3 b hb) ((hfree b hb).2.imp (hM b) id)
 have sameF:∀b,F' b→W'.heap[b]? = W3.heap[b]?:=fun b hb=>same b (hF' b hb).2 (by
  rcases (hF' b hb).1 with h | h | h
  ·exact .inl (hF b h)
  ·exact .inr h
  ·exact .inl (hM b h))
 refine ⟨⟨F',[.agg #[.int .i64 r.Kind,.int .i64 r.Place,.string r.Value]],[],fp,rfl,hFF,fun b h=>⟨?_,Nat.lt_of_lt_of_le (hF' b h).2 hs'⟩,?_,?_,by simpa using hnd,fun b hb=>?_⟩,?_,?_,?_,?_,fun b hb hbM=>?_⟩
 ·rcases (hF' b h).1 with h | h | h
  ·exact .inl h
  ·exact .inr (.inl (by omega))
  ·exact .inr (.inr h)
 ·exact ⟨_,[],[],[],rfl,rfl,⟨[.int .i64 r.Kind,.int .i64 r.Place,.string r.Value],rfl,_,_,[],[],rfl,rfl,⟨rfl,rfl⟩,_,_,[],[],rfl,rfl,⟨rfl,rfl⟩,_,_,[],[],rfl,rfl,⟨rfl,rfl⟩,rfl,rfl⟩,rfl,rfl⟩
 ·refine ⟨_,_,fp,[],rfl,(List.append_nil _).symm,?_,⟨_,[],[],[],rfl,rfl,rfl,rfl,rfl⟩⟩
  obtain ⟨g',vs,f,hv,hg,hown,rfl⟩:=hb
  cases hv
  refine ⟨g,vs,f,rfl,(samefp g (by simp)).trans hg,?_,rfl⟩
  obtain ⟨v0,r0,f0,x0,rfl,rfl,h0,v1,r1,f1,x1,rfl,rfl,h1,v2,r2,f2,x2,rfl,rfl,h2,rfl,rfl⟩:=hown
  exact ⟨v0,_,f0,_,rfl,rfl,sh_same (fun b hb=>samefp b (by simp [hb])) sameF h0,v1,_,f1,_,rfl,rfl,sh_same (fun b hb=>samefp b (by simp [hb])) sameF h1,v2,_,f2,_,rfl,rfl,sh_same (fun b hb=>samefp b (by simp [hb])) sameF h2,rfl,rfl⟩
 ·rw [List.nil_append] at hb
  exact ⟨(hfree b hb).1,(hfree b hb).2.imp id (fun h=>by omega)⟩
 ·exact hos'.1.trans (hos.1.trans hB.os)
 ·exact hos'.2.1.trans (hos.2.1.trans hB.tape)
 ·exact hos'.2.2.trans (hos.2.2.trans hB.output)
 ·have:=hB.size;omega
 ·exact (hfr' b (by have:=hB.size;omega) (by omega)).trans ((hfr b (by have:=hB.size;omega) hbM).trans (hB.block b hb))
theorem snd (N:Nat):Sound Tryz.prog E 36 (sp N):=by
 refine ⟨fun args W=>run_callFunc_go Tryz.func36 (c:=Tryz.f36.body.getD .skip) (by kernel_rfl) (by kernel_rfl) args W,?_⟩
 rintro W F ⟨(a0:books),(a1:Command),_⟩ r args fp hfn ⟨w,ws,fA,fB,rfl,rfl,hb,⟨w2,ws2,g1,g2,rfl,rfl,⟨hc,rfl⟩,⟨rfl,rfl⟩⟩⟩ hnd hFd hF
 obtain ⟨g,vs,f,rfl,hg,hown,rfl⟩:=hb
 obtain ⟨v0,r0,f0,x0,rfl,rfl,h0,v1,r1,f1,x1,rfl,rfl,h1,v2,r2,f2,x2,rfl,rfl,h2,rfl,rfl⟩:=hown
 obtain ⟨cs,d,rfl,hc⟩:=hc
 have hcv:cs=[.int .i64 a1.Kind,.int .i64 a1.Session,.int .i64 a1.Seq,.string a1.Key,.string a1.Value]:=by
  obtain ⟨y0,z0,rfl,k0,y1,z1,rfl,k1,y2,z2,rfl,k2,y3,z3,rfl,k3,y4,z4,rfl,k4,k5⟩:=hc
  have e0:y0 = .int .i64 a1.Kind:=by cases d<;>exact k0
  have e1:y1 = .int .i64 a1.Session:=by cases d<;>exact k1
  have e2:y2 = .int .i64 a1.Seq:=by cases d<;>exact k2
  have e3:y3 = .string a1.Key:=by cases d<;>exact k3
  have e4:y4 = .string a1.Value:=by cases d<;>exact k4
  have e5:z4=[]:=k5
  rw [e0,e1,e2,e3,e4,e5]
 subst hcv
 have h0:ShA E W F 9 .str a0.leaves v0 f0:=h0
 have h1:ShA E W F 98 (.st 98) a0.pairs v1 f1:=h1
 have h2:ShA E W F 72 (.st 72) a0.sessions v2 f2:=h2
 simp only [List.append_nil] at hnd hFd ⊢
 have hfn:m N a0 a1=some r:=hfn
 unfold m at hfn
 have hlt:∀b∈f0++(f1++f2),b<W.heap.size:=by
  obtain ⟨d0,h0⟩:=h0.deep rfl
  obtain ⟨d1,h1⟩:=h1.deep rfl
  obtain ⟨d2,h2⟩:=h2.deep rfl
  intro b hb
  rcases List.mem_append.1 hb with hb | hb
  ·exact DeepA_lt h0 b hb
  ·rcases List.mem_append.1 hb with hb | hb
   ·exact DeepA_lt h1 b hb
   ·exact DeepA_lt h2 b hb
 have hgl:g<W.heap.size:=(Array.getElem?_eq_some_iff.1 hg).1
 have sess:∀y,impl_books_sessionAt_.m N a0 a1.Session=some y→∀W1,Go.RowKit.Below W.heap.size W W1→CallsIn Fence.wide 2 Tryz.prog 67 #[.pointer (some ⟨g,0,none⟩),.int .i64 a1.Session] W1 fun e W2=>e = .returned (tupV [.int .i64 y.1,.bool y.2])∧Go.RowKit.Below W1.heap.size W1 W2:=by
  intro y hy W1 hB
  exact callsIn_wide.2 (sess_calls N W1 g v0 v1 v2 a0.leaves a0.pairs a0.sessions f0 f1 f2 a1.Session y ((hB.block g hgl).trans hg) (sh_below hB (fun b hb=>hlt b (by simp [hb])) hF h0) (sh_below hB (fun b hb=>hlt b (by simp [hb])) hF h1) (sh_below hB (fun b hb=>hlt b (by simp [hb])) hF h2) hy)
 by_cases k4:a1.Kind=4
 ·rw [show (a1.Kind==(4:Int))=true by rw [beq_iff_eq];exact k4,cond_true] at hfn
  obtain ⟨r1,b1⟩:=r
  have hM:∀b∈g::(f0++(f1++f2)),b<W.heap.size:=fun b hb=>(List.mem_cons.1 hb).elim (fun h=>h▸hgl) (hlt b)
  have hc:=ap_open 3 (by omega) W g a1.Kind a1.Session a1.Seq a1.Key a1.Value r1.Kind r1.Place r1.Value k4
   (fun W3=>∃W1,Go.RowKit.Below W.heap.size W W1∧W.heap.size+2≤W1.heap.size∧W1.heap.size≤W3.heap.size∧(W3.os=W1.os∧W3.tape=W1.tape∧W3.output=W1.output)∧(∀b,b<W1.heap.size→b∉g::(f0++(f1++f2))→W3.heap[b]? = W1.heap[b]?)∧
    ∃(F':Nat→Prop) (fp:List Nat),(∀b,F b→F' b)∧(∀b,F' b→(F b∨W1.heap.size≤b∨b∈g::(f0++(f1++f2)))∧b<W3.heap.size)∧BoxV E W3 F' false 93 93 b1 (.pointer (some ⟨g,0,none⟩)) fp∧fp.Nodup∧(∀b∈fp,¬ F' b∧(b∈g::(f0++(f1++f2))∨W1.heap.size≤b)))
   (fun b=>b∈g::(f0++(f1++f2))) hM (fun W1 hB hz=>callsIn_wide.2 ((open_calls N W1 g v0 v1 v2 a0.leaves a0.pairs a0.sessions f0 f1 f2 a1.Session r1 b1 (fun b h=>Nat.lt_of_lt_of_le (hF b h) hB.size) hFd ((hB.block g hgl).trans hg) (sh_below hB (fun b hb=>hlt b (by simp [hb])) hF h0) (sh_below hB (fun b hb=>hlt b (by simp [hb])) hF h1) (sh_below hB (fun b hb=>hlt b (by simp [hb])) hF h2) hnd hfn).mono (by
    rintro e W3 ⟨rfl,q1,q2,q3,q4⟩
    exact ⟨rfl,q1,q3,W1,hB,hz,q1,q2,q3,q4⟩)))
  refine (callsIn_wide.1 hc).mono ?_
  rintro e W' ⟨rfl,W3,⟨W1,hB,hz,hs,hos,hfr,F',fp,hFF,hF',hb,hnd',hfree⟩,hs',hos',hfr'⟩
  exact ⟨_,rfl,left_box N hF hM hB hz hs hfr hos hFF hF' hb hnd' hfree hs' hos' hfr'⟩
 by_cases k5:a1.Kind=5
 ·rw [show (a1.Kind==(4:Int))=false by rw [beq_eq_false_iff_ne];exact k4,show (a1.Kind==(5:Int))=true by rw [beq_iff_eq];exact k5,cond_false,cond_true] at hfn
  obtain ⟨r1,b1⟩:=r
  have hM:∀b∈g::(f0++(f1++f2)),b<W.heap.size:=fun b hb=>(List.mem_cons.1 hb).elim (fun h=>h▸hgl) (hlt b)
  have hc:=ap_shut 3 (by omega) W g a1.Kind a1.Session a1.Seq a1.Key a1.Value r1.Kind r1.Place r1.Value k5
   (fun W3=>∃W1,Go.RowKit.Below W.heap.size W W1∧W.heap.size+2≤W1.heap.size∧W1.heap.size≤W3.heap.size∧(W3.os=W1.os∧W3.tape=W1.tape∧W3.output=W1.output)∧(∀b,b<W1.heap.size→b∉g::(f0++(f1++f2))→W3.heap[b]? = W1.heap[b]?)∧
    ∃(F':Nat→Prop) (fp:List Nat),(∀b,F b→F' b)∧(∀b,F' b→(F b∨W1.heap.size≤b∨b∈g::(f0++(f1++f2)))∧b<W3.heap.size)∧BoxV E W3 F' false 93 93 b1 (.pointer (some ⟨g,0,none⟩)) fp∧fp.Nodup∧(∀b∈fp,¬ F' b∧(b∈g::(f0++(f1++f2))∨W1.heap.size≤b)))
   (fun b=>b∈g::(f0++(f1++f2))) hM (fun W1 hB hz=>callsIn_wide.2 ((shut_calls N W1 g v0 v1 v2 a0.leaves a0.pairs a0.sessions f0 f1 f2 a1.Session r1 b1 (fun b h=>Nat.lt_of_lt_of_le (hF b h) hB.size) hFd ((hB.block g hgl).trans hg) (sh_below hB (fun b hb=>hlt b (by simp [hb])) hF h0) (sh_below hB (fun b hb=>hlt b (by simp [hb])) hF h1) (sh_below hB (fun b hb=>hlt b (by simp [hb])) hF h2) hnd hfn).mono (by
    rintro e W3 ⟨rfl,q1,q2,q3,q4⟩
    exact ⟨rfl,q1,q3,W1,hB,hz,q1,q2,q3,q4⟩)))
  refine (callsIn_wide.1 hc).mono ?_
  rintro e W' ⟨rfl,W3,⟨W1,hB,hz,hs,hos,hfr,F',fp,hFF,hF',hb,hnd',hfree⟩,hs',hos',hfr'⟩
  exact ⟨_,rfl,left_box N hF hM hB hz hs hfr hos hFF hF' hb hnd' hfree hs' hos' hfr'⟩
 have e4:(a1.Kind==(4:Int))=false:=by rw [beq_eq_false_iff_ne];exact k4
 have e5:(a1.Kind==(5:Int))=false:=by rw [beq_eq_false_iff_ne];exact k5
 rw [e4,e5,cond_false,cond_false] at hfn
 cases hy:impl_books_sessionAt_.m N a0 a1.Session with
 | none=>rw [hy] at hfn;cases hfn
 | some y=>
  rw [hy] at hfn
  have hfn:(bif !y.2 then some (Reply.mk 4 0 ByteArray.empty,a0)
   else bif decide (0≤y.1)&&decide (y.1<(a0.sessions.length:Int)) then
    bif decide (a1.Seq=(a0.sessions.getD y.1.toNat Session.dz).Seq) then bif decide ((a0.sessions.getD y.1.toNat Session.dz).Last.Kind=0) then none else some ((a0.sessions.getD y.1.toNat Session.dz).Last,a0)
    else bif decide (a1.Seq≤(a0.sessions.getD y.1.toNat Session.dz).Seq) then some (Reply.mk 3 0 ByteArray.empty,a0)
    else ob (impl_books_write.m N a0 a1) fun w=>some (w.1,books.mk w.2.leaves w.2.pairs (a0.sessions.set y.1.toNat (Session.mk (a0.sessions.getD y.1.toNat Session.dz).Id a1.Seq w.1)))
   else none)=some r:=hfn
  have hs:=sess y hy
  cases hb2:y.2 with
  | false=>
   rw [hb2] at hfn hs
   obtain rfl:(Reply.mk 4 0 ByteArray.empty,a0)=r:=Option.some.inj hfn
   have hc:=ap_gone 3 (by omega) W g y.1 a1.Kind a1.Session a1.Seq a1.Key a1.Value k4 k5 hs
   refine (callsIn_wide.1 hc).mono ?_
   rintro e W' ⟨rfl,hB⟩
   exact ⟨_,rfl,left_same N hF hFd hnd hg h0 h1 h2 hlt hB⟩
  | true=>
   rw [hb2] at hfn hs
   have hfn:(bif decide (0≤y.1)&&decide (y.1<(a0.sessions.length:Int)) then
    bif decide (a1.Seq=(a0.sessions.getD y.1.toNat Session.dz).Seq) then bif decide ((a0.sessions.getD y.1.toNat Session.dz).Last.Kind=0) then none else some ((a0.sessions.getD y.1.toNat Session.dz).Last,a0)
    else bif decide (a1.Seq≤(a0.sessions.getD y.1.toNat Session.dz).Seq) then some (Reply.mk 3 0 ByteArray.empty,a0)
    else ob (impl_books_write.m N a0 a1) fun w=>some (w.1,books.mk w.2.leaves w.2.pairs (a0.sessions.set y.1.toNat (Session.mk (a0.sessions.getD y.1.toNat Session.dz).Id a1.Seq w.1)))
   else none)=some r:=hfn
   cases hd:decide (0≤y.1)&&decide (y.1<(a0.sessions.length:Int)) with
   | false=>rw [hd] at hfn;cases hfn
   | true=>
    rw [hd,cond_true] at hfn
    simp only [Bool.and_eq_true,decide_eq_true_eq] at hd
    obtain ⟨k,hk⟩:∃k:Nat,y.1=(k:Int):=⟨y.1.toNat,by omega⟩
    rw [hk] at hfn hs hd
    rw [Int.toNat_natCast] at hfn
    have hkl:k<a0.sessions.length:=by omega
    have hse:a0.sessions.getD k Session.dz=a0.sessions[k]:=by rw [List.getD_eq_getElem?_getD,List.getElem?_eq_getElem hkl];rfl
    rw [hse] at hfn
    rcases h2 with ⟨A,_,hnil,_⟩ | ⟨gs,cap,cur,dd,rfl,q2,q3,q4,q5,q6,q7,q8⟩
    ·rw [hnil] at hkl;exact absurd hkl (Nat.not_lt_zero k)
    have h2:ShA E W F 72 (.st 72) a0.sessions (.slice (some ⟨gs,0,none⟩) a0.sessions.length cap) f2:=.inr ⟨gs,cap,cur,dd,rfl,q2,q3,q4,q5,q6,q7,q8⟩
    have hcur:W.heap[gs]? = some (.cells cur 72 (0,0)):=by
     obtain ⟨fz,c1,c2⟩:=q4
     rcases c2 with rfl | ⟨c2,_⟩
     ·exact c1
     ·cases c2
    have hcells:((cur.toList.drop (k * 5)).take 5)=[.int .i64 a0.sessions[k].Id,.int .i64 a0.sessions[k].Seq,.int .i64 a0.sessions[k].Last.Kind,.int .i64 a0.sessions[k].Last.Place,.string a0.sessions[k].Last.Value]:=by
     have h8:RoL E (RoA E W F dd) [.int .i64,.int .i64,.int .i64,.int .i64,.str] (a0.sessions[k].Id,a0.sessions[k].Seq,a0.sessions[k].Last.Kind,a0.sessions[k].Last.Place,a0.sessions[k].Last.Value,()) ((cur.toList.drop (k * 5)).take 5):=q8 k hkl
     obtain ⟨y0,z0,hl0,k0,y1,z1,rfl,k1,y2,z2,rfl,k2,y3,z3,rfl,k3,y4,z4,rfl,k4,k5⟩:=h8
     have e0:y0 = .int .i64 a0.sessions[k].Id:=by cases dd<;>exact k0
     have e1:y1 = .int .i64 a0.sessions[k].Seq:=by cases dd<;>exact k1
     have e2:y2 = .int .i64 a0.sessions[k].Last.Kind:=by cases dd<;>exact k2
     have e3:y3 = .int .i64 a0.sessions[k].Last.Place:=by cases dd<;>exact k3
     have e4:y4 = .string a0.sessions[k].Last.Value:=by cases dd<;>exact k4
     have e5:z4=[]:=k5
     rw [hl0,e0,e1,e2,e3,e4,e5]
    have cell:∀j,j<5→W.cell? ⟨gs,k * 5+j,none⟩=((cur.toList.drop (k * 5)).take 5)[j]?:=by
     intro j hj
     rw [List.getElem?_take,if_pos hj,List.getElem?_drop,Array.getElem?_toList]
     show (match W.heap[gs]? with | some (.cells c _ _)=>c[k * 5+j]? | _=>none)=_
     rw [hcur]
    rw [hcells] at cell
    have s0:=cell 0 (by omega)
    have s1:=cell 1 (by omega)
    have s2:=cell 2 (by omega)
    have s3:=cell 3 (by omega)
    have s4:=cell 4 (by omega)
    cases ht:decide (a1.Seq=a0.sessions[k].Seq) with
    | true=>
     rw [ht,cond_true] at hfn
     have ht1:=of_decide_eq_true ht
     cases ht2:decide (a0.sessions[k].Last.Kind=0) with
     | true=>rw [ht2] at hfn;cases hfn
     | false=>
      rw [ht2,cond_false] at hfn
      have ht2:¬ a0.sessions[k].Last.Kind=0:=of_decide_eq_false ht2
      obtain rfl:(a0.sessions[k].Last,a0)=r:=Option.some.inj hfn
      have hc:=ap_rep 3 (by omega) W g k v0 v1 gs a0.sessions.length cap a1.Kind a1.Session a1.Seq a1.Key a1.Value _ _ _ _ _ hg hkl s0 s1 s2 s3 s4 k4 k5 ht1 ht2 hs
      refine (callsIn_wide.1 hc).mono ?_
      rintro e W' ⟨rfl,hB⟩
      exact ⟨_,rfl,left_same N hF hFd hnd hg h0 h1 h2 hlt hB⟩
    | false=>
     rw [ht,cond_false] at hfn
     have ht1:=of_decide_eq_false ht
     cases hl:decide (a1.Seq≤a0.sessions[k].Seq) with
     | true=>
      rw [hl,cond_true] at hfn
      obtain rfl:(Reply.mk 3 0 ByteArray.empty,a0)=r:=Option.some.inj hfn
      have hc:=ap_old 3 (by omega) W g k v0 v1 gs a0.sessions.length cap a1.Kind a1.Session a1.Seq a1.Key a1.Value _ _ _ _ _ hg hkl s0 s1 s2 s3 s4 k4 k5 ht1 (of_decide_eq_true hl) hs
      refine (callsIn_wide.1 hc).mono ?_
      rintro e W' ⟨rfl,hB⟩
      exact ⟨_,rfl,left_same N hF hFd hnd hg h0 h1 h2 hlt hB⟩
     | false=>
      rw [hl,cond_false] at hfn
      obtain ⟨w,hw,rfl⟩:∃w,impl_books_write.m N a0 a1=some w∧(w.1,books.mk w.2.leaves w.2.pairs (a0.sessions.set k (Session.mk a0.sessions[k].Id a1.Seq w.1)))=r:=by
       cases hw:impl_books_write.m N a0 a1 with
       | none=>rw [hw] at hfn;cases hfn
       | some w=>rw [hw] at hfn;exact ⟨w,rfl,Option.some.inj hfn⟩
      obtain ⟨r1,b1⟩:=w
      have ht2:¬ a1.Seq≤a0.sessions[k].Seq:=of_decide_eq_false hl
      have hM:∀b∈g::(f0++f1),b<W.heap.size:=fun b hb=>(List.mem_cons.1 hb).elim (fun h=>h▸hgl) (fun h=>hlt b (by
       rcases List.mem_append.1 h with h | h
       ·exact List.mem_append_left _ h
       ·exact List.mem_append_right _ (List.mem_append_left _ h)))
      have hMM:∀b,b∈g::(f0++f1)→b∈g::(f0++(f1++f2)):=fun b hb=>by
       rcases List.mem_cons.1 hb with rfl | hb
       ·exact List.mem_cons_self
       rcases List.mem_append.1 hb with h | h
       ·exact List.mem_cons_of_mem _ (List.mem_append_left _ h)
       ·exact List.mem_cons_of_mem _ (List.mem_append_right _ (List.mem_append_left _ h))
      have hgsM:gs∈g::(f0++(f1++f2)):=by rw [q2];simp
      have hgsl:gs<W.heap.size:=(Array.getElem?_eq_some_iff.1 hcur).1
      have hnd2:(g::(f0++f1)).Nodup∧gs∉g::(f0++f1):=by
       rw [q2,← List.append_assoc,← List.cons_append] at hnd
       rw [List.nodup_append] at hnd
       exact ⟨hnd.1,fun h=>hnd.2.2 gs h gs (by simp) rfl⟩
      have hc:=ap_write 3 (by omega) W g k v0 v1 gs a0.sessions.length cap a1.Kind a1.Session a1.Seq a1.Key a1.Value _ _ _ _ _ r1.Kind r1.Place r1.Value hg hkl s0 s1 s2 s3 s4 k4 k5 (fun h=>ht1 h.1) ht2 hs
       (fun W3=>∃W1,Go.RowKit.Below W.heap.size W W1∧W.heap.size+2≤W1.heap.size∧W1.heap.size≤W3.heap.size∧(W3.os=W1.os∧W3.tape=W1.tape∧W3.output=W1.output)∧(∀b,b<W1.heap.size→b∉g::(f0++f1)→W3.heap[b]? = W1.heap[b]?)∧
        ∃v0' v1' f0' f1',W3.heap[g]? = some (.cells #[v0',v1',.slice (some ⟨gs,0,none⟩) a0.sessions.length cap] 93 (0,0))∧ShA E W3 F 9 .str b1.leaves v0' f0'∧ShA E W3 F 98 (.st 98) b1.pairs v1' f1'∧(g::(f0'++f1')).Nodup∧∀b∈f0'++f1',b∈g::(f0++f1)∨W1.heap.size≤b)
       (fun b=>b∈g::(f0++f1)) hM hnd2.2 72 cur hcur (fun W1 hB hz=>callsIn_wide.2 ((write_calls N W1 g v0 v1 (some ⟨gs,0,none⟩) a0.sessions.length cap a0.leaves a0.pairs a0.sessions f0 f1 a1 r1 b1 ((hB.block g hgl).trans hg) (sh_below hB (fun b hb=>hlt b (by simp [hb])) hF h0) (sh_below hB (fun b hb=>hlt b (by simp [hb])) hF h1) hnd2.1 hw).mono (by
        rintro e W3 ⟨rfl,q1,q2,q3,q4⟩
        exact ⟨rfl,q1,q3,W1,hB,hz,q1,q2,q3,q4⟩)))
      refine (callsIn_wide.1 hc).mono ?_
      rintro e W' ⟨rfl,W3,⟨W1,hB,hz,hs3,hos,hfr,v0',v1',f0',f1',hg3,h03,h13,hnd3,hfree⟩,hs',hos',hfr',cur',hcur',hcure⟩
      refine ⟨_,rfl,?_⟩
      have hWW1:=hB.size
      have hlt3:∀b∈f0'++f1',b<W3.heap.size:=by
       obtain ⟨d0,h0⟩:=h03.deep rfl
       obtain ⟨d1,h1⟩:=h13.deep rfl
       intro b hb
       rcases List.mem_append.1 hb with hb | hb
       ·exact DeepA_lt h0 b hb
       ·exact DeepA_lt h1 b hb
      have hgs3:gs∉f0'++f1':=fun h=>(hfree gs h).elim hnd2.2 (fun h=>by omega)
      have hggs:g≠gs:=fun h=>hnd2.2 (by rw [← h];exact List.mem_cons_self)
      have samefp:∀b∈f0'++f1',W'.heap[b]? = W3.heap[b]?:=fun b hb=>hfr' b (hlt3 b hb) (fun h=>hgs3 (h▸hb)) (fun h=>by
       rcases hfree b hb with h2 | h2
       ·have:=hM b h2;omega
       ·omega)
      have sameg:W'.heap[g]? = W3.heap[g]?:=hfr' g (by omega) hggs (by omega)
      have sameF:∀b,F b→W'.heap[b]? = W3.heap[b]?:=fun b hb=>hfr' b (by have:=hF b hb;omega) (fun h=>hFd gs hgsM (h▸hb)) (by have:=hF b hb;omega)
      have sameFW:∀b,F b→W'.heap[b]? = W.heap[b]?:=fun b hb=>(sameF b hb).trans ((hfr b (by have:=hF b hb;omega) (fun h=>hFd b (hMM b h) hb)).trans (hB.block b (hF b hb)))
      have hsess:ShA E W' F 72 (.st 72) (a0.sessions.set k (Session.mk a0.sessions[k].Id a1.Seq r1)) (.slice (some ⟨gs,0,none⟩) a0.sessions.length cap) [gs]:=by
       have hlen:(a0.sessions.set k (Session.mk a0.sessions[k].Id a1.Seq r1)).length=a0.sessions.length:=List.length_set
       refine .inr ⟨gs,cap,cur',dd,congrArg (fun n=>Value.slice (some ⟨gs,0,none⟩) n cap) hlen.symm,rfl,q3,?_,Nat.le_trans (Nat.le_of_eq hlen) q5,q6,?_,fun i hi=>?_⟩
       ·obtain ⟨fz,c1,c2⟩:=q4
        rcases c2 with rfl | ⟨c2,_⟩
        ·exact ⟨(0,0),hcur',.inl rfl⟩
        ·cases c2
       ·rw [hcure];simp only [Array.size_setIfInBounds];exact q7
       ·have hi':i<a0.sessions.length:=Nat.lt_of_lt_of_le hi (Nat.le_of_eq hlen)
        have hcap:cap * 5≤cur.size:=q7
        have q5':a0.sessions.length≤cap:=q5
        have hkc:k * 5+4<cur.size:=by omega
        by_cases hik:k=i
        ·subst hik
         have hgk:(a0.sessions.set k (Session.mk a0.sessions[k].Id a1.Seq r1))[k]'(hlen▸hkl)=Session.mk a0.sessions[k].Id a1.Seq r1:=List.getElem_set_self _
         have e5:(cur'.toList.drop (k * 5)).take 5=[.int .i64 a0.sessions[k].Id,.int .i64 a1.Seq,.int .i64 r1.Kind,.int .i64 r1.Place,.string r1.Value]:=by
          apply List.ext_getElem?
          intro j
          have hh:=congrArg (fun l:List Value=>l[0]?) hcells
          simp only [List.getElem?_take,List.getElem?_drop,Array.getElem?_toList] at hh
          rw [List.getElem?_take,List.getElem?_drop,Array.getElem?_toList,hcure]
          by_cases hj:j<5
          ·rw [if_pos hj]
           simp only [Array.getElem?_setIfInBounds,Array.size_setIfInBounds]
           rcases (show j=0∨j=1∨j=2∨j=3∨j=4 by omega) with rfl | rfl | rfl | rfl | rfl
           ·rw [if_neg (by omega),if_neg (by omega),if_neg (by omega),if_neg (by omega)]
            simpa using hh
           ·rw [if_neg (by omega),if_neg (by omega),if_neg (by omega),if_pos rfl,if_pos (by omega)];rfl
           ·rw [if_neg (by omega),if_neg (by omega),if_pos rfl,if_pos (by omega)];rfl
           ·rw [if_neg (by omega),if_pos (by omega),if_pos (by omega)];rfl
           ·rw [if_pos (by omega),if_pos (by omega)];rfl
          ·rw [if_neg hj,List.getElem?_eq_none (by simpa using hj)]
         refine (congrArg (fun x:Session=>RoE E (RoA E W' F dd) (.st 72) x ((cur'.toList.drop (k * 5)).take 5)) hgk).mpr ?_
         show RoL E (RoA E W' F dd) [.int .i64,.int .i64,.int .i64,.int .i64,.str] (a0.sessions[k].Id,a1.Seq,r1.Kind,r1.Place,r1.Value,()) ((cur'.toList.drop (k * 5)).take 5)
         rw [e5]
         refine ⟨_,_,rfl,?_,_,_,rfl,?_,_,_,rfl,?_,_,_,rfl,?_,_,_,rfl,?_,rfl⟩<;>cases dd<;>rfl
        ·have hgk:(a0.sessions.set k (Session.mk a0.sessions[k].Id a1.Seq r1))[i]'(hlen▸hi')=a0.sessions[i]:=List.getElem_set_ne hik _
         refine (congrArg (fun x:Session=>RoE E (RoA E W' F dd) (.st 72) x ((cur'.toList.drop (i * 5)).take 5)) hgk).mpr ?_
         have e5:(cur'.toList.drop (i * 5)).take 5=(cur.toList.drop (i * 5)).take 5:=by
          apply List.ext_getElem?
          intro j
          rw [List.getElem?_take,List.getElem?_drop,List.getElem?_take,List.getElem?_drop,Array.getElem?_toList,Array.getElem?_toList,hcure]
          by_cases hj:j<5
          ·rw [if_pos hj,if_pos hj]
           simp only [Array.getElem?_setIfInBounds]
           rw [if_neg (by omega),if_neg (by omega),if_neg (by omega),if_neg (by omega)]
          ·rw [if_neg hj,if_neg hj]
         have h8:=(q8 i hi').mono fun t x v=>RoA.more (F':=F) (W':=W') (fun _ h=>h) sameFW dd dd (Nat.le_refl _) t x v
         show RoE E (RoA E W' F dd) (.st 72) a0.sessions[i] ((cur'.toList.drop (i * 5)).take 5)
         rw [e5]
         exact h8
      have hnd4:(g::(f0'++(f1'++[gs]))).Nodup:=by
       rw [← List.append_assoc,← List.cons_append,List.nodup_append]
       refine ⟨hnd3,by simp,fun a ha b hb=>?_⟩
       rw [List.mem_singleton] at hb
       subst hb
       rintro rfl
       rcases List.mem_cons.1 ha with h | h
       ·exact hggs h.symm
       ·exact hgs3 h
      refine ⟨⟨F,[.agg #[.int .i64 r1.Kind,.int .i64 r1.Place,.string r1.Value]],[],g::(f0'++(f1'++[gs])),rfl,fun _ h=>h,fun b h=>⟨.inl h,by have:=hF b h;omega⟩,?_,?_,by simpa using hnd4,fun b hb=>?_⟩,hos'.1.trans (hos.1.trans hB.os),hos'.2.1.trans (hos.2.1.trans hB.tape),hos'.2.2.trans (hos.2.2.trans hB.output),by omega,fun b hb hbM=>?_⟩
      ·exact ⟨_,[],[],[],rfl,rfl,⟨[.int .i64 r1.Kind,.int .i64 r1.Place,.string r1.Value],rfl,_,_,[],[],rfl,rfl,⟨rfl,rfl⟩,_,_,[],[],rfl,rfl,⟨rfl,rfl⟩,_,_,[],[],rfl,rfl,⟨rfl,rfl⟩,rfl,rfl⟩,rfl,rfl⟩
      ·refine ⟨_,_,g::(f0'++(f1'++[gs])),[],rfl,(List.append_nil _).symm,⟨g,[v0',v1',.slice (some ⟨gs,0,none⟩) a0.sessions.length cap],f0'++(f1'++[gs]),rfl,sameg.trans hg3,?_,rfl⟩,⟨_,[],[],[],rfl,rfl,rfl,rfl,rfl⟩⟩
       exact ⟨v0',_,f0',f1'++[gs],rfl,rfl,sh_same (fun b hb=>samefp b (by simp [hb])) sameF h03,v1',_,f1',[gs],rfl,rfl,sh_same (fun b hb=>samefp b (by simp [hb])) sameF h13,_,[],[gs],[],rfl,(List.append_nil _).symm,hsess,rfl,rfl⟩
      ·rw [List.nil_append] at hb
       have hb2:b∈g::(f0++(f1++f2))∨W1.heap.size≤b:=by
        rcases List.mem_cons.1 hb with rfl | hb
        ·exact .inl List.mem_cons_self
        ·rw [← List.append_assoc] at hb
         rcases List.mem_append.1 hb with hb | hb
         ·exact (hfree b hb).imp (hMM b) id
         ·rw [List.mem_singleton] at hb;subst hb;exact .inl hgsM
       refine ⟨?_,hb2.imp id (fun h=>by omega)⟩
       rcases hb2 with h | h
       ·exact hFd b h
       ·intro hf;have:=hF b hf;omega
      ·exact (hfr' b (by omega) (fun h=>hbM (h▸hgsM)) (by omega)).trans ((hfr b (by omega) (fun h=>hbM (hMM b h))).trans (hB.block b hb))
end impl_books_apply
namespace impl_Apply
noncomputable def code:Code:=Tryz.f14.body.getD .skip
abbrev live:Live:=[]
noncomputable def G (N:Nat):Ctx E:=gam [(13,[],impl_LedgerOK.sp N),(23,[],impl_CommandOK.sp N),(35,[],impl_booksOf.sp N),(36,[],impl_books_apply.sp N),(37,[],impl_books_ledger.sp N)]
theorem run (N:Nat) (o0:Orc E R) (a0:Ledger) (a1:Command):runF T (G N) live [] Tryz.f14 code (sp N) o0 (a0,a1,())=m N a0 a1:=by kernel_rfl
theorem G_ok (N:Nat):GamOK Tryz.prog (G N):=gam_ok (⟨impl_LedgerOK.snd N,impl_CommandOK.snd N,impl_booksOf.snd N,impl_books_apply.snd N,impl_books_ledger.snd N,trivial⟩)
theorem snd (N:Nat):Sound Tryz.prog E 14 (sp N):=
 Mir.sound T_OK (G_ok N) mixed Tryz.func14 (c:=code) (by kernel_rfl) (by kernel_rfl) (sp N) (Nat.le_of_ble_eq_true (by kernel_rfl)) live [] (by
  rintro ⟨a0,a1,_⟩ r h
  exact ⟨N,2,((run N _ a0 a1).trans rfl).trans h⟩)
end impl_Apply
namespace impl_split
noncomputable def code:Code:=Tryz.f113.body.getD .skip
abbrev live:Live:=[(2,[0,3])]
noncomputable def G (N:Nat):Ctx E:=gam []
noncomputable def loop2:Code:=codeAt code [1,1,0,0]
noncomputable def body2:Code:=codeAt loop2 [0]
noncomputable def K2 (N:Nat) (o0:Orc E R):KT E R:=kAt T (G N) live [] o0 code [1,1,0,0] (kfin T Tryz.f113 (sp N))
noncomputable def St2 (a0:Int):Int→St E
 | v1=>{ ρ:=[(0,.c (.at (.int .i64 a0))),(3,.c (.at (.int .i64 v1)))],H:=[],nx:=0,n:=11,pin:=[] }
theorem run (N:Nat) (o0:Orc E R) (a0:Int):runF T (G N) live [] Tryz.f113 code (sp N) o0 (a0,())=m0 N a0 (fun a=>o0 loop2 (K2 N o0) (St2 a0 a)):=by kernel_rfl
theorem body2_0 (N:Nat) (o0:Orc E R) (o1:Orc E R) (q1:St E→Option R) (a0:Int) (v1:Int):runA T (G N) live [] o1 body2 (St2 a0 v1) (kloop [0,3] q1 (K2 N o0))=step2 N a0 (fun a=>q1 (St2 a0 a)) v1:=by kernel_rfl
theorem lp2_eq (N:Nat) (a0:Int) (a:Int):(orc T (G N) live [] N 2) loop2 (K2 N (orc T (G N) live [] N 2)) (St2 a0 a)=lp2 N a0 a:=
 (orc_loop (b:=body2) (live:=[0,3]) (by kernel_rfl)).trans (iter_eq (St2 a0) _ _ (fun q1 a=>by
  have hc:=congrFun (congrFun (rfl:(step2 N a0)=(step2 N a0)) (fun a=>q1 (St2 a0 a))) a
  exact (body2_0 N (orc T (G N) live [] N 2) (orc T (G N) live [] N 1) q1 a0 a).trans hc) N a)
theorem G_ok (N:Nat):GamOK Tryz.prog (G N):=gam_ok (trivial)
theorem snd (N:Nat):Sound Tryz.prog E 113 (sp N):=
 Mir.sound T_OK (G_ok N) mixed Tryz.func113 (c:=code) (by kernel_rfl) (by kernel_rfl) (sp N) (Nat.le_of_ble_eq_true (by kernel_rfl)) live [] (by
  rintro ⟨a0,_⟩ r h
  exact ⟨N,2,((run N _ a0).trans (congrArg (m0 N a0) (funext fun a=>lp2_eq N a0 a))).trans h⟩)
end impl_split
namespace impl_nodeHash
noncomputable def code:Code:=Tryz.f114.body.getD .skip
abbrev live:Live:=[]
noncomputable def G (N:Nat):Ctx E:=gam [(70,[],impl_hash.sp N)]
theorem run (N:Nat) (o0:Orc E R) (a0:ByteArray) (a1:ByteArray):runF T (G N) live [] Tryz.f114 code (sp N) o0 (a0,a1,())=m N a0 a1:=by kernel_rfl
theorem G_ok (N:Nat):GamOK Tryz.prog (G N):=gam_ok (⟨impl_hash.snd N,trivial⟩)
theorem snd (N:Nat):Sound Tryz.prog E 114 (sp N):=
 Mir.sound T_OK (G_ok N) mixed Tryz.func114 (c:=code) (by kernel_rfl) (by kernel_rfl) (sp N) (Nat.le_of_ble_eq_true (by kernel_rfl)) live [] (by
  rintro ⟨a0,a1,_⟩ r h
  exact ⟨N,2,((run N _ a0 a1).trans rfl).trans h⟩)
end impl_nodeHash
namespace impl_treeHash
noncomputable def code:Code:=Tryz.f71.body.getD .skip
abbrev live:Live:=[]
noncomputable def G (N:Nat) (slf:(List ByteArray)→Option R):Ctx E:=gam [(70,[],impl_hash.sp N),(113,[],impl_split.sp N),(71,[],spf slf),(114,[],impl_nodeHash.sp N)]
theorem run (N:Nat) (o0:Orc E R) (slf:(List ByteArray)→Option R) (a0:List ByteArray):runF T (G N slf) live [] Tryz.f71 code (spf (mb N slf)) o0 (a0,())=mb N slf a0:=by kernel_rfl
theorem G_ok (N:Nat) (slf:(List ByteArray)→Option R) (hs:Sound Tryz.prog E 71 (spf slf)):GamOK Tryz.prog (G N slf):=gam_ok (⟨impl_hash.snd N,impl_split.snd N,hs,impl_nodeHash.snd N,trivial⟩)
theorem sndF (N:Nat):∀n,Sound Tryz.prog E 71 (spf (mF N n))
 | 0=>sound_none Tryz.func71 (c:=code) (by kernel_rfl) (by kernel_rfl) (spf (mF N 0)) (fun _=>rfl)
 | n+1=>by
  have hr:=fun (a0:List ByteArray)=>(run N (orc T (G N (mF N n)) live [] N 2) (mF N n) a0).trans rfl
  exact Mir.sound T_OK (G_ok N (mF N n) (sndF N n)) mixed Tryz.func71 (c:=code) (by kernel_rfl) (by kernel_rfl) (spf (mF N (n+1))) (Nat.le_of_ble_eq_true (by kernel_rfl)) live [] (by
   rintro ⟨a0,_⟩ r h
   exact ⟨N,2,(hr a0).trans h⟩)
theorem snd (N:Nat):Sound Tryz.prog E 71 (sp N):=sndF N N
end impl_treeHash
namespace impl_leafRoot
noncomputable def code:Code:=Tryz.f115.body.getD .skip
abbrev live:Live:=[]
noncomputable def G (N:Nat):Ctx E:=gam [(58,[],impl_counted.sp N),(70,[],impl_hash.sp N)]
theorem run (N:Nat) (o0:Orc E R) (a0:ByteArray) (a1:ByteArray):runF T (G N) live [] Tryz.f115 code (sp N) o0 (a0,a1,())=m N a0 a1:=by kernel_rfl
theorem G_ok (N:Nat):GamOK Tryz.prog (G N):=gam_ok (⟨impl_counted.snd N,impl_hash.snd N,trivial⟩)
theorem snd (N:Nat):Sound Tryz.prog E 115 (sp N):=
 Mir.sound T_OK (G_ok N) mixed Tryz.func115 (c:=code) (by kernel_rfl) (by kernel_rfl) (sp N) (Nat.le_of_ble_eq_true (by kernel_rfl)) live [] (by
  rintro ⟨a0,a1,_⟩ r h
  exact ⟨N,2,((run N _ a0 a1).trans rfl).trans h⟩)
end impl_leafRoot
namespace impl_forkRoot
noncomputable def code:Code:=Tryz.f116.body.getD .skip
abbrev live:Live:=[]
noncomputable def G (N:Nat):Ctx E:=gam [(57,[],impl_number.sp N),(70,[],impl_hash.sp N)]
theorem run (N:Nat) (o0:Orc E R) (a0:Int) (a1:ByteArray) (a2:ByteArray):runF T (G N) live [] Tryz.f116 code (sp N) o0 (a0,a1,a2,())=m N a0 a1 a2:=by kernel_rfl
theorem G_ok (N:Nat):GamOK Tryz.prog (G N):=gam_ok (⟨impl_number.snd N,impl_hash.snd N,trivial⟩)
theorem snd (N:Nat):Sound Tryz.prog E 116 (sp N):=
 Mir.sound T_OK (G_ok N) mixed Tryz.func116 (c:=code) (by kernel_rfl) (by kernel_rfl) (sp N) (Nat.le_of_ble_eq_true (by kernel_rfl)) live [] (by
  rintro ⟨a0,a1,a2,_⟩ r h
  exact ⟨N,2,((run N _ a0 a1 a2).trans rfl).trans h⟩)
end impl_forkRoot
namespace impl_mapRoot
noncomputable def code:Code:=Tryz.f72.body.getD .skip
abbrev live:Live:=[]
noncomputable def G (N:Nat) (slf:Branch→Option R):Ctx E:=gam [(94,[],impl_Branch_isEmpty.sp N),(70,[],impl_hash.sp N),(115,[],impl_leafRoot.sp N),(72,[],spf slf),(116,[],impl_forkRoot.sp N)]
theorem run (N:Nat) (o0:Orc E R) (slf:Branch→Option R) (a0:Branch):runF T (G N slf) live [] Tryz.f72 code (spf (mb N slf)) o0 (a0,())=mb N slf a0:=by kernel_rfl
theorem G_ok (N:Nat) (slf:Branch→Option R) (hs:Sound Tryz.prog E 72 (spf slf)):GamOK Tryz.prog (G N slf):=gam_ok (⟨impl_Branch_isEmpty.snd N,impl_hash.snd N,impl_leafRoot.snd N,hs,impl_forkRoot.snd N,trivial⟩)
theorem sndF (N:Nat):∀n,Sound Tryz.prog E 72 (spf (mF N n))
 | 0=>sound_none Tryz.func72 (c:=code) (by kernel_rfl) (by kernel_rfl) (spf (mF N 0)) (fun _=>rfl)
 | n+1=>by
  have hr:=fun (a0:Branch)=>(run N (orc T (G N (mF N n)) live [] N 2) (mF N n) a0).trans rfl
  exact Mir.sound T_OK (G_ok N (mF N n) (sndF N n)) mixed Tryz.func72 (c:=code) (by kernel_rfl) (by kernel_rfl) (spf (mF N (n+1))) (Nat.le_of_ble_eq_true (by kernel_rfl)) live [] (by
   rintro ⟨a0,_⟩ r h
   exact ⟨N,2,(hr a0).trans h⟩)
theorem snd (N:Nat):Sound Tryz.prog E 72 (sp N):=sndF N N
end impl_mapRoot
namespace impl_ledgerRoot
noncomputable def code:Code:=Tryz.f38.body.getD .skip
abbrev live:Live:=[]
noncomputable def G (N:Nat):Ctx E:=gam [(71,[],impl_treeHash.sp N),(72,[],impl_mapRoot.sp N),(70,[],impl_hash.sp N)]
theorem run (N:Nat) (o0:Orc E R) (a0:Ledger):runF T (G N) live [] Tryz.f38 code (sp N) o0 (a0,())=m N a0:=by kernel_rfl
theorem G_ok (N:Nat):GamOK Tryz.prog (G N):=gam_ok (⟨impl_treeHash.snd N,impl_mapRoot.snd N,impl_hash.snd N,trivial⟩)
theorem snd (N:Nat):Sound Tryz.prog E 38 (sp N):=
 Mir.sound T_OK (G_ok N) mixed Tryz.func38 (c:=code) (by kernel_rfl) (by kernel_rfl) (sp N) (Nat.le_of_ble_eq_true (by kernel_rfl)) live [] (by
  rintro ⟨a0,_⟩ r h
  exact ⟨N,2,((run N _ a0).trans rfl).trans h⟩)
end impl_ledgerRoot
namespace impl_LedgerRoot
noncomputable def code:Code:=Tryz.f15.body.getD .skip
abbrev live:Live:=[]
noncomputable def G (N:Nat):Ctx E:=gam [(13,[],impl_LedgerOK.sp N),(38,[],impl_ledgerRoot.sp N)]
theorem run (N:Nat) (o0:Orc E R) (a0:Ledger):runF T (G N) live [] Tryz.f15 code (sp N) o0 (a0,())=m N a0:=by kernel_rfl
theorem G_ok (N:Nat):GamOK Tryz.prog (G N):=gam_ok (⟨impl_LedgerOK.snd N,impl_ledgerRoot.snd N,trivial⟩)
theorem snd (N:Nat):Sound Tryz.prog E 15 (sp N):=
 Mir.sound T_OK (G_ok N) mixed Tryz.func15 (c:=code) (by kernel_rfl) (by kernel_rfl) (sp N) (Nat.le_of_ble_eq_true (by kernel_rfl)) live [] (by
  rintro ⟨a0,_⟩ r h
  exact ⟨N,2,((run N _ a0).trans rfl).trans h⟩)
end impl_LedgerRoot
namespace laws_FnSnapshot
noncomputable def code:Code:=Tryz.f5.body.getD .skip
abbrev live:Live:=[]
noncomputable def G (N:Nat):Ctx E:=gam [(6,[],spec_CommandsOf.sp N),(11,[],spec_ApplyAll.sp N),(16,[],impl_SnapshotBytes.sp N),(17,[],spec_SnapshotBytes.sp N),(18,[],impl_ReadSnapshot.sp N),(19,[],spec_CommandOf.sp N),(14,[],impl_Apply.sp N),(15,[],impl_LedgerRoot.sp N)]
theorem run (N:Nat) (o0:Orc E R) (a0:List Int) (a1:List Int):runF T (G N) live [] Tryz.f5 code (sp N) o0 (a0,a1,())=m N a0 a1:=by kernel_rfl
theorem G_ok (N:Nat):GamOK Tryz.prog (G N):=gam_ok (⟨spec_CommandsOf.snd N,spec_ApplyAll.snd N,impl_SnapshotBytes.snd N,spec_SnapshotBytes.snd N,impl_ReadSnapshot.snd N,spec_CommandOf.snd N,impl_Apply.snd N,impl_LedgerRoot.snd N,trivial⟩)
theorem snd (N:Nat):Sound Tryz.prog E 5 (sp N):=
 Mir.sound T_OK (G_ok N) mixed Tryz.func5 (c:=code) (by kernel_rfl) (by kernel_rfl) (sp N) (Nat.le_of_ble_eq_true (by kernel_rfl)) live [] (by
  rintro ⟨a0,a1,_⟩ r h
  exact ⟨N,2,((run N _ a0 a1).trans rfl).trans h⟩)
end laws_FnSnapshot
end Mir.Y
