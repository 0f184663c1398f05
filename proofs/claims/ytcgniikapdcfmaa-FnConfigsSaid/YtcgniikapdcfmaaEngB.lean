/- The mirror machine. -/
import Derived.Test.YtcgniikapdcfmaaEngA
import Derived.Laws.Tables
import Derived.Great.BuildSlice
import Derived.Lib.ConvBytes
import Derived.Laws.BytesArg
import Derived.ChangeMaps4
namespace Mir
set_option linter.unusedVariables false
set_option linter.unusedSimpArgs false
open Go
variable {E:Env} {P:Program} {T:Tb} {cx:Cx} {G G':Gh} {S:St E} {tm:Array Value} {a:Act} {W W':World}
theorem Sim.newRow (hS:Sim cx G S tm W) {fr:Nat} (hf:lk S.H fr=none) (b:Blk E) (rest:Up E) (loc:Nat) (hd:Value) (ln sz:Nat) (hfz:b.fz=false)
  (hrest:∀id b',lk rest id=some b'→b' = .gone∧S.k id)
  (hW:∀k,k<W.heap.size→W'.heap[k]? = W.heap[k]?∨∃id b0,S.h id=some b0∧Occ G id b0 k∧b0.fz=false∧(lk rest id).isSome=true)
  (hocc:∀k,Occ (G.add fr loc hd ln sz) fr b k→W.heap.size≤k∨∃id b0,S.h id=some b0∧Occ G id b0 k∧b0.fz=false∧(lk rest id).isSome=true)
  (hsize:W.heap.size≤W'.heap.size) (hos:W'.os=W.os∧W'.tape=W.tape∧W'.output=W.output)
  (hb:∀(K':Nat→Prop),(∀i,S.k i→K' i)→Ext G S.k W (G.add fr loc hd ln sz) K' W'→BlkR (G.add fr loc hd ln sz) K' W' fr b) :
  Sim cx (G.add fr loc hd ln sz) { S with H:=((fr,b)::rest)++S.H } tm W'∧Ext G S.k W (G.add fr loc hd ln sz) (St.k { S with H:=((fr,b)::rest)++S.H }) W':=by
 have hWF:∀k,G.F k→W'.heap[k]? = W.heap[k]?:=by
  intro k hk
  rcases hW k (hS.fr k hk) with h | ⟨id,b0,h0,ho,hz,_⟩
  ·exact h
  ·exact absurd hk (hS.sep id b0 k h0 ho hz)
 have hE:Ext G S.k W (G.add fr loc hd ln sz) (St.k { S with H:=((fr,b)::rest)++S.H }) W':=Gh.add_ext (not_k hf) (fun i hi=>k_append hi) hWF
 have hlk:∀i b',lk ((fr,b)::rest) i=some b'→(i=fr∧b'=b)∨b' = .gone:=by
  intro i b' h
  rw [lk_cons] at h
  split at h
  ·cases h;subst_vars;exact .inl ⟨rfl,rfl⟩
  ·exact .inr (hrest i b' h).1
 refine ⟨hS.upd _ hE ⟨hos.1.trans hS.frm.os,hos.2.1.trans hS.frm.tape,hos.2.2.trans hS.frm.output,Nat.le_trans hS.frm.size hsize,fun k hk hm=>?_⟩ hsize ?_ ?_ ?_ ?_ ?_ ?_,hE⟩
 ·rw [← hS.frm.block k hk hm]
  rcases hW k (Nat.lt_of_lt_of_le hk hS.frm.size) with h | ⟨id,b0,h0,ho,hz,_⟩
  ·exact h
  ·rcases hS.own id b0 k h0 ho hz with h | h
   ·omega
   ·exact absurd h hm
 ·intro i b' h
  rcases hlk i b' h with ⟨rfl,rfl⟩ | h
  ·exact .inr (hb _ (fun i hi=>k_append hi) hE)
  ·exact .inl h
 ·intro i b' k hn hb' ho
  rcases hW k (ho.lt (hS.blks i b' hb')) with h | ⟨id,b0,h0,ho0,hz,hs⟩
  ·exact h
  ·have:=hS.inj i id b' b0 k hb' h0 ho ho0
   subst this
   rw [lk_cons] at hn
   split at hn
   ·cases hn
   ·rw [hn] at hs;cases hs
 ·intro i b' k h ho
  rcases hlk i b' h with ⟨rfl,rfl⟩ | h
  ·rcases hocc k ho with h | ⟨id,b0,h0,ho0,hz,hs⟩
   ·exact .inl h
   ·exact .inr ⟨id,b0,h0,ho0,.inl hz,lk_mono _ _ _ hs⟩
  ·subst h;exact ho.elim
 ·intro i j bi bj k hi hj hoi hoj
  rcases hlk i bi hi with ⟨rfl,rfl⟩ | h
  ·rcases hlk j bj hj with ⟨rfl,rfl⟩ | h
   ·rfl
   ·subst h;exact hoj.elim
  ·subst h;exact hoi.elim
 ·intro k hk;exact .inl hk
 ·intro i b' k h ho
  rcases hlk i b' h with ⟨rfl,rfl⟩ | h
  ·refine ⟨fun h=>(by rw [hfz] at h;cases h),fun _ hk=>?_⟩
   rcases hocc k ho with h | ⟨id,b0,h0,ho0,hz,hs⟩
   ·have:=hS.fr k hk;omega
   ·exact hS.sep id b0 k h0 ho0 hz hk
  ·subst h;exact ho.elim
theorem drewAlloc_old (W:World) (o:Obj) (k:Nat) (h:k<W.heap.size):(W.drew.alloc o).heap[k]? = W.heap[k]?:=heap_alloc_old W.drew o k h
theorem drewAlloc_new (W:World) (o:Obj):(W.drew.alloc o).heap[W.heap.size]? = some o:=heap_alloc_new W.drew o
theorem fresh_rowG (hS:Sim cx G S tm W) {fr:Nat} (hf:lk S.H fr=none) (rest:Up E) (hrest:∀id b',lk rest id=some b'→b' = .gone∧S.k id) {e:Nat} {t:Ty} {xs:List (Ty.D E.S t)} {cs tail:List Value} {d cap:Nat} (hsz:0<tsz E t)
  (hr:RowC E W G.F d t xs cs) (hcap:xs.length≤cap) (hmax:cap≤maxLen) (htail:cap * tsz E t≤(cs++tail).length)
  (hold:∀k,k<W.heap.size→W'.heap[k]? = W.heap[k]?) (hnew:CellsAt t.mk W' W.heap.size (cs++tail).toArray e) (hsize:W.heap.size≤W'.heap.size) (hos:W'.os=W.os∧W'.tape=W.tape∧W'.output=W.output) :
  ∃G',Sim cx G' { S with H:=((fr,.row e t xs false)::rest)++S.H } tm W'∧Ext G S.k W G' (St.k { S with H:=((fr,Blk.row e t xs false)::rest)++S.H }) W'∧AVR (E:=E) G' (St.k { S with H:=((fr,Blk.row e t xs false)::rest)++S.H }) W' (.a (.own fr)) (.slice (some ⟨W.heap.size,0,none⟩) xs.length cap):=by
 obtain ⟨h1,h2⟩:=hS.newRow (W':=W') hf (.row e t xs false) rest W.heap.size (.slice (some ⟨W.heap.size,0,none⟩) xs.length cap) xs.length (tsz E t) rfl hrest (fun k hk=>.inl (hold k hk))
  (fun k ho=>.inl (by have:=ho.1;simp only [Gh.add,updf_same] at this;omega)) hsize hos (fun K' hK hE=>by
   refine ⟨by simp [Gh.add,updf_same],by simp [Gh.add,updf_same],hsz,?_⟩
   simp only [Gh.add,updf_same]
   rcases Nat.eq_zero_or_pos cap with h0 | h0
   ·have hx:xs=[]:=List.eq_nil_of_length_eq_zero (by omega)
    exact .inl ⟨some ⟨W.heap.size,0,none⟩,by rw [hx,h0];rfl,hx⟩
   ·refine .inr ⟨cap,(cs++tail).toArray,d,rfl,h0,hnew,hcap,hmax,by simpa using htail,fun i hi=>?_⟩
    have:=(hr.2 i hi).mono fun t x v=>RoA.more (fun _ h=>h) hE.W d d (Nat.le_refl _) t x v
    rw [← seg_append_left cs tail] at this
    ·exact this
    ·rw [hr.1]
     have:(i+1) * tsz E t≤xs.length * tsz E t:=Nat.mul_le_mul_right _ hi
     rw [Nat.add_mul] at this
     omega)
 refine ⟨_,h1,h2,?_,by simp [Gh.add,updf_same],_,_,_,rfl⟩
 unfold St.k;simp [lk_cons]
theorem fresh_row (hS:Sim cx G S tm W) {fr:Nat} (hf:lk S.H fr=none) (rest:Up E) (hrest:∀id b',lk rest id=some b'→b' = .gone∧S.k id) {e:Nat} {t:Ty} {xs:List (Ty.D E.S t)} {cs tail:List Value} {d cap:Nat} (hsz:0<tsz E t)
  (hr:RowC E W G.F d t xs cs) (hcap:xs.length≤cap) (hmax:cap≤maxLen) (htail:cap * tsz E t≤(cs++tail).length)
  (hW':W'=W.alloc (.cells (cs++tail).toArray e)∨W'=W.drew.alloc (.cells (cs++tail).toArray e)) :
  ∃G',Sim cx G' { S with H:=((fr,.row e t xs false)::rest)++S.H } tm W'∧Ext G S.k W G' (St.k { S with H:=((fr,Blk.row e t xs false)::rest)++S.H }) W'∧AVR (E:=E) G' (St.k { S with H:=((fr,Blk.row e t xs false)::rest)++S.H }) W' (.a (.own fr)) (.slice (some ⟨W.heap.size,0,none⟩) xs.length cap):=by
 have hold:∀k,k<W.heap.size→W'.heap[k]? = W.heap[k]?:=by rcases hW' with rfl | rfl;exact fun k h=>heap_alloc_old W _ k h;exact fun k h=>drewAlloc_old W _ k h
 have hnew:W'.heap[W.heap.size]? = some (.cells (cs++tail).toArray e (0,0)):=by rcases hW' with rfl | rfl;exact heap_alloc_new W _;exact drewAlloc_new W _
 have hsize:W.heap.size≤W'.heap.size:=by rcases hW' with rfl | rfl<;>simp
 have hos:W'.os=W.os∧W'.tape=W.tape∧W'.output=W.output:=by rcases hW' with rfl | rfl<;>exact ⟨rfl,rfl,rfl⟩
 exact fresh_rowG hS hf rest hrest hsz hr hcap hmax htail hold (.of hnew) hsize hos
theorem zeroCells_length (z:Array Value) (n:Nat):(Builtin.zeroCells z n).toList.length=n * z.size:=by simp [Builtin.zeroCells]
theorem row_cells {id:Nat} {e:Nat} {t:Ty} {xs:List (Ty.D E.S t)} {cur:Array Value} {cap d:Nat} (hcur:cap * tsz E t≤cur.size) (hlen:xs.length≤cap) (hel:∀(i:Nat) (hi:i<xs.length),RoE E (RoA E W G.F d) t xs[i] ((cur.toList.drop (i * tsz E t)).take (tsz E t))) :
  RowC E W G.F d t xs (cur.toList.take (xs.length * tsz E t)):=by
 have hm:xs.length * tsz E t≤cap * tsz E t:=Nat.mul_le_mul_right _ hlen
 refine ⟨by simp;omega,fun i hi=>?_⟩
 have he:seg (cur.toList.take (xs.length * tsz E t)) i (tsz E t)=seg cur.toList i (tsz E t):=by
  apply List.ext_getElem?
  intro j
  rw [seg_get,seg_get]
  by_cases hj:j<tsz E t
  ·rw [if_pos hj,if_pos hj,List.getElem?_take,if_pos]
   have:(i+1) * tsz E t≤xs.length * tsz E t:=Nat.mul_le_mul_right _ hi
   rw [Nat.add_mul] at this
   omega
  ·rw [if_neg hj,if_neg hj]
 rw [he]
 exact hel i hi
theorem ofAt_src (hS:Sim cx G S tm W) {e:Nat} {t:Ty} {x:At E} {v:Value} (hx:AtR G S.k W x v) (h0:0<tsz E t) {l l':List Nat} {ys:List (Ty.D E.S t)} (h:RM.Out S.h (srcAt E e t x) l ys l') :
  ∃d cs,RowC E W G.F d t ys cs∧Src P W (tsz E t) v ys.length cs:=by
 cases x with
 | ro e' t' xs=>
  obtain ⟨rfl,rfl,rfl⟩:=castR_sound h
  obtain ⟨n,hn⟩:=hx
  cases n with
  | zero=>exact hn.elim
  | succ n=>
   have hn':=hn
   obtain ⟨A,c,hv',_⟩:=hn'
   rw [hv'] at hn ⊢
   obtain ⟨_,cs,hr,hs⟩:=hn.src (P:=P) h0
   exact ⟨n,cs,hr,hs⟩
 | own id=>
  obtain ⟨b,hb,h⟩:=h
  have hB:=hS.blks id b hb
  dsimp only at h
  split at h
  ·rename_i e' t' xs f
   obtain ⟨rfl,rfl,rfl⟩:=castR_sound h
   obtain ⟨b1,b2,b3,hrow⟩:=hB
   rw [hx.2.1]
   rcases hrow with ⟨A,hA,hnil⟩ | ⟨cap,cur,d,hhd,hcap,hh,hlen,hmax,hcur,hel⟩
   ·subst hnil
    rw [hA]
    exact ⟨0,[],⟨by simp,fun i hi=>absurd hi (by simp)⟩,Src.slice (by simp) (fun h=>absurd h (by simp)) (fun _=>rfl)⟩
   ·have hr:=row_cells (G:=G) (W:=W) (id:=id) (e:=e) hcur hlen hel
    rw [hhd]
    refine ⟨d,_,hr,Src.slice hr.1 (fun _=>⟨_,rfl,fun j hj=>?_⟩) (fun h=>?_)⟩
    ·rw [hh.cell _ _ rfl]
     simp at hj ⊢
    ·have h1:=hr.1
     rw [h] at h1
     rcases Nat.mul_eq_zero.1 h1.symm with h | h
     ·exact h
     ·omega
  ·exact h.elim
 | sub id off len=>
  obtain ⟨b,hb,h⟩:=h
  have hB:=hS.blks id b hb
  dsimp only at h
  split at h
  ·rename_i e' t' xs f
   obtain ⟨hlen',h⟩:=h
   simp only [decide_eq_true_eq] at hlen'
   obtain ⟨rfl,rfl,rfl⟩:=castR_sound h
   obtain ⟨b1,b2,b3,hrow⟩:=hB
   obtain ⟨hk,hol,A,c,hv,hlc,hA⟩:=hx
   have hl:((xs.drop off).take len).length=len:=by simp;omega
   rw [hv]
   show ∃d cs,RowC E W G.F d t' ((xs.drop off).take len) cs∧Src P W (tsz E t') _ ((xs.drop off).take len).length cs
   rw [hl]
   rcases hrow with ⟨A',hA',hnil⟩ | ⟨cap,cur,d,hhd,hcap,hh,hlen,hmax,hcur,hel⟩
   ·subst hnil
    have h00:len=0:=by simp at hlen';omega
    subst h00
    exact ⟨0,[],⟨by simp,fun i hi=>absurd hi (by simp)⟩,Src.slice (by simp) (fun h=>absurd h (by simp)) (fun _=>rfl)⟩
   ·have hr:=row_cells (G:=G) (W:=W) (id:=id) (e:=e) hcur hlen hel
    have hcl:((cur.toList.drop (off * tsz E t')).take (len * tsz E t')).length=len * tsz E t':=by
     have:(off+len) * tsz E t'≤cap * tsz E t':=Nat.mul_le_mul_right _ (by omega)
     rw [Nat.add_mul] at this
     simp;omega
    refine ⟨d,(cur.toList.drop (off * tsz E t')).take (len * tsz E t'),⟨by rw [hcl,hl],fun i hi=>?_⟩,Src.slice hcl (fun h0=>⟨_,(hA ?_).1,fun j hj=>?_⟩) (fun h=>?_)⟩
    ·have hi':i<len:=by omega
     have:=hel (off+i) (by omega)
     have he:seg ((cur.toList.drop (off * tsz E t')).take (len * tsz E t')) i (tsz E t')=seg cur.toList (off+i) (tsz E t'):=by
      apply List.ext_getElem?
      intro j
      rw [seg_get,seg_get]
      by_cases hj:j<tsz E t'
      ·rw [if_pos hj,if_pos hj,List.getElem?_take,if_pos,List.getElem?_drop]
       ·congr 1
        rw [Nat.add_mul]
        omega
       ·have:(i+1) * tsz E t'≤len * tsz E t':=Nat.mul_le_mul_right _ hi'
        rw [Nat.add_mul] at this
        omega
      ·rw [if_neg hj,if_neg hj]
     rw [he]
     unfold seg
     simpa using this
    ·rcases Nat.eq_zero_or_pos len with h | h
     ·subst h;simp at h0
     ·omega
    ·rw [b2,hh.cell _ _ rfl]
     have hj':j<len * tsz E t':=by rw [← hcl];exact hj
     have hjc:off * tsz E t'+j<cur.size:=by
      rw [hcl] at hj
      have:(off+len) * tsz E t'≤cap * tsz E t':=Nat.mul_le_mul_right _ (by omega)
      rw [Nat.add_mul] at this
      omega
     rw [Array.getElem?_eq_getElem hjc]
     simp
    ·rw [hcl] at h
     rcases Nat.mul_eq_zero.1 h with h | h
     ·exact h
     ·omega
  ·exact h.elim
 | nils=>
  obtain rfl:=h.1
  obtain ⟨A,hv⟩:=hx
  rw [hv]
  exact ⟨0,[],⟨by simp,fun i hi=>absurd hi (by simp)⟩,Src.slice (by simp) (fun h=>absurd h (by simp)) (fun _=>rfl)⟩
 | _=>exact h.elim
theorem elems_sound (hS:Sim cx G S a.tmps W) {e:TypeId} {ty:Ty} {y:Operand} {l l':List Nat} {ys:List (Ty.D E.S ty)} (h:RM.Out S.h (elems E e ty (evO (lk S.ρ) y)) l ys l') (h0:0<tsz E ty) :
  ∃d cs,RowC E W G.F d ty ys cs∧Src P W (tsz E ty) (a.eval y) ys.length cs:=by
 unfold elems at h
 split at h
 ·rename_i s hy
  have hy:=ev_sound hS hy
  split at h
  ·obtain rfl:=h.1
   rw [show a.eval y = .string s from hy]
   refine ⟨0,(bytesOf s).map (Value.int .u8),⟨by simp [tsz],fun i hi=>?_⟩,?_⟩
   ·refine ⟨.int .u8 (bytesOf s)[i],?_,rfl⟩
    unfold seg
    simp only [tsz,Nat.mul_one]
    rw [List.drop_eq_getElem_cons (by simpa using hi)]
    simp
   ·have:=Src.string (P:=P) (W:=W) s
    have hl:s.size=(bytesOf s).length:=by simp [bytesOf]
    rw [hl] at this
    exact this
  ·exact h.elim
 ·rename_i x hx1 hy
  exact ofAt_src hS (ev_sound hS hy) h0 h
 ·exact h.elim
theorem Tb.elem_some (hT:T.OK P) {t e:TypeId} {ty:Ty} (h:T.elem t=some (e,ty)):P.underlying t=some (.slice e):=by
 unfold Tb.elem at h
 split at h
 ·rename_i e' hu
  obtain ⟨ty',_,h2⟩:=Option.map_eq_some_iff.1 h
  cases h2
  exact hT.und _ _ hu
 ·cases h
theorem notInt_some (hT:T.OK P) {u:TypeId} (h:notInt T u=true):(∃q,P.underlying u=some (.slice q))∨P.underlying u=some .string:=by
 unfold notInt at h
 split at h
 ·rename_i q hu;exact .inl ⟨q,hT.und _ _ hu⟩
 ·rename_i hu;exact .inr (hT.und _ _ hu)
 ·cases h
theorem info_of (hT:T.OK P) {e:TypeId} {b sz:Nat} (hb:T.bytes e=some b) (hs:T.size e=some sz) (hz:zOK T e sz=true):∃i z,P.info? e=some i∧i.bytes=b∧i.size=sz∧i.zero=some z∧z.cells.size=sz:=by
 have h1:=hT.bytes _ _ hb
 have h2:=hT.size _ _ hs
 unfold zOK at hz
 split at hz
 rotate_left
 ·cases hz
 rename_i z hzz
 have hzl:=Nat.eq_of_beq_eq_true hz
 have h3:=hT.zero _ _ hzz
 cases hi:P.info? e with
 | none=>rw [hi] at h1;cases h1
 | some i=>
  rw [hi] at h1 h2 h3
  simp only [Option.map_some,Option.some.injEq,Option.bind_some] at h1 h2 h3
  exact ⟨i,z,rfl,h1,h2,h3,by simpa using hzl⟩
theorem inplace_row (hS:Sim cx G S tm W) {fr id:Nat} (hf:lk S.H fr=none) {e:Nat} {t:Ty} {xs zs:List (Ty.D E.S t)} {cap d n:Nat} {cur:List Value} {ys:List (Ty.D E.S t)} {cs ds:List Value} (hb:S.h id=some (.row e t xs false)) (hsz:0<tsz E t)
  (hhd:0<capOf (G.hd id)) (hcap:0<cap) (hh:CellsAt t.mk W (G.loc id) cur.toArray e) (hmax:cap≤maxLen) (hcur:cap * tsz E t≤cur.length)
  (hr:RowC E W G.F d t zs cs) (hcs:cs=cur.take (n * tsz E t)) (hn:zs.length=n) (hys:RowC E W G.F d t ys ds) (hroom:n+ys.length≤cap) (hone:∀v∈ds,v.oneCell'=true) :
  ∃W',(storeCells ⟨G.loc id,n * tsz E t,none⟩ ds).run P W = .ok () W'∧∃G',Sim cx G' { S with H:=[(fr,.row e t (zs++ys) false),(id,.gone)]++S.H } tm W'∧Ext G S.k W G' (St.k { S with H:=[(fr,Blk.row e t (zs++ys) false),(id,.gone)]++S.H }) W'∧
   AVR (E:=E) G' (St.k { S with H:=[(fr,Blk.row e t (zs++ys) false),(id,.gone)]++S.H }) W' (.a (.own fr)) (.slice (some ⟨G.loc id,0,none⟩) (n+ys.length) cap):=by
 have hdl:ds.length=ys.length * tsz E t:=hys.1
 have hle:n * tsz E t+ds.length≤cur.length:=by
  have:(n+ys.length) * tsz E t≤cap * tsz E t:=Nat.mul_le_mul_right _ hroom
  rw [Nat.add_mul] at this
  omega
 have hrun:=run_putC (P:=P) (o:=n * tsz E t) (vs:=ds) hh hle hone
 have hrowO:∀k,Occ G id (.row e t xs false:Blk E) k↔k=G.loc id:=fun k=>⟨fun h=>h.1,fun h=>⟨h,hhd⟩⟩
 have hfi:fr≠id:=fun e=>by have:=St.h_k hb;unfold St.k at this;rw [← e,hf] at this;cases this
 refine ⟨_,hrun,G.add fr (G.loc id) (.slice (some ⟨G.loc id,0,none⟩) (n+ys.length) cap) (n+ys.length) (tsz E t),?_⟩
 obtain ⟨h1,h2⟩:=hS.newRow (W':=W.setRow (G.loc id) (putAt cur (n * tsz E t) ds).toArray) hf (.row e t (zs++ys) false) [(id,.gone)] (G.loc id) (.slice (some ⟨G.loc id,0,none⟩) (n+ys.length) cap) (n+ys.length) (tsz E t) rfl
  (fun i b' h=>by
   rw [lk_cons] at h
   split at h
   ·cases h;subst_vars;exact ⟨rfl,St.h_k hb⟩
   ·cases h)
  (fun k hk=>by
   by_cases hkl:k=G.loc id
   ·exact .inr ⟨id,_,hb,(hrowO k).2 hkl,rfl,by simp [lk_cons]⟩
   ·exact .inl (setRow_other W _ k _ hkl))
  (fun k ho=>by
   have:=ho.1
   simp only [Gh.add,updf_same] at this
   exact .inr ⟨id,_,hb,(hrowO k).2 this,rfl,by simp [lk_cons]⟩)
  (by simp) setRow_same (fun K' hK hE=>by
   refine ⟨by simp [Gh.add,updf_same,hn],by simp [Gh.add,updf_same],hsz,.inr ⟨cap,(putAt cur (n * tsz E t) ds).toArray,d,?_⟩⟩
   simp only [Gh.add,updf_same]
   refine ⟨by simp [hn],hcap,hh.put hle,by simp [hn];exact hroom,hmax,by simp [putAt_length _ _ _ hle];exact hcur,fun i hi=>?_⟩
   have hall:=(hr.append hys).more (W':=W.setRow (G.loc id) (putAt cur (n * tsz E t) ds).toArray) (F':=G.F) (fun _ h=>h) hE.W (Nat.le_refl d)
   have hput:putAt cur (n * tsz E t) ds=(cs++ds)++cur.drop (n * tsz E t+ds.length):=by unfold putAt;rw [hcs]
   have:=hall.2 i hi
   show RoE E _ t _ (seg (putAt cur (n * tsz E t) ds) i (tsz E t))
   have e2:seg (putAt cur (n * tsz E t) ds) i (tsz E t)=seg (cs++ds) i (tsz E t):=by
    rw [hput,seg_append_left]
    rw [hall.1]
    have:(i+1) * tsz E t≤(zs++ys).length * tsz E t:=Nat.mul_le_mul_right _ hi
    rw [Nat.add_mul] at this
    omega
   rw [e2]
   exact this)
 refine ⟨h1,h2,?_,by simp [Gh.add,updf_same],_,_,_,rfl⟩
 unfold St.k;simp [lk_cons]
theorem RoA.one {F:Nat→Prop} {d:Nat} {t:Ty} {x:Ty.D E.S t} {v:Value} (h:RoA E W F d t x v):v.oneCell'=true:=by
 cases t with
 | slice e t=>
  cases d with
  | zero=>exact h.elim
  | succ d=>obtain ⟨A,c,hv,_⟩:=h;rw [hv];rfl
 | rsl e t=>
  cases d with
  | zero=>exact h.elim
  | succ d=>obtain ⟨A,c,hv,_⟩:=h;rw [hv];rfl
 | st n=>cases d<;>exact h.elim
 | arr k n=>cases d<;>exact h.elim
 | pbx b n=>cases d<;>exact h.elim
 | _=>cases d<;>(rw [show v=_ from h];rfl)
theorem RoL.ones {F:Nat→Prop} {d:Nat}:∀ {ts:List Ty} {x:HT E.S ts} {vs:List Value},RoL E (RoA E W F d) ts x vs→∀v∈vs,v.oneCell'=true
 | [],_,_,h,v,hv=>by rw [RoL] at h;subst h;cases hv
 | _::_,_,_,⟨w,r,hw,ha,hr⟩,v,hv=>by
  subst hw
  rcases List.mem_cons.1 hv with rfl | hv
  ·exact ha.one
  ·exact hr.ones v hv
theorem RoE.ones {F:Nat→Prop} {d:Nat} {t:Ty} {x:Ty.D E.S t} {vs:List Value} (h:RoE E (RoA E W F d) t x vs):∀v∈vs,v.oneCell'=true:=by
 cases t with
 | st n=>exact RoL.ones h
 | _=>obtain ⟨w,rfl,ha⟩:=h;intro v hv;rw [List.mem_singleton] at hv;subst hv;exact ha.one
theorem RowC.ones {F:Nat→Prop} {d:Nat} {t:Ty} {xs:List (Ty.D E.S t)} {cs:List Value} (h:RowC E W F d t xs cs):∀v∈cs,v.oneCell'=true:=by
 intro v hv
 obtain ⟨j,hj,rfl⟩:=List.getElem_of_mem hv
 have hj':j<xs.length * tsz E t:=by rw [← h.1];exact hj
 have hpos:0<tsz E t:=by
  rcases Nat.eq_zero_or_pos (tsz E t) with h0 | h0
  ·rw [h0] at hj';simp at hj'
  ·exact h0
 have hi:j / tsz E t<xs.length:=Nat.div_lt_of_lt_mul (by rw [Nat.mul_comm];exact hj')
 refine (h.2 _ hi).ones _ ?_
 have hg:(seg cs (j / tsz E t) (tsz E t))[j % tsz E t]? = some cs[j]:=by
  rw [seg_get,if_pos (Nat.mod_lt _ hpos),Nat.mul_comm,Nat.div_add_mod]
  exact List.getElem?_eq_getElem hj
 exact List.mem_of_getElem? hg
theorem append_sound (hT:T.OK P) {fr:Nat} (hf:lk S.H fr=none) (hS:Sim cx G S a.tmps W) {t u rty:TypeId} {x y:Operand} {l l':List Nat} {r:Res E} (h:RM.Out S.h (aAppend T fr t u (evO (lk S.ρ) x) (evO (lk S.ρ) y)) l r l') :
  Ends P cx G S a W (Builtin.append_ #[t,u] rty #[a.eval x,a.eval y]) r:=by
 unfold aAppend at h
 split at h
 rotate_left
 ·exact h.elim
 rename_i e ty helem
 have hu:=Tb.elem_some hT helem
 split at h
 rotate_left
 ·exact h.elim
 rename_i b sz hby hsz
 have hb':=RM.Out_bif h;clear h;obtain ⟨hc,h⟩:=hb'
 simp only [Bool.and_eq_true] at hc
 obtain ⟨⟨⟨⟨hc1,hc2⟩,hc3⟩,hc4⟩,hc5⟩:=hc
 obtain rfl:=Nat.eq_of_beq_eq_true hc1
 have hpos:0<tsz E ty:=Nat.le_of_ble_eq_true hc2
 have hbpos:0<b:=Nat.le_of_ble_eq_true hc3
 have hun:=notInt_some hT hc4
 obtain ⟨i,z,hi,rfl,hisz,hz,hzs⟩:=info_of hT hby hsz hc5
 obtain ⟨ys,l1,hys,h⟩:=RM.Out_bind h
 obtain ⟨dy,ds,hrow,hsrc⟩:=elems_sound (P:=P) hS hys hpos
 rw [← hisz] at hsrc
 have grows:∀(rest:Up E) (A:Option Addr) (n cap:Nat) (d:Nat) (zs:List (Ty.D E.S ty)) (cs:List Value),(∀id b',lk rest id=some b'→b' = .gone∧S.k id)→zs.length=n→RowC E W G.F d ty zs cs→Src P W i.size (.slice A n cap) n cs→a.eval x = .slice A n cap→cap<n+ys.length→room (n+ys.length) i.bytes=true→
   Ends P cx G S a W (Builtin.append_ #[t,u] rty #[a.eval x,a.eval y]) (.a (.own fr),(fr,.row e ty (zs++ys) false)::rest):=by
  intro rest A n cap d zs cs hrest hn hr hold hx hg hroom
  have hroom:(n+ys.length) * i.bytes≤140737488355328:=by simpa [room] using hroom
  rw [hx]
  obtain ⟨cap',hle,hmax,hrun⟩:=append_grows t u rty e i z hu hun hi hz hsrc hold hg hroom hbpos
  have hr':=(hr.more (F':=G.F) (fun _ h=>h) (fun _ _=>rfl) (Nat.le_max_left d dy)).append (hrow.more (F':=G.F) (fun _ h=>h) (fun _ _=>rfl) (Nat.le_max_right d dy))
  have hlen:(zs++ys).length=n+ys.length:=by simp [hn]
  obtain ⟨G',h1,h2,h3⟩:=fresh_row (W':=W.drew.alloc (.cells (cs++ds++(Builtin.zeroCells z.cells (cap' - (n+ys.length))).toList).toArray e)) hS hf rest hrest hpos hr' (by rw [hlen];exact hle) hmax (by
   rw [List.length_append,hr'.1,zeroCells_length,hzs,hlen,← Nat.add_mul]
   exact Nat.mul_le_mul_right _ (by omega)) (.inr rfl)
  rw [hlen] at h3
  exact ⟨_,_,_,hrun,h1,h2,h3⟩
 have own:∀(id:Nat) (xs:List (Ty.D E.S ty)) (n c:Nat) (A:Option Addr),S.h id=some (.row e ty xs false)→n≤xs.length→a.eval x = .slice A n c→n≤c→
   (0<c→A=some ⟨G.loc id,0,none⟩∧c≤capOf (G.hd id))→room (n+ys.length) i.bytes=true→
   Ends P cx G S a W (Builtin.append_ #[t,u] rty #[a.eval x,a.eval y]) (.a (.own fr),[(fr,.row e ty (xs.take n++ys) false),(id,.gone)]):=by
  intro id xs n c A hb hn hx hnc hA hroom
  have hrest:∀j b',lk ([(id,.gone)]:Up E) j=some b'→b' = .gone∧S.k j:=by
   intro j b' h
   rw [lk_cons] at h
   split at h
   ·cases h;subst_vars;exact ⟨rfl,St.h_k hb⟩
   ·cases h
  have hB:=hS.blks id _ hb
  obtain ⟨b1,b2,b3,hrowB⟩:=hB
  rcases Nat.eq_zero_or_pos c with h0 | h0
  ·-- no room at all
   subst h0
   have hn0:n=0:=by omega
   subst hn0
   rcases Nat.eq_zero_or_pos ys.length with hy | hy
   ·have hyn:ys=[]:=List.eq_nil_of_length_eq_zero hy
    subst hyn
    have hds:ds=[]:=List.eq_nil_of_length_eq_zero (by rw [hrow.1];simp)
    subst hds
    have hrun:=append_room t u rty e i hu hun hi hsrc (base:=A) (sLen:=0) (sCap:=0) (W1:=W) (by simp) (fun a _=>by simp [storeCells]) (fun _=>rfl)
    obtain ⟨h1,h2⟩:=hS.newRow (W':=W) hf (.row e ty ([]:List (Ty.D E.S ty)) false) [(id,.gone)] 0 (.slice A 0 0) 0 (tsz E ty) rfl hrest (fun k _=>.inl rfl) (fun k ho=>absurd ho.2 (by simp [Gh.add,updf_same,capOf])) (Nat.le_refl _) ⟨rfl,rfl,rfl⟩
     (fun K' hK hE=>⟨by simp [Gh.add,updf_same],by simp [Gh.add,updf_same],hpos,.inl ⟨A,by simp [Gh.add,updf_same],rfl⟩⟩)
    rw [hx]
    refine ⟨_,_,_,hrun,by simpa using h1,by simpa using h2,?_,by simp [Gh.add,updf_same],_,_,_,rfl⟩
    unfold St.k;simp [lk_cons]
   ·have:=grows [(id,.gone)] A 0 0 0 (xs.take 0) [] hrest (by simp) ⟨by simp,fun i hi=>absurd hi (by simp)⟩ (Src.slice (by simp) (fun h=>absurd h (by simp)) (fun _=>rfl)) hx (by omega) hroom
    exact this
  ·obtain ⟨hA,hcc⟩:=hA h0
   rcases hrowB with ⟨A',hA',hnil⟩ | ⟨cap,cur,d,hhd,hcap,hh,hlen,hmax,hcur,hel⟩
   ·rw [hA'] at hcc;simp [capOf] at hcc;omega
   ·have hcc:c≤cap:=by rw [hhd] at hcc;exact hcc
    have hr0:=row_cells (G:=G) (W:=W) (id:=id) (e:=e) hcur hlen hel
    have hr:=hr0.take n hn
    have hle:n * tsz E ty≤xs.length * tsz E ty:=Nat.mul_le_mul_right _ hn
    have htk:(cur.toList.take (xs.length * tsz E ty)).take (n * tsz E ty)=cur.toList.take (n * tsz E ty):=by rw [List.take_take,Nat.min_eq_left hle]
    rw [htk] at hr
    have hheap:=hh.arr
    subst hA
    by_cases hfit:n+ys.length≤c
    ·have hdm:=(hr.more (F':=G.F) (fun _ h=>h) (fun _ _=>rfl) (Nat.le_max_left d dy))
     have hym:=(hrow.more (F':=G.F) (fun _ h=>h) (fun _ _=>rfl) (Nat.le_max_right d dy))
     obtain ⟨W',hst,G',h1,h2,h3⟩:=inplace_row (P:=P) (cap:=c) hS hf hb hpos (by rw [hhd];exact hcap) h0 hheap (by omega) (by
      have:c * tsz E ty≤cap * tsz E ty:=Nat.mul_le_mul_right _ hcc
      simp;omega) hdm rfl (by simp;omega) hym hfit hrow.ones
     have hrun:=append_room t u rty e i hu hun hi hsrc (base:=some ⟨G.loc id,0,none⟩) (sLen:=n) (sCap:=c) (W1:=W') hfit (fun ad had=>by cases had;rw [hisz,add_lit,Nat.zero_add];exact hst) (fun h=>by cases h)
     rw [hx]
     exact ⟨_,_,_,hrun,h1,h2,h3⟩
    ·have hcl:n * tsz E ty≤cur.size:=by
      have:n * tsz E ty≤cap * tsz E ty:=Nat.mul_le_mul_right _ (by omega)
      omega
     exact grows [(id,.gone)] _ n c d (xs.take n) _ hrest (by simp;omega) hr (by
      rw [hisz]
      have htl:(cur.toList.take (n * tsz E ty)).length=n * tsz E ty:=by simp;omega
      refine Src.slice htl (fun _=>⟨_,rfl,fun j hj=>?_⟩) (fun h=>?_)
      ·rw [hh.cell _ _ rfl]
       simp at hj ⊢
      ·rw [htl] at h
       rcases Nat.mul_eq_zero.1 h with h | h
       ·exact h
       ·omega) hx (by omega) hroom
 split at h
 ·rename_i id hx
  have hx:=ev_sound hS hx
  obtain ⟨b,hb,h⟩:=h
  dsimp only at h
  split at h
  ·rename_i e' ty' xs
   have hb2:=RM.Out_bind h;clear h;obtain ⟨xs',l2,hcast,h⟩:=hb2
   obtain ⟨rfl,rfl,rfl⟩:=castR_sound hcast
   obtain ⟨hroom,h⟩:=h
   obtain rfl:=h.1
   obtain ⟨b1,b2,b3,hrowB⟩:=hS.blks id _ hb
   have hxv:=hx.2.1
   rcases hrowB with ⟨A',hA',hnil⟩ | ⟨cap,cur,d,hhd,hcap,hh,hlen,hmax,hcur,hel⟩
   ·subst hnil
    have:=own id [] 0 0 A' hb (Nat.le_refl _) (hxv.trans hA') (Nat.le_refl _) (fun h=>absurd h (by omega)) hroom
    simpa using this
   ·have:=own id xs' xs'.length cap _ hb (Nat.le_refl _) (hxv.trans hhd) hlen (fun _=>⟨rfl,by rw [hhd];exact Nat.le_refl _⟩) hroom
    simpa using this
  ·exact h.elim
 ·rename_i id len hx
  have hx:=ev_sound hS hx
  obtain ⟨b,hb,h⟩:=h
  dsimp only at h
  split at h
  ·rename_i e' ty' xs
   have hb2:=RM.Out_bind h;clear h;obtain ⟨xs',l2,hcast,h⟩:=hb2
   obtain ⟨rfl,rfl,rfl⟩:=castR_sound hcast
   obtain ⟨hroom,h⟩:=h
   obtain rfl:=h.1
   obtain ⟨hk,hol,A,c,hv,hlc,hA⟩:=hx
   have b1:=(hS.blks id _ hb).1
   refine own id xs' len c A hb (by omega) hv hlc (fun h0=>?_) hroom
   have:=hA h0
   simpa using this
  ·exact h.elim
 ·rename_i hx
  have hx:=ev_sound hS hx
  obtain ⟨hroom,h⟩:=h
  obtain rfl:=h.1
  obtain ⟨A,hv⟩:=hx
  rcases Nat.eq_zero_or_pos ys.length with hy | hy
  ·have hyn:ys=[]:=List.eq_nil_of_length_eq_zero hy
   subst hyn
   have hds:ds=[]:=List.eq_nil_of_length_eq_zero (by rw [hrow.1];simp)
   subst hds
   have hrun:=append_room t u rty e i hu hun hi hsrc (base:=A) (sLen:=0) (sCap:=0) (W1:=W) (by simp) (fun a _=>by simp [storeCells]) (fun _=>rfl)
   obtain ⟨h1,h2⟩:=hS.newRow (W':=W) hf (.row e ty ([]:List (Ty.D E.S ty)) false) [] 0 (.slice A 0 0) 0 (tsz E ty) rfl (fun j b' h=>by cases h) (fun k _=>.inl rfl) (fun k ho=>absurd ho.2 (by simp [Gh.add,updf_same,capOf])) (Nat.le_refl _) ⟨rfl,rfl,rfl⟩
    (fun K' hK hE=>⟨by simp [Gh.add,updf_same],by simp [Gh.add,updf_same],hpos,.inl ⟨A,by simp [Gh.add,updf_same],rfl⟩⟩)
   rw [hv]
   refine ⟨_,_,_,hrun,h1,h2,?_,by simp [Gh.add,updf_same],_,_,_,rfl⟩
   unfold St.k;simp [lk_cons]
  ·have:=grows [] A 0 0 0 [] [] (fun j b' h=>by cases h) rfl ⟨by simp,fun i hi=>absurd hi (by simp)⟩ (Src.slice (by simp) (fun h=>absurd h (by simp)) (fun _=>rfl)) hv (by omega) (by simpa using hroom)
   simpa using this
 ·exact h.elim
end Mir
namespace Mir
set_option linter.unusedVariables false
set_option linter.unusedSimpArgs false
open Go
variable {E:Env} {P:Program} {T:Tb} {cx:Cx} {G G':Gh} {S:St E} {tm:Array Value} {a:Act} {W W':World}
theorem foldl_put (off:Nat):∀(vs:List Value) (k:Nat) (cells:Array Value),off+k+vs.length≤cells.size→
  ((vs.zipIdx k).foldl (fun (cs:Array Value) (x:Value×Nat)=>cs.setIfInBounds (off+x.2) x.1) cells).toList=putAt cells.toList (off+k) vs
 | [],k,cells,_=>by simp [putAt]
 | v::vs,k,cells,h=>by
  rw [List.zipIdx_cons,List.foldl_cons,foldl_put off vs (k+1) _ (by simp at h ⊢;omega)]
  simp only [Array.toList_setIfInBounds]
  unfold putAt
  have:=list_seg_step cells.toList (off+k) v vs (by simp at h ⊢;omega)
  simpa [Nat.add_assoc] using this
theorem fold_put (vs cells:Array Value) (off:Nat) (h:off+vs.size≤cells.size):(vs.zipIdx.foldl (fun cs (x:Value×Nat)=>cs.setIfInBounds (off+x.2) x.1) cells).toList=putAt cells.toList off vs.toList:=by
 have:=foldl_put off vs.toList 0 cells (by simpa using h)
 rw [← Array.foldl_toList,Array.toList_zipIdx]
 simpa using this
theorem fill_step (place:Nat→Option (Nat×Nat)) (cells:Array Value) (i:Nat) (v:Value) (rest:List (Nat×Value)) {off size:Nat} (hp:place i=some (off,size)) (hs:v.cells.size=size) (hl:off+v.cells.size≤cells.size) :
  Instr.fill place cells ((i,v)::rest)=Instr.fill place (putAt cells.toList off v.cells.toList).toArray rest:=by
 have h1:¬ (v.cells.size≠size||off+v.cells.size > cells.size)=true:=by simp [hs];omega
 simp only [Instr.fill,hp,if_neg h1]
 congr 1
 apply Array.ext'
 rw [fold_put _ _ _ hl]
theorem fills_sound (hT:T.OK P) (hS:Sim cx G S a.tmps W) {fs:Array Field} {place:Nat→Option (Nat×Nat)} (hp:∀(i:Nat) (fd:Field) (n:Nat),fs[i]? = some fd→T.size fd.type=some n→place i=some (fd.offset,n)) :
  ∀ {ps:List (Nat×Operand)} {cs cs':List (At E)} {vs:List Value},AtsR G S.k W cs vs→fills T fs (ps.map fun p=>(p.1,evO (lk S.ρ) p.2)) cs=some cs'→
   ∃vs',Instr.fill place vs.toArray (ps.map fun p=>(p.1,a.eval p.2))=some vs'.toArray∧AtsR G S.k W cs' vs'
 | [],cs,cs',vs,hr,h=>by cases h;exact ⟨vs,rfl,hr⟩
 | (i,x)::ps,cs,cs',vs,hr,h=>by
  simp only [List.map_cons,fills] at h
  split at h
  ·cases h
  ·rename_i fd v hne hfd hv
   split at h
   ·rename_i n hn
    cases hc:(Nat.beq v.cells.length n&&Nat.ble (fd.offset+n) cs.length&&v.cells.all okAt) with
    | false=>rw [hc] at h;cases h
    | true=>
     rw [hc] at h
     simp only [cond_true] at h
     simp only [Bool.and_eq_true] at hc
     have h1:=Nat.eq_of_beq_eq_true hc.1.1
     have h2:=Nat.le_of_ble_eq_true hc.1.2
     have hx:=ev_sound hS (asCv_some hv)
     have hcells:=CvR.cells (K:=S.k) hx hc.2
     have hl1:(a.eval x).cells.toList.length=n:=by rw [hcells.length];exact h1
     have hl2:=hr.length
     rw [List.map_cons,fill_step place vs.toArray i (a.eval x) _ (hp i fd n hfd hn) (by simpa using hl1) (by simp at hl1 ⊢;omega)]
     exact fills_sound hT hS hp (hr.putAt hcells fd.offset) h
   ·cases h
  ·cases h
theorem mapM_sizes (hT:T.OK P):∀(fs:List Field),fs.all (fun f=>(T.size f.type).isSome)=true→∃places:List (Nat×Nat),fs.mapM (fun f=>(P.info? f.type).map fun i=>(f.offset,i.size))=some places∧∀(i:Nat) (fd:Field) (n:Nat),fs[i]? = some fd→T.size fd.type=some n→places[i]? = some (fd.offset,n)
 | [],_=>⟨[],rfl,fun i fd n h=>by simp at h⟩
 | f::fs,h=>by
  simp only [List.all_cons,Bool.and_eq_true] at h
  obtain ⟨m,hm⟩:=Option.isSome_iff_exists.1 h.1
  have h1:=hT.size _ _ hm
  obtain ⟨i0,hi0,hsz⟩:=Option.map_eq_some_iff.1 h1
  obtain ⟨places,hp,hget⟩:=mapM_sizes hT fs h.2
  refine ⟨(f.offset,i0.size)::places,by simp [List.mapM_cons,hi0,hp],fun i fd n hf hn=>?_⟩
  cases i with
  | zero=>
   simp at hf
   subst hf
   rw [hm] at hn
   cases hn
   simp [hsz]
  | succ i=>simpa using hget i fd n (by simpa using hf) hn
theorem zero_info (hT:T.OK P) {t:TypeId} {z:Value} (h:T.zero t=some z):∃i,P.info? t=some i∧i.zero=some z:=by
 have hz:=hT.zero _ _ h
 cases hi:P.info? t with
 | none=>rw [hi] at hz;cases hz
 | some i=>rw [hi] at hz;exact ⟨i,rfl,hz⟩
theorem ofCv_sound (hS:Sim cx G S tm W) {F:Nat→Prop} (hF:∀b,G.F b→F b) {t:Ty} (hel:t.elemB=true) {v:Cv E} {w:Value} (hok:v.cells.all okAt=true) (hv:CvR G S.k W v w) (hi:∀x∈v.cells,InF G S F x) {l l':List Nat} {d:Ty.D E.S t} (h:RM.Out S.h (ofCv E t v) l d l') :
  ∃n,RoE E (RoA E W F n) t d w.cells.toList:=by
 have hcells:=CvR.cells (K:=S.k) hv hok
 cases v with
 | agg xs=>
  cases t with
  | st n=>
   obtain ⟨x,l1,h1,h⟩:=RM.Out_bind h
   obtain rfl:=h.1
   obtain ⟨m,hm⟩:=ofAts_sound hS hF hcells hi h1
   exact ⟨m,by show RoL E _ _ (E.opn n (E.shut n x)) _;rw [E.opn_shut];exact hm⟩
  | _=>exact h.elim
 | arr k n xs=>cases t<;>first | exact h.elim | cases hel
 | «at» x=>
  have h':(∃n,t = .st n)∨RM.Out S.h (ofAt E t x) l d l':=by
   cases t with
   | st n=>exact .inl ⟨n,rfl⟩
   | arr k n=>cases hel
   | pbx b n=>cases hel
   | _=>exact .inr h
  rcases h' with ⟨n,rfl⟩ | h'
  ·exact h.elim
  ·obtain ⟨w',r',hw,ha,hr'⟩:=hcells
   rw [AtsR] at hr'
   subst hr'
   obtain ⟨m,hm⟩:=ofAt_sound hS hF ha (hi x (by simp [Cv.cells])) h'
   rw [hw]
   cases t with
   | st n=>exact h.elim
   | _=>exact ⟨m,w',rfl,hm⟩
def PartsR (W:World) (F:Nat→Prop) (ty:Ty):List (Nat×Ty.D E.S ty)→List (Nat×Value)→Prop
 | [],ws=>ws=[]
 | (i,d)::r,ws=>∃w q,ws=(i,w)::q∧(∃n,RoE E (RoA E W F n) ty d w.cells.toList)∧PartsR W F ty r q
theorem elemsL_sound (hS:Sim cx G S a.tmps W) {ty:Ty}:∀ {ps:List (Nat×Operand)} {l l':List Nat} {q:List (Nat×Ty.D E.S ty)×Up E},RM.Out S.h (elemsL E ty (ps.map fun p=>(p.1,evO (lk S.ρ) p.2))) l q l'→
  FrzL S q.2∧∀F:Nat→Prop,(∀b,G.F b→F b)→(∀x,Among q.2 x→InF G S F x)→PartsR W F ty q.1 (ps.map fun p=>(p.1,a.eval p.2))
 | [],_,_,_,h=>by rw [h.1];exact ⟨fun p hp=>(by cases hp),fun _ _ _=>rfl⟩
 | (i,x)::ps,l,l',q,h=>by
  simp only [List.map_cons,elemsL] at h
  split at h
  ·rename_i v hv
   have hb':=RM.Out_bif h;clear h;obtain ⟨hok,h⟩:=hb'
   simp only [Bool.and_eq_true] at hok
   obtain ⟨hok,hel⟩:=hok
   obtain ⟨u,l1,h1,h⟩:=RM.Out_bind h
   obtain ⟨d,l2,h2,h⟩:=RM.Out_bind h
   obtain ⟨q',l3,h3,h⟩:=RM.Out_bind h
   obtain rfl:=h.1
   obtain ⟨hf,hp⟩:=elemsL_sound hS h3
   have hx:=ev_sound hS (asCv_some hv)
   refine ⟨fun p hp=>?_,fun F hF hin=>⟨_,_,rfl,?_,hp F hF (fun x hx=>hin x (Among.app (.inr hx)))⟩⟩
   ·rcases List.mem_append.1 hp with hp | hp
    ·exact (frz_list h1).1 p hp
    ·exact hf p hp
   ·exact ofCv_sound hS hF hel hok hx (fun y hy=>hin y (Among.app (.inl ((frz_list h1).2 y hy)))) h2
  ·exact h.elim
theorem RowC.set {F:Nat→Prop} {d n:Nat} {t:Ty} {xs:List (Ty.D E.S t)} {cs vs:List Value} {x:Ty.D E.S t} {i:Nat} (h:RowC E W F d t xs cs) (hi:i<xs.length) (hx:RoE E (RoA E W F n) t x vs):RowC E W F (max d n) t (xs.set i x) (putAt cs (i * tsz E t) vs):=by
 have hvl:=hx.length
 have hle:i * tsz E t+tsz E t≤cs.length:=by
  rw [h.1]
  have:(i+1) * tsz E t≤xs.length * tsz E t:=Nat.mul_le_mul_right _ hi
  rw [Nat.add_mul] at this
  omega
 refine ⟨by rw [putAt_length _ _ _ (by omega),List.length_set];exact h.1,fun j hj=>?_⟩
 have e:putAt cs (i * tsz E t) vs=putAt cs (i * tsz E t+0) vs:=rfl
 by_cases hji:j=i
 ·subst hji
  rw [e,seg_put_same _ _ _ _ _ hle (by omega)]
  simp only [List.getElem_set_self]
  have hp:putAt (seg cs j (tsz E t)) 0 vs=vs:=by
   have:(seg cs j (tsz E t)).length=tsz E t:=by unfold seg;simp;omega
   unfold putAt
   simp
   omega
  rw [hp]
  exact hx.mono fun t x v=>RoA.more (fun _ h=>h) (fun _ _=>rfl) n _ (Nat.le_max_right _ _) t x v
 ·rw [e,seg_put_other _ _ _ _ _ _ hle (by omega) hji,List.getElem_set_ne (fun e=>hji e.symm)]
  exact (h.2 j (by simpa using hj)).mono fun t x v=>RoA.more (fun _ h=>h) (fun _ _=>rfl) d _ (Nat.le_max_left _ _) t x v
theorem fillL_sound {F:Nat→Prop} {ty:Ty} {sz:Nat} (hsz:sz=tsz E ty):∀ {ps:List (Nat×Ty.D E.S ty)} {ws:List (Nat×Value)} {xs xs':List (Ty.D E.S ty)} {cs:List Value} {d:Nat},PartsR W F ty ps ws→RowC E W F d ty xs cs→fillL ps xs=some xs'→
  ∃d' cs',Instr.fill (fun i=>some (i * sz,sz)) cs.toArray ws=some cs'.toArray∧RowC E W F d' ty xs' cs'∧xs'.length=xs.length
 | [],ws,xs,xs',cs,d,hp,hr,h=>by cases h;rw [PartsR] at hp;subst hp;exact ⟨d,cs,rfl,hr,rfl⟩
 | (i,x)::ps,ws,xs,xs',cs,d,⟨w,q,hw,⟨n,hn⟩,hp⟩,hr,h=>by
  subst hw
  simp only [fillL] at h
  cases hb:Nat.blt i xs.length with
  | false=>rw [hb] at h;cases h
  | true=>
   rw [hb] at h
   simp only [cond_true] at h
   have hi:i<xs.length:=Nat.le_of_ble_eq_true hb
   have hvl:=hn.length
   have hle:i * tsz E ty+tsz E ty≤cs.length:=by
    rw [hr.1]
    have:(i+1) * tsz E ty≤xs.length * tsz E ty:=Nat.mul_le_mul_right _ hi
    rw [Nat.add_mul] at this
    omega
   rw [fill_step (fun i=>some (i * sz,sz)) cs.toArray i w q rfl (by rw [hsz];simpa using hvl) (by simp at hvl ⊢;rw [hsz];omega)]
   obtain ⟨d',cs',h1,h2,h3⟩:=fillL_sound hsz hp (hr.set hi hn) h
   rw [hsz] at h1 ⊢
   exact ⟨d',cs',h1,h2,by rw [h3];simp⟩
def zcells (z:Array Value) (n:Nat):List Value:=((Array.range (n * z.size)).map (z[· % z.size]!)).toList
theorem zcells_row {F:Nat→Prop} {d:Nat} {ty:Ty} {z:Array Value} {x:Ty.D E.S ty} (h:RoE E (RoA E W F d) ty x z.toList) (h0:0<tsz E ty) (n:Nat):RowC E W F d ty (List.replicate n x) (zcells z n):=by
 have hz:z.size=tsz E ty:=by have:=h.length;simpa using this
 refine ⟨by simp [zcells,hz],fun i hi=>?_⟩
 have hi':i<n:=by simpa using hi
 have hs:seg (zcells z n) i (tsz E ty)=z.toList:=by
  apply List.ext_getElem?
  intro j
  rw [seg_get]
  by_cases hj:j<tsz E ty
  ·rw [if_pos hj]
   have hlt:i * tsz E ty+j<n * tsz E ty:=by
    have:(i+1) * tsz E ty≤n * tsz E ty:=Nat.mul_le_mul_right _ hi'
    rw [Nat.add_mul] at this
    omega
   have hmod:(i * tsz E ty+j) % tsz E ty=j:=by rw [Nat.mul_comm,Nat.mul_add_mod,Nat.mod_eq_of_lt hj]
   unfold zcells
   rw [hz]
   have hzj:j<z.size:=by rw [hz];exact hj
   simp [hlt,hmod,hzj]
  ·rw [if_neg hj,List.getElem?_eq_none (by simp;omega)]
 rw [hs,List.getElem_replicate]
 exact h
theorem atsOfVals_inF {F:Nat→Prop}:∀ {vs:List Value} {xs:List (At E)},atsOfVals vs=some xs→∀x∈xs,InF G S F x
 | [],_,h,x,hx=>by cases h;cases hx
 | v::vs,xs,h,x,hx=>by
  unfold atsOfVals at h
  split at h
  ·rename_i y ys h1 h2
   cases h
   rcases List.mem_cons.1 hx with rfl | hx
   ·unfold atOfVal at h1
    split at h1<;>cases h1<;>trivial
   ·exact atsOfVals_inF h2 x hx
  ·cases h
theorem zeroCv_inF {F:Nat→Prop} {t:TypeId} {v:Cv E} (h:T.zeroCv E t=some v):∀x∈v.cells,InF G S F x:=by
 unfold Tb.zeroCv at h
 split at h
 ·split at h
  ·rename_i k cs _ hz
   cases hc:(cs.toList.all (isZ k)&&Nat.beq cs.toList.length _) with
   | false=>rw [hc] at h;cases h
   | true=>
    rw [hc] at h
    cases h
    intro x hx
    simp only [Cv.cells,List.mem_map] at hx
    obtain ⟨_,_,rfl⟩:=hx
    trivial
  ·cases h
 ·split at h
  ·rename_i z hz
   unfold cvOfVal at h
   split at h
   ·obtain ⟨xs,h1,rfl⟩:=Option.map_eq_some_iff.1 h
    exact atsOfVals_inF h1
   ·obtain ⟨x,h1,rfl⟩:=Option.map_eq_some_iff.1 h
    intro y hy
    simp only [Cv.cells,List.mem_singleton] at hy
    subst hy
    unfold atOfVal at h1
    split at h1<;>cases h1<;>trivial
  ·cases h
theorem zeroD_sound (hT:T.OK P) (hS:Sim cx G S tm W) {e:TypeId} {ty:Ty} {l l':List Nat} {z:Ty.D E.S ty} (h:RM.Out S.h (zeroD T E e ty) l z l'):∃w n i,(∀W:World,(zeroValue e).run P W = .ok w W)∧P.info? e=some i∧i.zero=some w∧RoE E (RoA E W G.F n) ty z w.cells.toList:=by
 unfold zeroD at h
 split at h
 ·rename_i v hv
  have hb':=RM.Out_bif h;clear h;obtain ⟨hok,h⟩:=hb'
  simp only [Bool.and_eq_true] at hok
  obtain ⟨hok,hel⟩:=hok
  obtain ⟨w,hw,hr,i,hi,hiz⟩:=zero_sound hT hv (K:=S.k)
  obtain ⟨n,hn⟩:=ofCv_sound hS (fun _ h=>h) hel hok (hr G W) (zeroCv_inF hv) h
  exact ⟨w,n,i,hw,hi,hiz,hn⟩
 ·exact h.elim
theorem buildSlice_sound (hT:T.OK P) {fr:Nat} (hf:lk S.H fr=none) (hS:Sim cx G S a.tmps W) {t:TypeId} {len:Nat} {parts:Array (Nat×Operand)} {l l':List Nat} {r:Res E} (h:RM.Out S.h (aBuildSlice T fr t len (parts.toList.map fun p=>(p.1,evO (lk S.ρ) p.2))) l r l') :
  Ends P cx G S a W (Instr.buildSlice t len (parts.map fun (i,x)=>(i,a.eval x))) r:=by
 unfold aBuildSlice at h
 split at h
 rotate_left
 ·exact h.elim
 rename_i e ty helem
 have hu:=Tb.elem_some hT helem
 split at h
 rotate_left
 ·exact h.elim
 rename_i sz hsz
 have hb':=RM.Out_bif h;clear h;obtain ⟨hc,h⟩:=hb'
 simp only [Bool.and_eq_true] at hc
 obtain ⟨⟨⟨hc1,hc2⟩,hc3⟩,hc4⟩:=hc
 obtain rfl:=Nat.eq_of_beq_eq_true hc1
 have hpos:0<tsz E ty:=Nat.le_of_ble_eq_true hc2
 have hsmall:=Nat.le_of_ble_eq_true hc3
 obtain ⟨z,l1,hz,h⟩:=RM.Out_bind h
 obtain ⟨q,l2,hq,h⟩:=RM.Out_bind h
 obtain ⟨w,n,ie,hzr,hie,hiz,hzE⟩:=zeroD_sound hT hS hz
 split at h
 rotate_left
 ·exact h.elim
 rename_i xs hfill
 obtain rfl:=h.1
 obtain ⟨hfl,hparts⟩:=elemsL_sound hS hq
 obtain ⟨F',hS1,hF1,hf1⟩:=frz_all hS hfl
 have hp:=hparts F' hF1 (fun x hx=>Among.inF hf1 hx)
 have hrow:=zcells_row (hzE.mono fun t x v=>RoA.more hF1 (fun _ _=>rfl) n n (Nat.le_refl _) t x v) hpos len
 obtain ⟨d,cs,hfr,hr,hxl⟩:=fillL_sound rfl hp hrow hfill
 have hzs:w.cells.size=tsz E ty:=by have:=hzE.length;simpa using this
 have hrun:(Instr.buildSlice t len (parts.map fun (i,x)=>(i,a.eval x))).run P W = .ok (.slice (some ⟨W.heap.size,0,none⟩) len len) (W.alloc (.cells cs.toArray e)):=by
  have hsm:¬ len * tsz E ty > 2 ^ 24:=by omega
  have hisz:ie.size=tsz E ty:=by
   have:=hT.size _ _ hsz
   rw [hie] at this
   simpa using this
  have hparts':(parts.map fun (i,x)=>(i,a.eval x)).toList=parts.toList.map fun p=>(p.1,a.eval p.2):=by simp
  by_cases h0:len * tsz E ty=0
  ·have h00:len=0:=by
    rcases Nat.mul_eq_zero.1 h0 with h | h
    ·exact h
    ·omega
   subst h00
   have hz0:(zcells w.cells 0).toArray = #[]:=by simp [zcells]
   rw [hz0] at hfr
   simp [Instr.buildSlice,run_underlying hu,Go.sizeOf,typeInfo,hie,hisz]
   rw [show Array.map (fun _=>(default:Value)) (Array.range 0) = #[] by (apply Array.ext';simp),hfr]
   rfl
  ·refine run_buildSlice W t e len _ cs.toArray ie w hu hie hiz (by rw [hisz];exact hsm) (by rw [hisz];exact h0) ?_
   rw [hparts',hisz,← hfr]
   congr 1
   simp only [zcells,Array.toArray_toList]
   rw [hzs]
 have hlen:xs.length=len:=by rw [hxl];simp
 have hf':lk (q.2++S.H) fr=none:=by
  rw [lk_append]
  cases hl:lk q.2 fr with
  | none=>exact hf
  | some b=>
   obtain ⟨_,_,_,_,h2⟩:=hfl.keys fr b hl
   have:S.k fr:=by
    rcases h2 with ⟨_,h2⟩ | ⟨_,h2⟩<;>exact St.h_k h2
   unfold St.k at this
   rw [hf] at this;cases this
 obtain ⟨G',h1,h2,h3⟩:=fresh_row (W':=W.alloc (.cells (cs++[]).toArray e)) (S:={ S with H:=q.2++S.H }) hS1 hf' [] (fun i b h=>by cases h) hpos hr (Nat.le_of_eq hlen) (by simp only [maxLen];have:=Nat.le_mul_of_pos_right len hpos;omega) (by rw [List.append_nil,hr.1,hlen];exact Nat.le_refl _) (.inl rfl)
 rw [List.append_nil] at h1 h2 h3
 rw [hlen] at h3
 have hE1:Ext G S.k W { G with F:=F' } (St.k { S with H:=q.2++S.H }) W:=ext_F hF1
 exact ⟨_,_,_,hrun,h1,hE1.trans h2,h3⟩
theorem zcells_len (z:Array Value) (n:Nat):(zcells z n).length=n * z.size:=by simp [zcells]
theorem makeSlice_sound (hT:T.OK P) {fr:Nat} (hf:lk S.H fr=none) (hS:Sim cx G S a.tmps W) {t:TypeId} {lo co:Operand} {l l':List Nat} {r:Res E} (h:RM.Out S.h (aMakeSlice T fr t (opdEq lo co) (evO (lk S.ρ) lo) (evO (lk S.ρ) co)) l r l') :
  Ends P cx G S a W (Instr.makeSlice t (a.eval lo) (a.eval co)) r:=by
 unfold aMakeSlice at h
 split at h
 rotate_left
 ·exact h.elim
 rename_i e ty helem
 have hu:=Tb.elem_some hT helem
 split at h
 rotate_left
 ·exact h.elim
 rename_i b sz hby hsz
 have hb':=RM.Out_bif h;clear h;obtain ⟨hc,h⟩:=hb'
 simp only [Bool.and_eq_true] at hc
 obtain ⟨⟨⟨hc1,hc2⟩,hc3⟩,hc4⟩:=hc
 obtain rfl:=Nat.eq_of_beq_eq_true hc1
 have hpos:0<tsz E ty:=Nat.le_of_ble_eq_true hc2
 have hbpos:0<b:=Nat.le_of_ble_eq_true hc3
 obtain ⟨z,l1,hz,h⟩:=RM.Out_bind h
 obtain ⟨w,n,ie,hzr,hie,hiz,hzE⟩:=zeroD_sound hT hS hz
 have hiby:ie.bytes=b:=by have:=hT.bytes _ _ hby;rw [hie] at this;simpa using this
 have hisz:ie.size=tsz E ty:=by have:=hT.size _ _ hsz;rw [hie] at this;simpa using this
 have hzs:w.cells.size=tsz E ty:=by have:=hzE.length;simpa using this
 split at h
 rotate_left
 ·exact h.elim
 rename_i lv cv hl hcv
 have hlv:a.eval lo = .int .i64 lv:=ev_sound hS hl
 have hcv:a.eval co = .int .i64 cv:=ev_sound hS hcv
 have made:∀(ln:Nat) (xs:List (Ty.D E.S ty)),0≤lv→lv≤cv→lv.toNat=ln→xs=List.replicate ln z→room cv.toNat b=true→Ends P cx G S a W (Instr.makeSlice t (a.eval lo) (a.eval co)) (.a (.own fr),[(fr,.row e ty xs false)]):=by
  intro ln xs h0 hle hln hxs hroom
  have hroom:cv.toNat * b≤140737488355328:=by simpa [room] using hroom
  have hcb:cv.toNat≤cv.toNat * b:=Nat.le_mul_of_pos_right _ hbpos
  have hcl:(cv.toNat:Int)=cv:=by omega
  have hrun:=run_make (P:=P) W t e ie w hu hie hiz .i64 .i64 lv cv h0 hle (by
   rw [hiby,← hcl,← Int.natCast_mul,Nat.mul_comm];omega) (by omega)
  subst hxs
  have hrow:=zcells_row hzE hpos ln
  have hlc:ln * tsz E ty≤cv.toNat * tsz E ty:=Nat.mul_le_mul_right _ (by omega)
  have hcut:zcells w.cells ln++(madeCells w.cells (cv.toNat * ie.size)).toList.drop (ln * tsz E ty)=(madeCells w.cells (cv.toNat * ie.size)).toList:=by
   have h1:(madeCells w.cells (cv.toNat * ie.size)).toList.take (ln * tsz E ty)=zcells w.cells ln:=by
    unfold madeCells zcells
    rw [hisz,hzs]
    simp only [Array.toList_map,Array.toList_range,← List.map_take,List.take_range,Nat.min_eq_left hlc]
   rw [← h1,List.take_append_drop]
  obtain ⟨G',h1,h2,h3⟩:=fresh_row (W':=W.alloc (.cells (zcells w.cells ln++(madeCells w.cells (cv.toNat * ie.size)).toList.drop (ln * tsz E ty)).toArray e)) (cap:=cv.toNat) hS hf [] (fun i b h=>by cases h) hpos hrow (by simp;omega) (by simp only [maxLen];omega) (by rw [hcut];simp [madeCells,hisz]) (.inl rfl)
  rw [hcut,Array.toArray_toList] at h1 h2 h3
  rw [List.length_replicate] at h3
  subst hln
  refine ⟨_,_,_,?_,h1,h2,h3⟩
  rw [hlv,hcv]
  exact hrun
 cases hsame:opdEq lo co with
 | true=>
  rw [hsame] at h
  have heq:lv=cv:=by
   unfold opdEq at hsame
   split at hsame
   ·obtain rfl:=Nat.eq_of_beq_eq_true hsame
    rw [hlv] at hcv;cases hcv;rfl
   ·simp only [decide_eq_true_eq] at hsame
    subst hsame
    have e1:=hlv
    have e2:=hcv
    simp only [Act.eval,Value.int.injEq] at e1 e2
    rw [← e1.2,← e2.2]
   ·cases hsame
  subst heq
  obtain ⟨h0,hroom,h⟩:=h
  obtain rfl:=h.1
  simp only [decide_eq_true_eq] at h0
  exact made lv.toNat _ h0 (Int.le_refl _) rfl rfl hroom
 | false=>
  rw [hsame] at h
  obtain ⟨h0,h1,hroom,h⟩:=h
  obtain rfl:=h.1
  simp only [decide_eq_true_eq] at h0 h1
  subst h0
  exact made 0 _ (Int.le_refl _) h1 rfl rfl hroom
theorem srcAt_ofAt {e:Nat} {t:Ty} {x:At E} {l l':List Nat} {ys:List (Ty.D E.S t)} (h:RM.Out S.h (srcAt E e t x) l ys l'):∃l',RM.Out S.h (ofAt E (.slice e t) x) l ys l':=by
 cases x with
 | ro e' t' xs=>exact ⟨_,h⟩
 | own id=>
  obtain ⟨b,hb,h⟩:=h
  cases b with
  | row e' t' xs f=>exact ⟨_,_,hb,h⟩
  | _=>exact h.elim
 | sub id off len=>
  obtain ⟨b,hb,h⟩:=h
  cases b with
  | row e' t' xs f=>exact ⟨_,_,hb,h⟩
  | _=>exact h.elim
 | nils=>exact ⟨_,h⟩
 | _=>exact h.elim
theorem conv_sound (hT:T.OK P) {fr:Nat} (hf:lk S.H fr=none) (hS:Sim cx G S a.tmps W) {s t:TypeId} {x:Operand} {l l':List Nat} {r:Res E} (h:RM.Out S.h (aConv T fr s t (evO (lk S.ρ) x)) l r l'):Ends P cx G S a W (convert s t (a.eval x)) r:=by
 unfold aConv at h
 split at h
 ·rename_i k' k k'' n hs ht hx
  have hs:=hT.und _ _ hs
  have ht:=hT.und _ _ ht
  have hx:a.eval x = .int _ n:=ev_sound hS hx
  rw [one_sound h,hx]
  exact Ends.pure hS (w:=.int k (k.wrap n)) (by simp [convert,run_underlying hs,run_underlying ht,Conv.intToInt]) rfl
 ·rename_i s' hs ht hx
  have hs:=hT.und _ _ hs
  have ht:=hT.und _ _ ht
  have hx:a.eval x = .string s':=ev_sound hS hx
  rw [one_sound h,hx]
  exact Ends.pure hS (w:=.string s') (by simp [convert,run_underlying hs,run_underlying ht]) rfl
 ·rename_i e s' hs ht hx
  have hs:=hT.und _ _ hs
  have ht:=hT.und _ _ ht
  have hx:a.eval x = .string s':=ev_sound hS hx
  split at h
  ·rename_i he
   have he:=hT.und _ _ he
   obtain ⟨hroom,h⟩:=h
   obtain rfl:=h.1
   rw [hx]
   have hroom:s'.size * 1≤140737488355328:=by simpa [room] using hroom
   have hrun:=Lib.run_convert_string_bytes (P:=P) W s t e s' hs ht he
   have hl:(bytesOf s').length=s'.size:=by simp [bytesOf]
   have hge:s'.size≤grownCap W s'.size 0 e:=grownCap_ge _ _ _ _
   have hcells:((bytesOf s').map (Value.int .u8)++List.replicate (grownCap W s'.size 0 e - s'.size) (Value.int .u8 0)).toArray=Lib.bytesCells W e s':=by
    apply Array.toList_inj.1
    simp [Lib.bytesCells,bytesOf,List.map_map,Function.comp_def]
   obtain ⟨G',h1,h2,h3⟩:=fresh_rowG (W':=Lib.bytesWorld W e s') (e:=e) (t:=.int .u8) (xs:=bytesOf s') (cs:=(bytesOf s').map (Value.int .u8)) (tail:=List.replicate (grownCap W s'.size 0 e - s'.size) (Value.int .u8 0)) (d:=0) (cap:=grownCap W s'.size 0 e) hS hf [] (fun i b h=>by cases h) (by simp [tsz])
    ⟨by simp [tsz],fun i hi=>⟨.int .u8 (bytesOf s')[i],by simp [seg,tsz,List.drop_eq_getElem_cons (show i<((bytesOf s').map (Value.int .u8)).length by simpa using hi)],rfl⟩⟩ (by rw [hl];exact hge) (grownCap_le_maxLen _ _ _ _ (by simp only [maxLen];omega)) (by simp [tsz,hl];omega)
    (fun k hk=>Lib.bytesWorld_at_old W e s' k hk) (by rw [hcells];exact ⟨_,Lib.bytesWorld_at_new W e s',.inr ⟨rfl,Nat.le_refl _⟩⟩) (by rw [Lib.bytesWorld_size];omega) ⟨rfl,rfl,rfl⟩
   rw [hl] at h3
   exact ⟨_,_,_,hrun,h1,h2,h3⟩
  ·exact h.elim
 ·rename_i e y hs ht hx
  have hs:=hT.und _ _ hs
  have ht:=hT.und _ _ ht
  split at h
  ·rename_i he
   have he:=hT.und _ _ he
   obtain ⟨xs,l1,hxs,h⟩:=RM.Out_bind h
   rw [one_sound h]
   have hxv:AtR G S.k W y (a.eval x):=ev_sound hS hx
   obtain ⟨d,cs,hr,hsrc⟩:=ofAt_src (P:=P) hS hxv (by simp [tsz]) hxs
   have hcs:cs=xs.map (Value.int .u8):=by
    apply List.ext_getElem
    ·rw [hr.1];simp [tsz]
    ·intro i h1 h2
     have hi:i<xs.length:=by simpa using h2
     obtain ⟨v,hv,hvv⟩:=hr.2 i hi
     have hvv:v = .int .u8 xs[i]:=by cases d<;>exact hvv
     have:=congrArg (·[0]?) hv
     simp only [seg_get,tsz,Nat.mul_one,Nat.add_zero] at this
     rw [if_pos (by omega),List.getElem?_eq_getElem h1] at this
     simp at this
     rw [this,hvv]
     simp
   have hsl:∃A c,a.eval x = .slice A xs.length c:=by
    have hl:=hsrc.len W
    have hxs':∃l',RM.Out S.h (ofAt E (.slice e (.int .u8)) y) l xs l':=srcAt_ofAt hxs
    obtain ⟨l9,hxs'⟩:=hxs'
    obtain ⟨n,hn⟩:=ofAt_sound (F:=fun k=>True) hS (fun _ _=>trivial) hxv (by cases y<;>first | trivial | exact fun _ _ _ _=>trivial) hxs'
    cases n with
    | zero=>exact hn.elim
    | succ n=>obtain ⟨A,c,hv,_⟩:=hn;exact ⟨A,c,hv⟩
   obtain ⟨A,c,hv⟩:=hsl
   rw [hv] at hsrc ⊢
   refine Ends.pure hS (w:=.string (strOf xs)) ?_ rfl
   rw [run_convert_bytes_string W s t e A _ c hs he ht]
   have hfirst:=hsrc.first W rfl
   cases A with
   | none=>
    have h0:xs=[]:=by
     simp [Builtin.firstCells] at hfirst
     rw [hcs] at hfirst
     simpa using hfirst.symm
    subst h0
    simp [Conv.bytesToString,strOf]
    rfl
   | some ad=>
    simp only [Builtin.firstCells,tsz,Nat.mul_one] at hfirst
    rw [hcs] at hfirst
    rw [run_bytesToString W _ xs.length c xs hfirst,foldl_push_bytes]
    simp [strOf,ByteArray.empty,ByteArray.emptyWithCapacity]
    rfl
  ·exact h.elim
 ·exact h.elim
theorem Sim.congr {S':St E} (hS:Sim cx G S tm W) (h1:∀s,lk S'.ρ s=lk S.ρ s) (h2:∀k,lk S'.H k=lk S.H k) (h3:S'.n=S.n):Sim cx G S' tm W:=by
 have hk:S'.k=S.k:=by funext i;unfold St.k;rw [h2]
 have hh:∀id,S'.h id=S.h id:=fun id=>by unfold St.h;rw [h2]
 exact ⟨hS.sz.trans h3.symm,fun s v h=>by rw [hk];exact hS.tmps s v (by rw [← h1];exact h),fun id b h=>by rw [hk];exact hS.blks id b (by rw [← hh];exact h),fun i j bi bj k hi hj=>hS.inj i j bi bj k (by rw [← hh];exact hi) (by rw [← hh];exact hj),
  fun id b k h=>hS.sepF id b k (by rw [← hh];exact h),fun id b k h=>hS.sep id b k (by rw [← hh];exact h),fun id b k h=>hS.own id b k (by rw [← hh];exact h),hS.fr,hS.frm,hS.ff⟩
theorem h_lk {id:Nat} {b:Blk E} (h:S.h id=some b):lk S.H id=some b:=by
 unfold St.h at h
 split at h
 ·cases h
 ·exact h
theorem Sim.again (hS:Sim cx G S tm W) {id:Nat} {b:Blk E} (hb:S.h id=some b):Sim cx G { S with H:=[(id,b)]++S.H } tm W∧Ext G S.k W G (St.k { S with H:=[(id,b)]++S.H }) W:=by
 have h2:∀k,lk ([(id,b)]++S.H) k=lk S.H k:=fun k=>by
  rw [lk_append,lk_cons]
  split
  ·rename_i e;split at e
   ·cases e;subst_vars;exact (h_lk hb).symm
   ·cases e
  ·rfl
 exact ⟨hS.congr (fun _=>rfl) h2 rfl,⟨fun _ _=>rfl,fun _ _=>rfl,fun _ _=>rfl,fun _ _=>rfl,fun _ _=>rfl,fun _ _=>rfl,fun i hi=>k_append hi,fun _ h=>h,fun _ _=>rfl⟩⟩
theorem RowC.drop {F:Nat→Prop} {d:Nat} {t:Ty} {xs:List (Ty.D E.S t)} {cs:List Value} (h:RowC E W F d t xs cs) (n:Nat) (hn:n≤xs.length):RowC E W F d t (xs.drop n) (cs.drop (n * tsz E t)):=by
 refine ⟨by rw [List.length_drop,List.length_drop,h.1,Nat.sub_mul],fun i hi=>?_⟩
 have hi':n+i<xs.length:=by simp at hi;omega
 have he:seg (cs.drop (n * tsz E t)) i (tsz E t)=seg cs (n+i) (tsz E t):=by
  apply List.ext_getElem?
  intro j
  rw [seg_get,seg_get]
  by_cases hj:j<tsz E t
  ·rw [if_pos hj,if_pos hj,List.getElem?_drop,Nat.add_mul]
   congr 1
   omega
  ·rw [if_neg hj,if_neg hj]
 rw [he,List.getElem_drop]
 exact h.2 (n+i) hi'
theorem putAt_split {α:Type} (l ds:List α) (o n:Nat) (h1:o+ds.length≤n) (h2:n≤l.length):putAt l o ds=((l.take n).take o++(ds++(l.take n).drop (o+ds.length)))++l.drop n:=by
 unfold putAt
 rw [List.take_take,Nat.min_eq_left (by omega),List.append_assoc,List.append_assoc,List.append_assoc]
 congr 2
 conv=>lhs;rw [← List.take_append_drop n l]
 rw [List.drop_append_of_le_length (by simp;omega)]
theorem put_row (hS:Sim cx G S tm W) {id:Nat} {e:Nat} {ty:Ty} {xs:List (Ty.D E.S ty)} (hb:S.h id=some (.row e ty xs false)) {off d0:Nat} {ys:List (Ty.D E.S ty)} {ds:List Value} (hys:RowC E W G.F d0 ty ys ds) (hle:off+ys.length≤xs.length) :
  ∃W',(∀A:Option Addr,(0<ys.length→A=some ⟨G.loc id,off * tsz E ty,none⟩)→((match A with | some a=>storeCells a ds | none=>pure ():Sem Unit)).run P W = .ok () W')∧
   Sim cx G { S with H:=[(id,.row e ty (xs.take off++(ys++xs.drop (off+ys.length))) false)]++S.H } tm W'∧Ext G S.k W G (St.k { S with H:=[(id,Blk.row e ty (xs.take off++(ys++xs.drop (off+ys.length))) false)]++S.H }) W':=by
 rcases Nat.eq_zero_or_pos ys.length with h0 | h0
 ·have hy:ys=[]:=List.eq_nil_of_length_eq_zero h0
  subst hy
  have hd:ds=[]:=List.eq_nil_of_length_eq_zero (by rw [hys.1];simp)
  subst hd
  have hx:xs.take off++(([]:List (Ty.D E.S ty))++xs.drop (off+0))=xs:=by simp
  refine ⟨W,fun A _=>by cases A<;>simp [storeCells],?_⟩
  show Sim cx G { S with H:=[(id,.row e ty (xs.take off++([]++xs.drop (off+0))) false)]++S.H } tm W∧Ext G S.k W G (St.k { S with H:=[(id,Blk.row e ty (xs.take off++([]++xs.drop (off+0))) false)]++S.H }) W
  rw [hx]
  exact hS.again hb
 ·obtain ⟨b1,b2,b3,hrow⟩:=hS.blks id _ hb
  rcases hrow with ⟨A,_,hnil⟩ | ⟨cap,cur,d,hhd,hcap,hh,hlen,hmax,hcur,hel⟩
  ·rw [hnil] at hle;simp only [List.length_nil] at hle;omega
  ·have hheap:=hh.arr
   have hxl:xs.length * tsz E ty≤cur.toList.length:=by
    have:xs.length * tsz E ty≤cap * tsz E ty:=Nat.mul_le_mul_right _ hlen
    simp;omega
   have hend:off * tsz E ty+ds.length≤xs.length * tsz E ty:=by
    rw [hys.1,← Nat.add_mul];exact Nat.mul_le_mul_right _ hle
   have hrun:=run_putC (P:=P) (o:=off * tsz E ty) (vs:=ds) hheap (by omega) hys.ones
   refine ⟨_,fun A hA=>by rw [hA h0];exact hrun,?_⟩
   have hr:=row_cells (G:=G) (W:=W) (id:=id) (e:=e) hcur hlen hel
   refine hS.write hb (k0:=G.loc id) ⟨rfl,by show 0<capOf (G.hd id);rw [hhd];exact hcap⟩ rfl (b:=.row e ty (xs.take off++(ys++xs.drop (off+ys.length))) false) rfl (fun k hk=>hk.1) (fun k hk=>setRow_other W _ k _ hk) (by simp) setRow_same (fun K' hK hE=>?_)
   have hl':(xs.take off++(ys++xs.drop (off+ys.length))).length=xs.length:=by simp;omega
   have hr1:RowC E W G.F (max d d0) ty (xs.take off++(ys++xs.drop (off+ys.length))) (((cur.toList.take (xs.length * tsz E ty)).take (off * tsz E ty))++(ds++(cur.toList.take (xs.length * tsz E ty)).drop ((off+ys.length) * tsz E ty))):=
    ((hr.take off (by omega)).more (fun _ h=>h) (fun _ _=>rfl) (Nat.le_max_left _ _)).append ((hys.more (fun _ h=>h) (fun _ _=>rfl) (Nat.le_max_right _ _)).append ((hr.drop (off+ys.length) hle).more (fun _ h=>h) (fun _ _=>rfl) (Nat.le_max_left _ _)))
   have hput:=putAt_split cur.toList ds (off * tsz E ty) (xs.length * tsz E ty) hend hxl
   refine ⟨by rw [hl'];exact b1,b2,b3,.inr ⟨cap,(putAt cur.toList (off * tsz E ty) ds).toArray,max d d0,by rw [hl'];exact hhd,hcap,hheap.put (by omega),by rw [hl'];exact hlen,hmax,?_,fun i hi=>?_⟩⟩
   ·simp [putAt_length _ _ _ (show off * tsz E ty+ds.length≤cur.toList.length by omega)];exact hcur
   ·simp only [row_seg]
    have:=(hr1.more (F':=G.F) (fun _ h=>h) hE.W (Nat.le_refl _)).2 i hi
    have e2:seg (putAt cur.toList (off * tsz E ty) ds) i (tsz E ty)=seg (((cur.toList.take (xs.length * tsz E ty)).take (off * tsz E ty))++(ds++(cur.toList.take (xs.length * tsz E ty)).drop ((off+ys.length) * tsz E ty))) i (tsz E ty):=by
     rw [hput,seg_append_left]
     ·rw [hys.1,← Nat.add_mul]
     ·have e1:=hr1.1
      rw [Nat.add_mul,← hys.1] at e1
      rw [e1]
      have:(i+1) * tsz E ty≤(xs.take off++(ys++xs.drop (off+ys.length))).length * tsz E ty:=Nat.mul_le_mul_right _ hi
      rw [Nat.add_mul] at this
      omega
    rw [e2]
    exact this
theorem dstRow_sound (hT:T.OK P) (hS:Sim cx G S a.tmps W) {t:TypeId} {x:Operand} {k:(id:Nat)→(e:Nat)→(ty:Ty)→List (Ty.D E.S ty)→(off len:Nat)→RM E (Res E)} {l l':List Nat} {r:Res E} (h:RM.Out S.h (dstRow T t (evO (lk S.ρ) x) k) l r l') :
  ∃id e ty xs off len l1,S.h id=some (.row e ty xs false)∧P.underlying t=some (.slice e)∧sizeIs T e (tsz E ty)=true∧off+len≤xs.length∧RM.Out S.h (k id e ty xs off len) l1 r l'∧∃A c,a.eval x = .slice A len c∧(0<len→A=some ⟨G.loc id,off * tsz E ty,none⟩):=by
 unfold dstRow at h
 split at h
 rotate_left
 ·exact h.elim
 rename_i el hu
 have hu:=hT.und _ _ hu
 split at h
 ·rename_i id hx
  have hx:=ev_sound hS hx
  obtain ⟨b,hb,h⟩:=h
  dsimp only at h
  split at h
  ·rename_i e ty xs
   have hb':=RM.Out_bif h;clear h;obtain ⟨hc,h⟩:=hb'
   simp only [Bool.and_eq_true] at hc
   obtain rfl:=Nat.eq_of_beq_eq_true hc.1
   obtain ⟨b1,b2,b3,hrow⟩:=hS.blks id _ hb
   refine ⟨id,e,ty,xs,0,xs.length,_,hb,hu,hc.2,by omega,h,?_⟩
   have hxv:=hx.2.1
   rcases hrow with ⟨A,hA,hnil⟩ | ⟨cap,cur,d,hhd,hcap,_⟩
   ·subst hnil;exact ⟨A,0,hxv.trans hA,fun h=>by simp at h⟩
   ·exact ⟨_,cap,hxv.trans hhd,fun _=>by simp⟩
  ·exact h.elim
 ·rename_i id off len hx
  have hx:=ev_sound hS hx
  obtain ⟨b,hb,h⟩:=h
  dsimp only at h
  split at h
  ·rename_i e ty xs
   have hb':=RM.Out_bif h;clear h;obtain ⟨hc,h⟩:=hb'
   simp only [Bool.and_eq_true] at hc
   obtain rfl:=Nat.eq_of_beq_eq_true hc.1
   obtain ⟨hle,h⟩:=h
   simp only [decide_eq_true_eq] at hle
   obtain ⟨b1,b2,b3,_⟩:=hS.blks id _ hb
   obtain ⟨hk,_,A,c,hv,hlc,hA⟩:=hx
   exact ⟨id,e,ty,xs,off,len,_,hb,hu,hc.2,hle,h,A,c,hv,fun h0=>by rw [(hA (by omega)).1,b2]⟩
  ·exact h.elim
 ·exact h.elim
theorem Src.firstn {size:Nat} {x:Value} {m:Nat} {news:List Value} (h:Src P W size x m news) {n:Nat} (hn:n≤m):(Builtin.firstCells size n x).run P W = .ok (news.take (n * size)).toArray W:=h.cut n hn W rfl
theorem copy_sound (hT:T.OK P) (hS:Sim cx G S a.tmps W) {t u rty:TypeId} {x y:Operand} {l l':List Nat} {r:Res E} (h:RM.Out S.h (aCopy T t (evO (lk S.ρ) x) (evO (lk S.ρ) y)) l r l') :
  Ends P cx G S a W (Builtin.copy_ #[t,u] rty #[a.eval x,a.eval y]) r:=by
 obtain ⟨id,e,ty,xs,off,len,l1,hb,hu,hsz,hle,h,A,c,hx,hA⟩:=dstRow_sound hT hS h
 obtain ⟨ys,l2,hys,h⟩:=RM.Out_bind h
 obtain rfl:=h.1
 obtain ⟨b1,b2,b3,_⟩:=hS.blks id _ hb
 obtain ⟨d,ds,hrow,hsrc⟩:=elems_sound (P:=P) hS hys b3
 have hm:(ys.take len).length=min ys.length len:=by rw [List.length_take,Nat.min_comm]
 have hcut:=hsrc.firstn (n:=min ys.length len) (Nat.min_le_left _ _)
 have hrow':RowC E W G.F d ty (ys.take len) (ds.take (min ys.length len * tsz E ty)):=by
  have:=hrow.take (min ys.length len) (Nat.min_le_left _ _)
  have e1:ys.take (min ys.length len)=ys.take len:=by
   apply List.ext_getElem?
   intro j
   simp only [List.getElem?_take]
   by_cases hj:j<len
   ·rw [if_pos hj]
    by_cases hjy:j<ys.length
    ·rw [if_pos (by omega)]
    ·rw [if_neg (by omega),List.getElem?_eq_none (by omega)]
   ·rw [if_neg hj,if_neg (by omega)]
  rw [e1] at this
  exact this
 obtain ⟨W',hrun,h1,h2⟩:=put_row (P:=P) (off:=off) hS hb hrow' (by rw [hm];omega)
 rw [hm] at hrun h1 h2
 rw [hx]
 refine ⟨.int .i64 (min ys.length len:Nat),W',G,?_,h1,h2,rfl⟩
 have hlen:=hsrc.len W
 have hst:=hrun A (fun h0=>hA (by omega))
 have hnm:Nat.min ys.length len=min ys.length len:=rfl
 cases A with
 | none=>simp [Builtin.copy_,run_underlying hu,hlen,sizeIs_some hT hsz,hnm,hcut,goInt];simpa using hst
 | some ad=>
  simp [Builtin.copy_,run_underlying hu,hlen,sizeIs_some hT hsz,hnm,hcut,goInt]
  simp only at hst
  rw [hst]
  rfl
theorem clear_sound (hT:T.OK P) (hS:Sim cx G S a.tmps W) {t rty:TypeId} {x:Operand} {l l':List Nat} {r:Res E} (h:RM.Out S.h (aClear T t (evO (lk S.ρ) x)) l r l') :
  Ends P cx G S a W (Builtin.clear_ #[t] rty #[a.eval x]) r:=by
 obtain ⟨id,e,ty,xs,off,len,l1,hb,hu,hsz,hle,h,A,c,hx,hA⟩:=dstRow_sound hT hS h
 have hb':=RM.Out_bif h;clear h;obtain ⟨hz,h⟩:=hb'
 obtain ⟨z,l2,hzd,h⟩:=RM.Out_bind h
 obtain rfl:=h.1
 obtain ⟨b1,b2,b3,_⟩:=hS.blks id _ hb
 obtain ⟨w,n,ie,hzr,hie,hiz,hzE⟩:=zeroD_sound hT hS hzd
 have hrow:=zcells_row hzE b3 len
 obtain ⟨W',hrun,h1,h2⟩:=put_row (P:=P) (off:=off) hS hb hrow (by simp;omega)
 simp only [List.length_replicate] at hrun h1 h2
 rw [hx]
 refine ⟨.tuple #[],W',G,?_,h1,h2,[],rfl,rfl⟩
 rcases Nat.eq_zero_or_pos len with h0 | h0
 ·subst h0
  have hst:=hrun none (fun h=>by omega)
  have:W'=W:=by simp at hst;exact hst.symm
  subst this
  cases A<;>simp [Builtin.clear_,run_underlying hu]
 ·have hst:=hrun A hA
  rw [hA h0] at hst ⊢
  have hzc:(Builtin.zeroCells w.cells len).toList=zcells w.cells len:=rfl
  cases len with
  | zero=>omega
  | succ len=>
   simp only at hst
   simp [Builtin.clear_,run_underlying hu,hzr,hzc,hst]
end Mir
namespace Mir
set_option linter.unusedVariables false
set_option linter.unusedSimpArgs false
open Go
variable {E:Env} {P:Program} {T:Tb} {cx:Cx} {G G':Gh} {S:St E} {tm:Array Value} {a:Act} {W W':World}
theorem mpIdx_lt {α:Type} {n:Int}:∀ {es:List (Int×α)} {j:Nat},mpIdx n es=some j→j<es.length
 | [],_,h=>by cases h
 | e::r,j,h=>by
  unfold mpIdx at h
  split at h
  ·cases h;simp
  ·obtain ⟨i,hi,rfl⟩:=Option.map_eq_some_iff.1 h
   have:=mpIdx_lt hi
   simp;omega
theorem findNow_mp {α:Type} {k:IntKind} {n:Int}:∀(es:List MapEntry) (ents:List (Int×α)) (i:Nat),es.length=ents.length→(∀(j:Nat) (h:j<es.length) (h':j<ents.length),es[j].key = .int k ents[j].1)→
  Instr.findNow (.int k) (.int k n) es i=some ((mpIdx n ents).bind fun j=>es[j]?.map fun e=>(i+j,e.val))
 | [],[],_,_,_=>rfl
 | e::es,x::ents,i,hl,hk=>by
  have h0:=hk 0 (by simp) (by simp)
  simp only [List.getElem_cons_zero] at h0
  unfold Instr.findNow mpIdx
  rw [h0]
  simp only [Instr.sameNow,if_true]
  by_cases hn:n=x.1
  ·rw [if_pos hn]
   have:(n==x.1)=true:=by simp [hn]
   rw [this]
   simp
  ·rw [if_neg hn]
   have:(n==x.1)=false:=by simp [hn]
   rw [this]
   simp only
   rw [findNow_mp es ents (i+1) (by simpa using hl) (fun j h h'=>by have:=hk (j+1) (by simp;omega) (by simp;omega);simpa using this)]
   cases mpIdx n ents with
   | none=>rfl
   | some j=>
    simp only [Option.map_some,Option.bind_some,List.getElem?_cons_succ]
    cases es[j]? with
    | none=>rfl
    | some e'=>simp only [Option.map_some];congr 2;congr 1;omega
 | [],_::_,_,h,_=>by cases h
 | _::_,[],_,h,_=>by cases h
theorem makeMap_sound (hT:T.OK P) {fr:Nat} (hf:lk S.H fr=none) (hS:Sim cx G S a.tmps W) {t:TypeId} {l l':List Nat} {r:Res E} (h:RM.Out S.h (aMakeMap (E:=E) T fr t) l r l'):Ends P cx G S a W (Instr.makeMap t none) r:=by
 unfold aMakeMap at h
 split at h
 ·split at h
  ·rename_i kt et _ _ _ k _ _ _
   obtain rfl:=h.1
   obtain ⟨h1,h2⟩:=hS.newRow (W':=W.alloc (.map #[] 0)) hf (.mp k et []) [] W.heap.size undef 0 0 rfl (fun i b h=>by cases h) (fun j hj=>.inl (heap_alloc_old W _ j hj)) (fun j ho=>.inl (by have:j=_:=ho;simp only [Gh.add,updf_same] at this;omega)) (by simp) ⟨rfl,rfl,rfl⟩ (fun K' hK hE=>by
    refine ⟨[],0,?_,rfl,fun i h=>by simp at h⟩
    simp only [Gh.add,updf_same]
    exact heap_alloc_new W _)
   refine ⟨.map (some W.heap.size),W.alloc (.map #[] 0),_,rfl,h1,h2,?_⟩
   refine ⟨?_,?_⟩
   ·unfold St.k;simp [lk_cons]
   ·simp only [Gh.add,updf_same]
  ·exact h.elim
 ·exact h.elim
theorem lookup_sound (hT:T.OK P) (hS:Sim cx G S a.tmps W) {t:TypeId} {ok:Bool} {m x:Operand} {l l':List Nat} {r:Res E} (h:RM.Out S.h (aLookup T t ok (evO (lk S.ρ) m) (evO (lk S.ρ) x)) l r l'):Ends P cx G S a W (Instr.lookup t (a.eval m) (a.eval x) ok) r:=by
 unfold aLookup at h
 split at h
 rotate_left
 ·exact h.elim
 rename_i kt et id k n ht hm hx
 have ht:=hT.und _ _ ht
 have hm:AtR (E:=E) G S.k W (.mp id) (a.eval m):=ev_sound hS hm
 have hx:a.eval x = .int k n:=ev_sound hS hx
 split at h
 rotate_left
 ·exact h.elim
 rename_i k0 za hkt hza
 have hkt:=hT.und _ _ hkt
 have hb':=RM.Out_bif h;clear h;obtain ⟨hc,h⟩:=hb'
 obtain rfl:=ikEq_eq hc
 obtain ⟨z,l1,hz,h⟩:=RM.Out_bind h
 obtain ⟨w,d,ie,hzr,_,_,hzE⟩:=zeroD_sound hT hS hz
 have hzagg:∃vs:List Value,w = .agg vs.toArray:=by
  obtain ⟨w',hw',hr',_,_,_⟩:=zero_sound hT hza (K:=S.k)
  have e:=(hzr W).symm.trans (hw' W)
  cases e
  obtain ⟨vs,hv,_⟩:=hr' G W
  exact ⟨vs,hv⟩
 obtain ⟨b,hb,h⟩:=h
 dsimp only at h
 split at h
 rotate_left
 ·exact h.elim
 rename_i k1 n1 es
 split at h
 rotate_left
 ·exact h.elim
 rename_i hn1
 have hb':=RM.Out_bif h;clear h;obtain ⟨hc,h⟩:=hb'
 obtain rfl:=ikEq_eq hc
 obtain rfl:=Nat.eq_of_beq_eq_true hn1
 obtain ⟨ms,clock,hheap,hlen,hall⟩:=hS.blks id _ hb
 have hf:=findNow_mp (k:=k) (n:=n) ms es 0 hlen (fun j h1 h2=>(hall j h1 h2).1)
 have hrunK:∀W',(Instr.findKey kt (.int k n) ms.toArray.toList).run P W' = .ok ((mpIdx n es).bind fun j=>ms[j]?.map fun e=>(0+j,e.val)) W':=fun W'=>MapKept.run_findKey hkt hf
 rw [hm.2,hx]
 have found:∃(v:Value) (hit:Bool),(Instr.lookup t (.map (some (G.loc id))) (.int k n) ok).run P W = .ok (if ok then .tuple #[v,.bool hit] else v) W∧hit=(mpGet n es).isSome∧CvR G S.k W (toCv E (.st n1) ((mpGet n es).getD z)) v:=by
  have hck:(Instr.checkKey ms.toArray.isEmpty 10000 kt (.int k n)).run P W = .ok () W:=MapKept.run_checkKey (P:=P) (w:=W) (k:=.int k n) hkt (show MapKept.IsKey (.int k) (.int k n) from rfl) ms.toArray.isEmpty 9999
  cases hj:mpIdx n es with
  | none=>
   refine ⟨w,false,?_,by simp [mpGet,hj],?_⟩
   ·rw [hj] at hrunK
    simp only [Option.bind_none] at hrunK
    simp only [Instr.lookup,Sem.run_bind,run_underlying ht,Result.andThen_ok,MapKept.run_getObj_map hheap,Sem.run_pure,hck,hrunK,hzr]
   ·have e:(mpGet n es).getD z=z:=by simp [mpGet,hj]
    rw [e]
    obtain ⟨vs,rfl⟩:=hzagg
    exact ⟨vs,rfl,toCv_cells (t:=.st n1) (fun _ h=>h) (by simpa [Value.cells] using hzE)⟩
  | some j=>
   have hjl:=mpIdx_lt hj
   have hjm:j<ms.length:=by omega
   obtain ⟨_,vs,d',hv,hr⟩:=hall j hjm hjl
   refine ⟨ms[j].val,true,?_,by simp [mpGet,hj,List.getElem?_eq_getElem hjl],?_⟩
   ·rw [hj] at hrunK
    simp only [Option.bind_some,List.getElem?_eq_getElem hjm,Option.map_some] at hrunK
    simp only [Instr.lookup,Sem.run_bind,run_underlying ht,Result.andThen_ok,MapKept.run_getObj_map hheap,Sem.run_pure,hck,hrunK]
   ·have e:(mpGet n es).getD z=es[j].2:=by simp [mpGet,hj,List.getElem?_eq_getElem hjl]
    rw [e,hv]
    exact ⟨vs,rfl,toCv_cells (t:=.st n1) (fun _ h=>h) (show RoE E _ (.st n1) es[j].2 vs from hr)⟩
 obtain ⟨v,hit,hrun,hhit,hcv⟩:=found
 cases ok with
 | true=>
  rw [cond_true] at h
  obtain rfl:=h.1
  refine Ends.pure hS (w:=.tuple #[v,.bool hit]) (by simpa using hrun) ?_
  exact ⟨[v,.bool hit],rfl,v,_,rfl,hcv,_,_,rfl,by rw [hhit];rfl,rfl⟩
 | false=>
  rw [cond_false] at h
  obtain rfl:=h.1
  exact Ends.pure hS (w:=v) (by simpa using hrun) hcv
theorem mapUpd_sound (hT:T.OK P) (hS:Sim cx G S a.tmps W) {t:TypeId} {m x v:Operand} {l l':List Nat} {r:Res E} (h:RM.Out S.h (aMapUpd T t (evO (lk S.ρ) m) (evO (lk S.ρ) x) (asCv (evO (lk S.ρ) v))) l r l') :
  Ends P cx G S a W (Instr.mapUpdate t (a.eval m) (a.eval x) (a.eval v) >>= fun _=>Pure.pure undef) r:=by
 unfold aMapUpd at h
 split at h
 rotate_left
 ·exact h.elim
 rename_i kt et id k n xs ht hm hx hcv
 have hv:CvR G S.k W (.agg xs) (a.eval v):=ev_sound hS (asCv_some hcv)
 have ht:=hT.und _ _ ht
 have hm:AtR (E:=E) G S.k W (.mp id) (a.eval m):=ev_sound hS hm
 have hx:a.eval x = .int k n:=ev_sound hS hx
 split at h
 rotate_left
 ·exact h.elim
 rename_i k0 hkt
 have hkt:=hT.und _ _ hkt
 have hb':=RM.Out_bif h;clear h;obtain ⟨hc,h⟩:=hb'
 simp only [Bool.and_eq_true] at hc
 obtain ⟨hc,hok⟩:=hc
 obtain rfl:=ikEq_eq hc
 have hb2:=RM.Out_bind h;clear h;obtain ⟨u,l1,hu,h⟩:=hb2
 obtain ⟨⟨F',hS1,hF1,hf1⟩,hin⟩:=frz_sound hS hu
 obtain ⟨b,hb,h⟩:=h
 dsimp only at h
 split at h
 rotate_left
 ·exact h.elim
 rename_i k1 n1 es
 have hb':=RM.Out_bif h;clear h;obtain ⟨hc,h⟩:=hb'
 simp only [Bool.and_eq_true] at hc
 obtain ⟨hc,hn1⟩:=hc
 obtain rfl:=ikEq_eq hc
 obtain rfl:=Nat.eq_of_beq_eq_true hn1
 have hb2:=RM.Out_bind h;clear h;obtain ⟨d,l2,hd,h⟩:=hb2
 obtain rfl:=h.1
 obtain ⟨q,hq⟩:=ofCv_sound hS hF1 (t:=.st n1) rfl (v:=.agg xs) (by simpa [Cv.cells] using hok) hv (fun y hy=>Among.inF hf1 (hin y (by simpa [Cv.cells] using hy))) hd
 obtain ⟨vs,hve,_⟩:=hv
 rw [hve] at hq
 have hq:RoL E (RoA E W F' q) (E.fl n1) (E.opn n1 d) vs:=by
  have:=hq
  simp [Value.cells] at this
  exact this
 have hb1:St.h { S with H:=u++S.H } id=some (.mp k n1 es):=by
  rw [h_append]
  cases hl:lk u id with
  | none=>exact hb
  | some b'=>
   obtain ⟨e,t',ys,_,h2⟩:=frz_keys hu id b' hl
   rcases h2 with ⟨f,h2⟩ | ⟨hid,h2⟩<;>rw [hb] at h2<;>cases h2
 obtain ⟨ms,clock,hheap,hlen,hall⟩:=hS.blks id _ hb
 have hf:=findNow_mp (k:=k) (n:=n) ms es 0 hlen (fun j h1 h2=>(hall j h1 h2).1)
 have hkey:MapKept.IsKey (.int k) (.int k n):=rfl
 have hrunK:∀W',(Instr.findKey kt (.int k n) ms.toArray.toList).run P W' = .ok ((mpIdx n es).bind fun j=>ms[j]?.map fun e=>(0+j,e.val)) W':=fun W'=>MapKept.run_findKey hkt hf
 have hck:(Instr.checkKey false 10000 kt (.int k n)).run P W = .ok () W:=MapKept.run_checkKey (P:=P) (w:=W) hkt hkey false 9999
 have hlt:G.loc id<W.heap.size:=(Array.getElem?_eq_some_iff.1 hheap).1
 have done:∃(ms':List MapEntry) (clock':Nat),(Instr.mapUpdate t (.map (some (G.loc id))) (.int k n) (.agg vs.toArray)).run P W = .ok () { W with heap:=W.heap.setIfInBounds (G.loc id) (.map ms'.toArray clock') }∧ms'.length=(mpSet n d es).length∧
   ∀(W':World),(∀b,F' b→W'.heap[b]? = W.heap[b]?)→∀(i:Nat) (h:i<ms'.length) (h':i<(mpSet n d es).length),ms'[i].key = .int k (mpSet n d es)[i].1∧∃(vs:List Value) (d':Nat),ms'[i].val = .agg vs.toArray∧RoL E (RoA E W' F' d') (E.fl n1) (E.opn n1 (mpSet n d es)[i].2) vs:=by
  have old:∀(W':World),(∀b,F' b→W'.heap[b]? = W.heap[b]?)→∀(i:Nat) (h:i<ms.length) (h':i<es.length),ms[i].key = .int k es[i].1∧∃(vs:List Value) (d':Nat),ms[i].val = .agg vs.toArray∧RoL E (RoA E W' F' d') (E.fl n1) (E.opn n1 es[i].2) vs:=by
   intro W' hW i h1 h2
   obtain ⟨hk,ws,d',e1,e2⟩:=hall i h1 h2
   exact ⟨hk,ws,d',e1,e2.mono fun t x v=>RoA.more hF1 (fun b hb=>hW b (hF1 b hb)) d' d' (Nat.le_refl _) t x v⟩
  have new:∀(W':World),(∀b,F' b→W'.heap[b]? = W.heap[b]?)→∃(ws:List Value) (d':Nat),Value.agg vs.toArray = .agg ws.toArray∧RoL E (RoA E W' F' d') (E.fl n1) (E.opn n1 d) ws:=fun W' hW=>
   ⟨vs,q,rfl,hq.mono fun t x v=>RoA.more (fun _ h=>h) hW q q (Nat.le_refl _) t x v⟩
  cases hj:mpIdx n es with
  | none=>
   rw [hj] at hrunK
   simp only [Option.bind_none] at hrunK
   refine ⟨ms++[⟨.int k n,.agg vs.toArray,clock⟩],clock+1,?_,by simp [mpSet,hj,hlen],fun W' hW i h1 h2=>?_⟩
   ·simp only [Instr.mapUpdate,Sem.run_bind,run_underlying ht,Result.andThen_ok,MapKept.run_getObj_map hheap,hck,hrunK,MapKept.run_setObj_map _ hheap]
    simp
   ·have e:mpSet n d es=es++[(n,d)]:=by simp [mpSet,hj]
    simp only [e] at h2 ⊢
    by_cases hi:i<ms.length
    ·simp only [List.getElem_append_left hi,List.getElem_append_left (show i<es.length by omega)]
     exact old W' hW i hi (by omega)
    ·have:i=ms.length:=by simp at h1;omega
     subst this
     have e1:(ms++[(⟨.int k n,.agg vs.toArray,clock⟩:MapEntry)])[ms.length]'h1=⟨.int k n,.agg vs.toArray,clock⟩:=by simp
     have e2:(es++[(n,d)])[ms.length]'h2=(n,d):=by simp [hlen]
     rw [e1,e2]
     exact ⟨rfl,new W' hW⟩
  | some j=>
   have hjl:=mpIdx_lt hj
   have hjm:j<ms.length:=by omega
   have hjk:ms[j].key = .int k n:=by
    rw [(hall j hjm hjl).1]
    have:∀(es:List (Int×E.S n1)) (j:Nat) (hl:j<es.length),mpIdx n es=some j→es[j].1=n:=by
     intro es
     induction es with
     | nil=>intro j hl h;cases h
     | cons e r ih=>
      intro j hl h
      unfold mpIdx at h
      split at h
      ·cases h;rename_i he;exact he.symm
      ·obtain ⟨i,hi,rfl⟩:=Option.map_eq_some_iff.1 h
       exact ih i (mpIdx_lt hi) hi
    rw [this es j hjl hj]
   rw [hj] at hrunK
   simp only [Option.bind_some,List.getElem?_eq_getElem hjm,Option.map_some] at hrunK
   refine ⟨ms.set j ⟨.int k n,.agg vs.toArray,ms[j].born⟩,clock,?_,by simp [mpSet,hj,hlen],fun W' hW i h1 h2=>?_⟩
   ·have hst:=MapKept.run_keyThatStays (P:=P) (w:=W) hkey
    have hmod:(ms.toArray.modify j fun e=>{ e with key:=.int k n,val:=.agg vs.toArray })=(ms.set j ⟨.int k n,.agg vs.toArray,ms[j].born⟩).toArray:=by
     apply Array.toList_inj.1
     apply List.ext_getElem?
     intro i
     simp only [Array.toList_modify,List.getElem?_modify,List.getElem?_set]
     by_cases hi:j=i
     ·subst hi;simp [List.getElem?_eq_getElem hjm,hjm]
     ·simp [hi]
    simp only [Instr.mapUpdate,Sem.run_bind,run_underlying ht,Result.andThen_ok,MapKept.run_getObj_map hheap,hck,hrunK,Nat.zero_add]
    have e1:((ms.toArray[j]?.map (·.key)).getD (.int k n)) = .int k n:=by simp [List.getElem?_eq_getElem hjm,hjk]
    rw [e1,hst]
    simp only [Result.andThen_ok,MapKept.run_setObj_map _ hheap,hmod]
   ·have e:mpSet n d es=es.set j (n,d):=by simp [mpSet,hj]
    simp only [e] at h2 ⊢
    by_cases hi:i=j
    ·subst hi
     simp only [List.getElem_set_self]
     exact ⟨trivial,new W' hW⟩
    ·simp only [List.getElem_set_ne (fun e=>hi e.symm)]
     exact old W' hW i (by simpa using h1) (by simpa using h2)
 obtain ⟨ms',clock',hrun,hl',hall'⟩:=done
 have hw:=hS1.write hb1 (k0:=G.loc id) (W':={ W with heap:=W.heap.setIfInBounds (G.loc id) (.map ms'.toArray clock') }) rfl rfl (b:=.mp k n1 (mpSet n d es)) rfl (fun k hk=>hk) (fun b hb=>by simp [Ne.symm hb]) (by simp) ⟨rfl,rfl,rfl⟩ (fun K' hK hE=>
  ⟨ms',clock',by simp [hlt],hl',fun i h1 h2=>hall' _ (fun b hb=>hE.W b hb) i h1 h2⟩)
 have hE1:Ext G S.k W { G with F:=F' } (St.k { S with H:=u++S.H }) W:=ext_F hF1
 rw [hm.2,hx,hve]
 exact Ends.unit (r:=(_,_)) ⟨_,_,hrun,hw.1,hE1.trans hw.2⟩ rfl
end Mir
namespace Mir
set_option linter.unusedVariables false
set_option linter.unusedSimpArgs false
open Go
variable {E:Env} {P:Program} {T:Tb} {cx:Cx} {G G':Gh} {S:St E} {tm:Array Value} {a:Act} {W W':World}
theorem build_sound (hT:T.OK P) (hS:Sim cx G S a.tmps W) {t:TypeId} {parts:Array (Nat×Operand)} {l l':List Nat} {r:Res E} (h:RM.Out S.h (aBuild T t (parts.toList.map fun p=>(p.1,evO (lk S.ρ) p.2))) l r l') :
  Ends P cx G S a W (Instr.build t (parts.map fun (i,x)=>(i,a.eval x))) r:=by
 unfold aBuild at h
 split at h
 ·rename_i fs hu
  have hb':=RM.Out_bif h;clear h;obtain ⟨hall,h⟩:=hb'
  have hu':=hT.und _ _ hu
  split at h
  ·rename_i cs hz
   have hzc:=hz
   unfold Tb.zeroCv at hzc
   rw [hu] at hzc
   dsimp only at hzc
   split at hzc
   ·rename_i z hzz
    obtain ⟨i,hi,hiz⟩:=zero_info hT hzz
    have hzr:CvR (E:=E) G S.k W (.agg cs) z:=cvOfVal_sound hzc
    obtain ⟨vs,rfl,hvs⟩:=hzr
    split at h
    ·rename_i cs' hf
     rw [one_sound h]
     obtain ⟨places,hp,hget⟩:=mapM_sizes hT fs.toList hall
     obtain ⟨vs',hv',hr'⟩:=fills_sound hT hS (place:=(places.toArray[·]?)) (fun i fd n h1 h2=>by simpa using hget i fd n (by simpa using h1) h2) hvs hf
     refine Ends.pure hS (run_build W t _ vs'.toArray ?_) ⟨vs',rfl,hr'⟩
     unfold Program.built
     simp only [hi,hu',hiz,hp]
     simpa [Value.cells] using hv'
    ·exact h.elim
   ·cases hzc
  ·exact h.elim
 ·rename_i n e hu
  have hu':=hT.und _ _ hu
  split at h
  ·rename_i k k' n' ys hk hsz hz
   have hb':=RM.Out_bif h;clear h;obtain ⟨hc,h⟩:=hb'
   simp only [Bool.and_eq_true] at hc
   obtain rfl:=ikEq_eq hc.1
   obtain rfl:=Nat.eq_of_beq_eq_true hc.2
   obtain ⟨w,hw,hr,i,hi,hiz⟩:=zero_sound hT hz (K:=S.k)
   obtain ⟨q,l1,hq,h⟩:=RM.Out_bind h
   split at h
   rotate_left
   ·exact h.elim
   rename_i xs hfill
   obtain rfl:=h.1
   obtain ⟨hfl,hparts⟩:=elemsL_sound hS hq
   obtain ⟨F',hS1,hF1,hf1⟩:=frz_all hS hfl
   have hp:=hparts F' hF1 (fun x hx=>Among.inF hf1 hx)
   have hys:ys=List.replicate n (0:Int):=by
    unfold Tb.zeroCv at hz
    rw [hu] at hz
    dsimp only at hz
    split at hz
    ·rename_i k2 cs _ hzz
     cases hcc:(cs.toList.all (isZ k2)&&Nat.beq cs.toList.length n) with
     | false=>rw [hcc] at hz;cases hz
     | true=>rw [hcc] at hz;cases hz;rfl
    ·cases hz
   obtain ⟨hl,hwv⟩:=hr G W
   subst hys
   have hrow:RowC E W F' 0 (.int k) (List.replicate n (0:Int)) ((List.replicate n (0:Int)).map (Value.int k)):=by
    refine ⟨by simp [tsz],fun i hi=>⟨.int k (List.replicate n (0:Int))[i],?_,rfl⟩⟩
    apply List.ext_getElem?
    intro j
    rw [seg_get]
    simp only [tsz,Nat.mul_one]
    by_cases hj:j<1
    ·obtain rfl:j=0:=by omega
     simp at hi
     simp [hi]
    ·rw [if_neg hj,List.getElem?_eq_none (by simp;omega)]
   obtain ⟨d,cs,hfr,hrr,hxl⟩:=fillL_sound (sz:=1) rfl hp hrow hfill
   have hcs:cs=xs.map (Value.int k):=by
    apply List.ext_getElem
    ·rw [hrr.1];simp [tsz]
    ·intro i h1 h2
     have hi:i<xs.length:=by simpa using h2
     obtain ⟨v,hv,hvv⟩:=hrr.2 i hi
     have hvv:v = .int k xs[i]:=by cases d<;>exact hvv
     have:=congrArg (·[0]?) hv
     simp only [seg_get,tsz,Nat.mul_one,Nat.add_zero] at this
     rw [if_pos (by omega),List.getElem?_eq_getElem h1] at this
     simp at this
     rw [this,hvv]
     simp
   have hrun:(Instr.build t (parts.map fun (i,x)=>(i,a.eval x))).run P W = .ok (.agg cs.toArray) W:=by
    have hfr':Instr.fill (fun i=>some (i * 1,1)) w.cells (parts.map fun (i,x)=>(i,a.eval x)).toList=some cs.toArray:=by
     rw [hwv]
     simpa [Value.cells] using hfr
    simp only [Nat.mul_one] at hfr'
    simp [Instr.build,run_underlying hu',hw,size_some hT hsz]
    simp at hfr'
    rw [hfr']
    simp
   refine ⟨_,_,_,hrun,hS1,ext_F hF1,?_⟩
   exact ⟨by rw [hxl];simp,by rw [hcs]⟩
  ·exact h.elim
 ·exact h.elim
theorem aop_sound (hT:T.OK P) (hS:Sim cx G S a.tmps W) {fr:Nat} (hf:lk S.H fr=none) {o:Oper} {l l':List Nat} {r:Res E} (h:RM.Out S.h (aop T fr (lk S.ρ) o.op) l r l') :
  ∃v W' G',((execOp a.eval o).run P W = .ok (.value v) W'∨((execOp a.eval o).run P W = .ok .skip W'∧v=undef))∧Sim cx G' { S with H:=r.2++S.H } a.tmps W'∧
   Ext G S.k W G' (St.k { S with H:=r.2++S.H }) W'∧AVR G' (St.k { S with H:=r.2++S.H }) W' r.1 v:=by
 have fin:∀ {m:Sem Value},(∀v W',m.run P W = .ok v W'→(execOp a.eval o).run P W = .ok (.value v) W')→Ends P cx G S a W m r→∃v W' G',((execOp a.eval o).run P W = .ok (.value v) W'∨((execOp a.eval o).run P W = .ok .skip W'∧v=undef))∧Sim cx G' { S with H:=r.2++S.H } a.tmps W'∧
   Ext G S.k W G' (St.k { S with H:=r.2++S.H }) W'∧AVR G' (St.k { S with H:=r.2++S.H }) W' r.1 v:=by
  rintro m hm ⟨v,W',G',h1,h2⟩
  exact ⟨v,W',G',.inl (hm v W' h1),h2⟩
 unfold aop at h
 cases ho:o.op<;>rw [ho] at h<;>(try dsimp only at h)<;>try exact h.elim
 case move x=>exact fin (fun v W' hr=>by simp at hr;simp [execOp,ho,hr]) (move_sound hS h)
 case assign x=>exact fin (fun v W' hr=>by simp at hr;simp [execOp,ho,hr]) (move_sound hS h)
 case pick c x y=>exact fin (fun v W' hr=>by simp only [execOp,ho];simp only [Sem.run_bind] at hr ⊢;revert hr;cases (asBool (a.eval c)).run P W<;>simp) (pick_sound hS h)
 case alloc t=>exact fin (fun v W' hr=>by simp [execOp,ho,hr]) (alloc_sound hT hf hS h)
 case box t x=>exact fin (fun v W' hr=>by simp [execOp,ho,hr]) (boxop_sound hf hS h)
 case build t ps=>exact fin (fun v W' hr=>by simp only [execOp,ho,Sem.run_bind,hr];simp) (build_sound hT hS h)
 case buildSlice t n ps=>exact fin (fun v W' hr=>by simp only [execOp,ho,Sem.run_bind,hr];simp) (buildSlice_sound hT hf hS h)
 case load t x=>exact fin (fun v W' hr=>by simp [execOp,ho,hr]) (load_sound hT hS h)
 case store t x y=>
  obtain ⟨v,W',G',h1,h2⟩:=store_sound hT hS h
  refine ⟨v,W',G',.inr ?_,h2⟩
  simp only [Sem.run_bind] at h1
  simp only [execOp,ho,Sem.run_bind]
  revert h1
  cases (Instr.storeAt t (a.eval x) (a.eval y)).run P W with
  | ok u w=>intro h1;simp at h1;obtain ⟨h1,rfl⟩:=h1;exact ⟨by simp,h1.symm⟩
  | halt _ _=>intro h1;simp at h1
 case nilCheck x=>
  obtain ⟨v,h1,h2,h3⟩:=nilCheck_sound (P:=P) hS h
  exact ⟨v,W,G,.inl (h1 o ho),by rw [h3];exact hS,by rw [h3];exact Ext.refl _ _ _,by rw [h3];exact h2⟩
 case binOp op t x y yt=>
  split at h
  ·rename_i x' hy
   exact fin (fun v W' hr=>by simp only [execOp,ho,Sem.run_bind] at hr ⊢;simp only [Bool.false_eq_true,if_false] at hr;rw [hr];simp) (nil_sound (ne:=false) hT hS hy h)
  ·rename_i x' hy
   exact fin (fun v W' hr=>by simp only [execOp,ho,Sem.run_bind] at hr ⊢;simp only [if_true] at hr;rw [hr];simp) (nil_sound (ne:=true) hT hS hy h)
  ·rename_i xs hy hx
   rw [← hx] at h
   exact fin (fun v W' hr=>by simp only [execOp,ho,Sem.run_bind] at hr ⊢;simp only [Bool.false_eq_true,if_false] at hr;rw [hr];simp) (eqS_sound (ne:=false) hT hS h)
  ·rename_i xs hy hx
   rw [← hx] at h
   exact fin (fun v W' hr=>by simp only [execOp,ho,Sem.run_bind] at hr ⊢;simp only [if_true] at hr;rw [hr];simp) (eqS_sound (ne:=true) hT hS h)
  ·exact fin (fun v W' hr=>by simp only [execOp,ho,Sem.run_bind] at hr ⊢;rw [hr];simp) (bin_sound hT hS h)
 case unOp op t x=>exact fin (fun v W' hr=>by simp [execOp,ho,hr]) (un_sound hS h)
 case convert s t x=>exact fin (fun v W' hr=>by simp [execOp,ho,hr]) (conv_sound hT hf hS h)
 case makeFunc fn first cap=>exact fin (fun v W' hr=>by simp [execOp,ho,hr]) (makeFunc_sound hS h)
 case makeMap t r'=>
  cases r' with
  | none=>exact fin (fun v W' hr=>by simp [execOp,ho,hr]) (makeMap_sound hT hf hS h)
  | some _=>exact h.elim
 case lookup t x i ok=>exact fin (fun v W' hr=>by simp [execOp,ho,hr]) (lookup_sound hT hS h)
 case mapUpdate t m k x=>
  obtain ⟨v,W',G',h1,h2⟩:=mapUpd_sound hT hS h
  refine ⟨v,W',G',.inr ?_,h2⟩
  simp only [Sem.run_bind] at h1
  simp only [execOp,ho,Sem.run_bind]
  revert h1
  cases (Instr.mapUpdate t (a.eval m) (a.eval k) (a.eval x)).run P W with
  | ok u w=>intro h1;simp at h1;obtain ⟨h1,rfl⟩:=h1;exact ⟨by simp,h1.symm⟩
  | halt _ _=>intro h1;simp at h1
 case makeSlice t lo co=>exact fin (fun v W' hr=>by simp [execOp,ho,hr]) (makeSlice_sound hT hf hS h)
 case slice t x lo hi mx=>exact fin (fun v W' hr=>by simp [execOp,ho,hr]) (slice_sound hT hS h)
 case fieldAddr s x f=>exact fin (fun v W' hr=>by simp [execOp,ho,hr]) (fieldAddr_sound hT hS h)
 case field s x f=>exact fin (fun v W' hr=>by simp [execOp,ho,hr]) (field_sound hT hS h)
 case indexAddr t x i=>exact fin (fun v W' hr=>by simp [execOp,ho,hr]) (indexAddr_sound hT hS h)
 case index t x i=>exact fin (fun v W' hr=>by simp [execOp,ho,hr]) (index_sound hT hS h)
 case extract x i=>exact fin (fun v W' hr=>by simp [execOp,ho,hr]) (extract_sound hS h)
 case call c=>
  obtain ⟨callee,args,argTypes⟩:=c
  dsimp only at h
  have harr:∀ {α:Type} (xs:Array α) (l:List α),xs.toList=l→xs=l.toArray:=fun xs l h=>by rw [← h]
  split at h
  ·split at h
   ·rename_i x y t u hxs hts
    obtain rfl:=harr _ _ hxs
    obtain rfl:=harr _ _ hts
    exact fin (fun v W' hr=>by simp [execOp,ho,resolve,invoke,builtin,hr]) (append_sound (rty:=o.type) hT hf hS h)
   ·exact h.elim
  ·split at h
   ·rename_i x t hxs hts
    obtain rfl:=harr _ _ hxs
    obtain rfl:=harr _ _ hts
    exact fin (fun v W' hr=>by simp [execOp,ho,resolve,invoke,builtin,hr]) (len_sound (ty:=o.type) hT hS h)
   ·exact h.elim
  ·split at h
   ·rename_i x y t u hxs hts
    obtain rfl:=harr _ _ hxs
    obtain rfl:=harr _ _ hts
    exact fin (fun v W' hr=>by simp [execOp,ho,resolve,invoke,builtin,hr]) (copy_sound (u:=u) (rty:=o.type) hT hS h)
   ·exact h.elim
  ·split at h
   ·rename_i x t hxs hts
    obtain rfl:=harr _ _ hxs
    obtain rfl:=harr _ _ hts
    exact fin (fun v W' hr=>by simp [execOp,ho,resolve,invoke,builtin,hr]) (clear_sound (rty:=o.type) hT hS h)
   ·exact h.elim
  ·split at h
   ·rename_i x y hxs
    obtain rfl:=harr _ _ hxs
    have:=minmax_sound (P:=P) (mx:=false) (ts:=argTypes) (ty:=o.type) hS h
    exact fin (fun v W' hr=>by simp at hr;simp [execOp,ho,resolve,invoke,builtin,hr]) this
   ·exact h.elim
  ·split at h
   ·rename_i x y hxs
    obtain rfl:=harr _ _ hxs
    have:=minmax_sound (P:=P) (mx:=true) (ts:=argTypes) (ty:=o.type) hS h
    exact fin (fun v W' hr=>by simp at hr;simp [execOp,ho,resolve,invoke,builtin,hr]) this
   ·exact h.elim
  ·exact h.elim
end Mir
namespace Mir
set_option linter.unusedVariables false
set_option linter.unusedSimpArgs false
open Go
variable {E:Env} {P:Program} {T:Tb} {cx:Cx} {G G':Gh} {S:St E} {tm:Array Value} {a:Act} {W W':World}
section
variable (E) (W:World) (F:Nat→Prop)
def ShA (e:Nat) (t:Ty) (xs:List (Ty.D E.S t)) (v:Value) (fp:List Nat):Prop:=(∃A,v = .slice A 0 0∧xs=[]∧fp=[])∨
 ∃g cap cur d,v = .slice (some ⟨g,0,none⟩) xs.length cap∧fp=[g]∧0<cap∧CellsAt t.mk W g cur e∧xs.length≤cap∧cap≤maxLen∧cap * tsz E t≤cur.size∧
  ∀(i:Nat) (hi:i<xs.length),RoE E (RoA E W F d) t xs[i] ((cur.toList.drop (i * tsz E t)).take (tsz E t))
def RwA (deep:Bool) (e:Nat) (t:Ty) (xs:List (Ty.D E.S t)) (v:Value) (fp:List Nat):Prop:=match deep with
 | true=>fp.Nodup∧∃d,DeepA E W d (.slice e t) xs v fp
 | false=>ShA E W F e t xs v fp
def OwnA (dp:Bool):(t:Ty)→Ty.D E.S t→Value→List Nat→Prop
 | .int k,x,v,fp=>v = .int k x∧fp=[]
 | .bool,x,v,fp=>v = .bool x∧fp=[]
 | .str,x,v,fp=>v = .string x∧fp=[]
 | .opq,_,v,fp=>v=E.u∧fp=[]
 | .slice e t,xs,v,fp=>RwA E W F (dp && !t.flat1 E) e t xs v fp
 | .st _,_,_,_=>False
 | .arr _ _,_,_,_=>False
 | .pbx _ _,_,_,_=>False
 | .rsl e t,xs,v,fp=>(∃d,RoA E W F d (.slice e t) xs v)∧fp=[]
def OwnL (dp:Bool):(ts:List Ty)→HT E.S ts→List Value→List Nat→Prop
 | [],_,vs,fp=>vs=[]∧fp=[]
 | t::ts,h,vs,fp=>∃v r f1 f2,vs=v::r∧fp=f1++f2∧OwnA E W F dp t h.1 v f1∧OwnL dp ts h.2 r f2
def OwnE (dp:Bool):(t:Ty)→Ty.D E.S t→Value→List Nat→Prop
 | .st n,x,w,fp=>∃vs:List Value,w = .agg vs.toArray∧OwnL E W F dp (E.fl n) (E.opn n x) vs fp
 | .arr k n,x,w,fp=>(x.length=n∧w = .agg (x.map (Value.int k)).toArray)∧fp=[]
 | .int k,x,w,fp=>OwnA E W F dp (.int k) x w fp
 | .bool,x,w,fp=>OwnA E W F dp .bool x w fp
 | .str,x,w,fp=>OwnA E W F dp .str x w fp
 | .opq,x,w,fp=>OwnA E W F dp .opq x w fp
 | .slice e t,x,w,fp=>OwnA E W F dp (.slice e t) x w fp
 | .rsl e t,x,w,fp=>OwnA E W F dp (.rsl e t) x w fp
 | .pbx b n,x,v,fp=>∃(g:Nat) (vs:List Value) (f:List Nat),v = .pointer (some ⟨g,0,none⟩)∧W.heap[g]? = some (.cells vs.toArray b (0,0))∧OwnL E W F dp (E.fl n) (E.opn n x) vs f∧fp=g::f
def RoV:(t:Ty)→Ty.D E.S t→Value→Prop
 | .st n,x,w=>∃(vs:List Value) (d:Nat),w = .agg vs.toArray∧RoL E (RoA E W F d) (E.fl n) (E.opn n x) vs
 | .arr k n,x,w=>x.length=n∧w = .agg (x.map (Value.int k)).toArray
 | .pbx _ _,_,_=>True
 | t,x,w=>∃d,RoA E W F d t x w
def OwnEs (dp:Bool):(ts:List Ty)→HT E.S ts→List Value→List Nat→Prop
 | [],_,vs,fp=>vs=[]∧fp=[]
 | t::ts,h,vs,fp=>∃v r f1 f2,vs=v::r∧fp=f1++f2∧OwnE E W F dp t h.1 v f1∧OwnEs dp ts h.2 r f2
def RoVs:(ts:List Ty)→HT E.S ts→List Value→Prop
 | [],_,vs=>vs=[]
 | t::ts,h,vs=>∃v r,vs=v::r∧RoV E W F t h.1 v∧RoVs ts h.2 r
def BoxV (dp:Bool) (b n:Nat) (x:E.S n) (v:Value) (fp:List Nat):Prop:=
 ∃(g:Nat) (vs:List Value) (f:List Nat),v = .pointer (some ⟨g,0,none⟩)∧W.heap[g]? = some (.cells vs.toArray b (0,0))∧OwnL E W F dp (E.fl n) (E.opn n x) vs f∧fp=g::f
def RoP (t:Ty) (x:Ty.D E.S t) (v:Value):Prop:=
 ∃(g:Nat) (vs:List Value) (d:Nat),v = .pointer (some ⟨g,0,none⟩)∧RoE E (RoA E W F d) t x vs∧(0<vs.length→F g)∧∀(j:Nat) (hj:j<vs.length),W.cell? ⟨g,j,none⟩=some vs[j]
def CapP:(c:Cap)→c.I E→Value→Prop
 | .rb t,x,v=>RoP E W F t x v
 | .rpp t,x,v=>∃(g:Nat) (w:Value),v = .pointer (some ⟨g,0,none⟩)∧F g∧W.cell? ⟨g,0,none⟩=some w∧RoP E W F t x w
def CapPs:(cs:List Cap)→CT E cs→List Value→Prop
 | [],_,vs=>vs=[]
 | c::cs,h,vs=>∃v r,vs=v::r∧CapP E W F c h.1 v∧CapPs cs h.2 r
def InP:(p:Par)→p.I E→Value→List Nat→Prop
 | .val t,x,v,fp=>RoV E W F t x v∧fp=[]
 | .mut dp t,x,v,fp=>OwnE E W F dp t x v fp
 | .mov dp t,x,v,fp=>OwnE E W F dp t x v fp
 | .box dp b n,x,v,fp=>BoxV E W F dp b n x v fp
 | .movb dp b n,x,v,fp=>BoxV E W F dp b n x v fp
 | .clo f caps,x,v,fp=>(∃ws:List Value,v = .func (.func f) #[] ws.toArray∧CapPs E W F caps x ws)∧fp=[]
 | .cap c,x,v,fp=>CapP E W F c x v∧fp=[]
def InPs:(ps:List Par)→IT E ps→List Value→List Nat→Prop
 | [],_,vs,fp=>vs=[]∧fp=[]
 | p::ps,h,vs,fp=>∃v r f1 f2,vs=v::r∧fp=f1++f2∧InP E W F p h.1 v f1∧InPs ps h.2 r f2
def OutP:(p:Par)→p.O E→Value→List Nat→Prop
 | .mut dp t,x,v,fp=>OwnE E W F dp t x v fp
 | .box dp b n,x,v,fp=>BoxV E W F dp b n x v fp
 | .val _,_,_,fp=>fp=[]
 | .clo _ _,_,_,fp=>fp=[]
 | .cap _,_,_,fp=>fp=[]
 | .mov _ _,_,_,fp=>fp=[]
 | .movb _ _ _,_,_,fp=>fp=[]
def OutPs:(ps:List Par)→OT E ps→List Value→List Nat→Prop
 | [],_,vs,fp=>vs=[]∧fp=[]
 | p::ps,h,vs,fp=>∃v r f1 f2,vs=v::r∧fp=f1++f2∧OutP E W F p h.1 v f1∧OutPs ps h.2 r f2
end
def tupV:List Value→Value
 | [v]=>v
 | vs=>.tuple vs.toArray
structure Left (E:Env) (s:Spec E) (r:s.R) (W:World) (F:Nat→Prop) (args:List Value) (fpM:List Nat) (v:Value) (W':World):Prop where
 ex:∃(F':Nat→Prop) (vs:List Value) (fpR fpO:List Nat),v=tupV vs∧(∀b,F b→F' b)∧(∀b,F' b→(F b∨W.heap.size≤b∨b∈fpM)∧b<W'.heap.size)∧
  (if s.own then OwnEs E W' F' s.dp s.rs (s.res r) vs fpR else (RoVs E W' F' s.rs (s.res r) vs∧fpR=[]))∧OutPs E W' F' s.ps (s.out r) args fpO∧
  (fpR++fpO).Nodup∧(∀b∈fpR++fpO,¬ F' b∧(b∈fpM∨W.heap.size≤b))
 os:W'.os=W.os
 tape:W'.tape=W.tape
 output:W'.output=W.output
 size:W.heap.size≤W'.heap.size
 block:∀b,b<W.heap.size→b∉fpM→W'.heap[b]? = W.heap[b]?
def Callee (P:Program) (f:FuncId):Prop:=∀args W,(callFunc f args).run P W = .ok (.enter f args) W
def Sound (P:Program) (E:Env) (f:FuncId) (s:Spec E):Prop:=
 Callee P f∧∀(W:World) (F:Nat→Prop) (x:IT E s.ps) (r:s.R) (args:List Value) (fpM:List Nat),s.fn x=some r→InPs E W F s.ps x args fpM→fpM.Nodup→(∀b∈fpM,¬ F b)→(∀b,F b→b<W.heap.size)→
  Calls P f args.toArray W fun e W'=>∃v,e = .returned v∧Left E s r W F args fpM v W'
def BlksOf (G:Gh) (S:St E) (ids:List Nat) (fp:List Nat):Prop:=∀k,k∈fp→∃id∈ids,∃b,S.h id=some b∧Occ G id b k
theorem BlksOf.nil {ids:List Nat}:BlksOf G S ids []:=fun k h=>by cases h
theorem BlksOf.app {i1 i2 f1 f2:List Nat} (h:BlksOf G S i1 f1) (k:BlksOf G S i2 f2):BlksOf G S (i1++i2) (f1++f2):=by
 intro b hb
 rcases List.mem_append.1 hb with hb | hb
 ·obtain ⟨id,hi,r⟩:=h b hb;exact ⟨id,by simp [hi],r⟩
 ·obtain ⟨id,hi,r⟩:=k b hb;exact ⟨id,by simp [hi],r⟩
theorem BlksOf.disj (hS:Sim cx G S tm W) {m1 m2 f1 f2:List Nat} (h1:BlksOf G S m1 f1) (h2:BlksOf G S m2 f2) (hd:∀i∈m1,i∉m2):∀k∈f1,k∉f2:=by
 intro k hk hk2
 obtain ⟨i,hi,b,hb,ho⟩:=h1 k hk
 obtain ⟨j,hj,c,hc,ho'⟩:=h2 k hk2
 exact hd i hi (hS.inj i j b c k hb hc ho ho'▸hj)
theorem BlksOf.nodup (hS:Sim cx G S tm W) {m1 m2 f1 f2:List Nat} (h1:BlksOf G S m1 f1) (h2:BlksOf G S m2 f2) (n1:m1.Nodup→f1.Nodup) (n2:m2.Nodup→f2.Nodup) (h:(m1++m2).Nodup):(f1++f2).Nodup:=by
 obtain ⟨a,b,c⟩:=List.nodup_append.1 h
 exact List.nodup_append.2 ⟨n1 a,n2 b,fun x hx y hy e=>h1.disj hS h2 (fun i hi hj=>c i hi i hj rfl) x hx (e▸hy)⟩
theorem nodupB_iff:∀ {l:List Nat},nodupB l=true→l.Nodup
 | [],_=>List.nodup_nil
 | x::l,h=>by
  simp only [nodupB,Bool.and_eq_true,Bool.not_eq_true'] at h
  refine List.nodup_cons.2 ⟨fun hx=>?_,nodupB_iff h.2⟩
  have:l.any (Nat.beq x)=true:=List.any_eq_true.2 ⟨x,hx,Nat.beq_refl x⟩
  rw [this] at h;cases h.1
structure Hand (G:Gh) (S:St E) (m fp:List Nat):Prop where
 blks:BlksOf G S m fp
 nodup:m.Nodup→fp.Nodup
 wr:∀i∈m,∃b,S.h i=some b∧b.fz=false
theorem Hand.nil:Hand G S [] []:=⟨BlksOf.nil,fun _=>List.nodup_nil,fun i hi=>by cases hi⟩
theorem Hand.app (hS:Sim cx G S tm W) {m1 m2 f1 f2:List Nat} (h:Hand G S m1 f1) (k:Hand G S m2 f2):Hand G S (m1++m2) (f1++f2):=
 ⟨h.blks.app k.blks,fun hn=>h.blks.nodup hS k.blks h.nodup k.nodup hn,fun i hi=>by
  rcases List.mem_append.1 hi with hi | hi
  ·exact h.wr i hi
  ·exact k.wr i hi⟩
theorem Hand.one {id:Nat} {b:Blk E} {fp:List Nat} (hb:S.h id=some b) (hz:b.fz=false) (hn:fp.Nodup) (ho:∀k∈fp,Occ G id b k):Hand G S [id] fp:=
 ⟨fun k hk=>⟨id,by simp,b,hb,ho k hk⟩,fun _=>hn,fun i hi=>by rw [List.mem_singleton] at hi;subst hi;exact ⟨b,hb,hz⟩⟩
theorem row_own (hS:Sim cx G S tm W) {F:Nat→Prop} (hF:∀b,G.F b→F b) {id:Nat} {e:Nat} {t:Ty} {xs:List (Ty.D E.S t)} (hb:S.h id=some (.row e t xs false)):∃fp,ShA E W F e t xs (G.hd id) fp∧Hand G S [id] fp:=by
 obtain ⟨b1,b2,b3,hrow⟩:=hS.blks id _ hb
 rcases hrow with ⟨A,hA,hnil⟩ | ⟨cap,cur,d,hhd,hcap,hh,hlen,hmax,hcur,hel⟩
 ·exact ⟨[],.inl ⟨A,hA,hnil,rfl⟩,Hand.one hb rfl List.nodup_nil (fun k h=>by cases h)⟩
 ·refine ⟨[G.loc id],.inr ⟨G.loc id,cap,cur,d,hhd,rfl,hcap,hh,hlen,hmax,hcur,fun i hi=>(hel i hi).mono fun t x v=>RoA.more hF (fun _ _=>rfl) d d (Nat.le_refl _) t x v⟩,Hand.one hb rfl (by simp) fun k h=>?_⟩
  rw [List.mem_singleton] at h;exact ⟨h,by rw [hhd];exact hcap⟩
theorem drow_own (hS:Sim cx G S tm W) {id:Nat} {e:Nat} {t:Ty} {xs:List (Ty.D E.S t)} {hid:Nat} (hb:S.h id=some (.drow e t xs hid)):∃fp,(fp.Nodup∧∃d,DeepA E W d (.slice e t) xs (G.hd id) fp)∧Hand G S [id] fp:=by
 obtain ⟨b0,b1,b2,b3,hrow⟩:=hS.blks id _ hb
 rcases hrow with ⟨A,hA,hnil,_⟩ | ⟨cap,cur,d,fps,hhd,hcap,hh,hlen,hmax,hcur,hfp,hnd,hr,_⟩
 ·exact ⟨[],⟨List.nodup_nil,1,.inl ⟨A,hA,hnil,rfl⟩⟩,Hand.one hb rfl List.nodup_nil (fun k h=>by cases h)⟩
 ·refine ⟨G.loc id::fps.flatten,⟨hnd,d+1,.inr ⟨G.loc id,cap,cur,fps,hhd,rfl,hcap,hh,hlen,hmax,hcur,hr⟩⟩,Hand.one hb rfl hnd fun k h=>?_⟩
  rcases List.mem_cons.1 h with rfl | h
  ·exact .inl ⟨rfl,by rw [hhd];exact hcap⟩
  ·exact .inr (by rw [hfp];exact h)
theorem ownAt_sound (hS:Sim cx G S tm W) {F:Nat→Prop} (hF:∀b,G.F b→F b) {sb dp:Bool} {t:Ty} {x:At E} {v:Value} {l1 l2 l3 l4:List Nat} {d:Ty.D E.S t} {m:List Nat} (hx:AtR G S.k W x v) (h1:RM.Out S.h (ofAt E t x) l1 d l2) (h2:RM.Out S.h (ownAt E sb dp t x) l3 m l4) :
  ∃fp,OwnA E W F dp t d v fp∧Hand G S m fp:=by
 unfold ownAt at h2
 split at h2
 ·rename_i e t e' t' xs
  obtain rfl:=h2.1
  obtain ⟨n,hn⟩:=ofAt_sound (t:=.rsl e t) hS hF hx trivial h1
  exact ⟨[],⟨⟨n,RoA_rsl.1 hn⟩,rfl⟩,Hand.nil⟩
 ·rename_i e t
  obtain rfl:=h2.1
  obtain ⟨n,hn⟩:=ofAt_sound (t:=.rsl e t) hS hF hx trivial h1
  exact ⟨[],⟨⟨n,RoA_rsl.1 hn⟩,rfl⟩,Hand.nil⟩
 ·rename_i e t id
  obtain ⟨b,hb,h2⟩:=h2
  obtain ⟨b',hb',h1⟩:=h1
  rw [hb] at hb';cases hb'
  dsimp only at h1 h2
  split at h2
  ·rename_i e' t' xs
   have hb':=RM.Out_bif h2;clear h2;obtain ⟨hc,h2⟩:=hb'
   obtain rfl:=h2.1
   obtain ⟨rfl,rfl,rfl⟩:=castR_sound h1
   have hsh:(dp && !t'.flat1 E)=false:=by cases dp<;>simp_all
   obtain ⟨fp,j1,j2⟩:=row_own hS hF hb
   exact ⟨fp,by show RwA E W F (dp && !t'.flat1 E) _ _ _ _ _;rw [hsh,hx.2.1];exact j1,j2⟩
  ·rename_i e' t' xs hid
   have hb':=RM.Out_bif h2;clear h2;obtain ⟨hc,h2⟩:=hb'
   obtain rfl:=h2.1
   obtain ⟨rfl,rfl,rfl⟩:=castR_sound h1
   obtain ⟨fp,j1,j2⟩:=drow_own hS hb
   exact ⟨fp,by show RwA E W F (dp && !t'.flat1 E) _ _ _ _ _;rw [hc,hx.2.1];exact j1,j2⟩
  ·exact h2.elim
 ·rename_i e t id off len
  obtain ⟨b,hb,h2⟩:=h2
  obtain ⟨b',hb',h1⟩:=h1
  rw [hb] at hb';cases hb'
  dsimp only at h1 h2
  split at h2
  ·rename_i e' t' xs
   have hb':=RM.Out_bif h2;clear h2;obtain ⟨hc,h2⟩:=hb'
   obtain rfl:=h2.1
   obtain ⟨hle,h1⟩:=h1
   simp only [decide_eq_true_eq] at hle
   obtain ⟨rfl,rfl,rfl⟩:=castR_sound h1
   simp only [Bool.and_eq_true] at hc
   obtain rfl:=Nat.eq_of_beq_eq_true hc.1.2
   have hsh:(dp && !t'.flat1 E)=false:=by cases dp<;>simp_all
   obtain ⟨b1,b2,b3,hrow⟩:=hS.blks id _ hb
   obtain ⟨hk,hol,A,c,hv,hlc,hA⟩:=hx
   have hl:((xs.drop 0).take len).length=len:=by simp;omega
   rcases Nat.eq_zero_or_pos c with h0 | h0
   ·subst h0
    have hl0:len=0:=by omega
    subst hl0
    exact ⟨[],by show RwA E W F (dp && !t'.flat1 E) _ _ _ _ _;rw [hsh];exact .inl ⟨A,hv,by simp,rfl⟩,Hand.one hb rfl List.nodup_nil (fun k h=>by cases h)⟩
   ·obtain ⟨hA1,hA2⟩:=hA h0
    rcases hrow with ⟨A',hA',hnil⟩ | ⟨cap,cur,d,hhd,hcap,hh,hlen,hmax,hcur,hel⟩
    ·rw [hA'] at hA2;simp [capOf] at hA2;omega
    ·rw [hhd] at hA2
     have hA2:c≤cap:=by simpa [capOf] using hA2
     have hsz:c * tsz E t'≤cap * tsz E t':=Nat.mul_le_mul_right _ hA2
     refine ⟨[G.loc id],?_,Hand.one hb rfl (by simp) fun k h=>?_⟩
     ·show RwA E W F (dp && !t'.flat1 E) _ _ _ _ _
      rw [hsh]
      refine .inr ⟨G.loc id,c,cur,d,by rw [hl,hv,hA1];simp,rfl,h0,hh,by rw [hl];exact hlc,by omega,by omega,fun i hi=>?_⟩
      have hi':i<xs.length:=by rw [hl] at hi;omega
      have:=(hel i hi').mono fun t x v=>RoA.more hF (fun _ _=>rfl) d d (Nat.le_refl _) t x v
      simpa using this
     ·rw [List.mem_singleton] at h;exact ⟨h,by rw [hhd];exact hcap⟩
  ·exact h2.elim
 ·rename_i e t
  obtain rfl:=h2.1
  obtain rfl:=h1.1
  obtain ⟨A,hv⟩:=hx
  refine ⟨[],?_,Hand.nil⟩
  show RwA E W F (dp && !t.flat1 E) _ _ _ _ _
  cases dp && !t.flat1 E with
  | true=>exact ⟨List.nodup_nil,1,.inl ⟨A,hv,rfl,rfl⟩⟩
  | false=>exact .inl ⟨A,hv,rfl,rfl⟩
 ·obtain rfl:=h2.1
  have hb':=RM.Out_bif h1;clear h1;obtain ⟨hk,h1⟩:=hb'
  obtain rfl:=ikEq_eq hk
  obtain rfl:=h1.1
  exact ⟨[],⟨hx,rfl⟩,Hand.nil⟩
 ·obtain rfl:=h2.1
  obtain rfl:=h1.1
  exact ⟨[],⟨hx,rfl⟩,Hand.nil⟩
 ·obtain rfl:=h2.1
  obtain rfl:=h1.1
  exact ⟨[],⟨hx,rfl⟩,Hand.nil⟩
 ·obtain rfl:=h2.1
  exact ⟨[],⟨hx,rfl⟩,Hand.nil⟩
 ·exact h2.elim
theorem ownAll_sound (hS:Sim cx G S tm W) {F:Nat→Prop} (hF:∀b,G.F b→F b) {sb dp:Bool}:∀ {ts:List Ty} {xs:List (At E)} {vs:List Value} {l1 l2 l3 l4:List Nat} {d:HT E.S ts} {m:List Nat},AtsR G S.k W xs vs→RM.Out S.h (ofAts E ts xs) l1 d l2→RM.Out S.h (ownAll E sb dp ts xs) l3 m l4→
  ∃fp,OwnL E W F dp ts d vs fp∧Hand G S m fp
 | [],[],_,_,_,_,_,d,m,hr,h1,h2=>by
  rw [AtsR] at hr
  obtain rfl:=h2.1
  exact ⟨[],⟨hr,rfl⟩,Hand.nil⟩
 | [],_::_,_,_,_,_,_,_,_,_,h1,_=>h1.elim
 | _::_,[],_,_,_,_,_,_,_,_,h1,_=>h1.elim
 | t::ts,x::xs,vs,l1,l2,l3,l4,d,m,⟨v,r,hv,ha,hr⟩,h1,h2=>by
  obtain ⟨y,l5,h3,h1⟩:=RM.Out_bind h1
  obtain ⟨z,l6,h4,h1⟩:=RM.Out_bind h1
  obtain rfl:=h1.1
  obtain ⟨m1,l7,h5,h2⟩:=RM.Out_bind h2
  obtain ⟨m2,l8,h6,h2⟩:=RM.Out_bind h2
  obtain rfl:=h2.1
  obtain ⟨f1,i1,i2⟩:=ownAt_sound hS hF ha h3 h5
  obtain ⟨f2,j1,j2⟩:=ownAll_sound hS hF hr h4 h6
  exact ⟨f1++f2,⟨v,r,f1,f2,hv,rfl,i1,j1⟩,i2.app hS j2⟩
theorem ownCv_sound (hS:Sim cx G S tm W) {F:Nat→Prop} (hF:∀b,G.F b→F b) {sb dp:Bool} {t:Ty} {v:Cv E} {w:Value} {l1 l2 l3 l4:List Nat} {d:Ty.D E.S t} {m:List Nat} (hv:CvR G S.k W v w) (h1:RM.Out S.h (ofCv E t v) l1 d l2) (h2:RM.Out S.h (ownCv E sb dp t v) l3 m l4) :
  ∃fp,OwnE E W F dp t d w fp∧Hand G S m fp:=by
 cases v with
 | agg xs=>
  cases t with
  | st n=>
   obtain ⟨vs,rfl,hvs⟩:=hv
   obtain ⟨y,l5,h3,h1⟩:=RM.Out_bind h1
   obtain rfl:=h1.1
   obtain ⟨fp,i1,i2⟩:=ownAll_sound hS hF hvs h3 h2
   exact ⟨fp,⟨vs,rfl,by rw [E.opn_shut];exact i1⟩,i2⟩
  | _=>exact h1.elim
 | arr k n xs=>
  cases t with
  | arr k' n'=>
   have hb':=RM.Out_bif h1;clear h1;obtain ⟨hc,h1⟩:=hb'
   simp only [Bool.and_eq_true] at hc
   obtain rfl:=ikEq_eq hc.1
   obtain rfl:=Nat.eq_of_beq_eq_true hc.2
   obtain rfl:=h1.1
   obtain rfl:=h2.1
   exact ⟨[],⟨hv,rfl⟩,Hand.nil⟩
  | _=>exact h1.elim
 | «at» x=>
  cases t with
  | st n=>exact h1.elim
  | arr k n=>exact h1.elim
  | pbx b n=>
   cases x with
   | ptr id o=>
    cases o with
    | zero=>
     obtain ⟨c,hc,h1⟩:=h1
     have hb2:=RM.Out_bif h2;clear h2;obtain ⟨_,h2⟩:=hb2
     obtain ⟨c',hc',h2⟩:=h2
     rw [hc] at hc';cases hc'
     cases c with
     | box t cells=>
      have hb':=RM.Out_bif h1;clear h1;obtain ⟨ht,h1⟩:=hb'
      obtain rfl:=Nat.eq_of_beq_eq_true ht
      obtain ⟨y,l5,h3,h1⟩:=RM.Out_bind h1
      obtain rfl:=h1.1
      obtain ⟨m1,l7,h5,h2⟩:=RM.Out_bind h2
      obtain rfl:=h2.1
      obtain ⟨us,hus,hr⟩:=hS.blks id _ hc
      obtain ⟨f,i1,i2⟩:=ownAll_sound hS hF hr h3 h5
      have hself:Hand G S [id] [G.loc id]:=Hand.one hc rfl (by simp) fun k hk=>by rw [List.mem_singleton] at hk;exact hk
      exact ⟨G.loc id::f,⟨G.loc id,us,f,hv.2,hus,by rw [E.opn_shut];exact i1,rfl⟩,hself.app hS i2⟩
     | _=>exact h1.elim
    | succ o=>exact h1.elim
   | _=>exact h1.elim
  | _=>exact ownAt_sound hS hF hv h1 h2
theorem ownCvs_sound (hS:Sim cx G S tm W) {F:Nat→Prop} (hF:∀b,G.F b→F b) {dp:Bool}:∀ {ts:List Ty} {vs:List (Cv E)} {ws:List Value} {l1 l2 l3 l4:List Nat} {d:HT E.S ts} {m:List Nat},CvsR G S.k W vs ws→RM.Out S.h (ofCvs E ts vs) l1 d l2→RM.Out S.h (ownCvs E dp ts vs) l3 m l4→
  ∃fp,OwnEs E W F dp ts d ws fp∧Hand G S m fp
 | [],[],_,_,_,_,_,d,m,hr,_,h2=>by
  obtain rfl:=h2.1
  exact ⟨[],⟨hr,rfl⟩,Hand.nil⟩
 | [],_::_,_,_,_,_,_,_,_,_,h,_=>h.elim
 | _::_,[],_,_,_,_,_,_,_,_,h,_=>h.elim
 | t::ts,v::vs,_,_,_,_,_,d,m,⟨w,r,hw,hv,hr⟩,h1,h2=>by
  obtain ⟨y,l5,h3,h1⟩:=RM.Out_bind h1
  obtain ⟨z,l6,h4,h1⟩:=RM.Out_bind h1
  obtain rfl:=h1.1
  obtain ⟨m1,l7,h5,h2⟩:=RM.Out_bind h2
  obtain ⟨m2,l8,h6,h2⟩:=RM.Out_bind h2
  obtain rfl:=h2.1
  obtain ⟨f1,i1,i2⟩:=ownCv_sound hS hF hv h3 h5
  obtain ⟨f2,j1,j2⟩:=ownCvs_sound hS hF hr h4 h6
  exact ⟨f1++f2,⟨w,r,f1,f2,hw,rfl,i1,j1⟩,i2.app hS j2⟩
theorem ofCv_rov (hS:Sim cx G S tm W) {F:Nat→Prop} (hF:∀b,G.F b→F b) {t:Ty} {v:Cv E} {w:Value} (hok:v.cells.all okAt=true) (hv:CvR G S.k W v w) (hi:∀x∈v.cells,InF G S F x) {l l':List Nat} {d:Ty.D E.S t} (h:RM.Out S.h (ofCv E t v) l d l'):RoV E W F t d w:=by
 by_cases hel:t.elemB=true
 ·obtain ⟨n,hn⟩:=ofCv_sound hS hF hel hok hv hi h
  cases v with
  | agg xs=>
   cases t with
   | st m=>
    obtain ⟨vs,rfl,hvs⟩:=hv
    exact ⟨vs,n,rfl,by simpa [Value.cells,RoE] using hn⟩
   | _=>exact h.elim
  | arr k n xs=>cases t<;>first | exact h.elim | cases hel
  | «at» x=>
   cases t with
   | st n=>exact h.elim
   | arr k n=>cases hel
   | pbx b n=>cases hel
   | _=>
    obtain ⟨v',hv',hr⟩:=hn
    have hone:w.cells.toList=[w]:=by
     have:=AtR.one (K:=S.k) hv (by simpa [Cv.cells] using hok)
     cases w<;>first | rfl | (simp [Value.oneCell'] at this)
    rw [hone] at hv'
    cases hv'
    exact ⟨n,hr⟩
 ·cases t with
  | arr k n=>
   cases v with
   | arr k' n' xs=>
    have hb':=RM.Out_bif h;clear h;obtain ⟨hc,h⟩:=hb'
    simp only [Bool.and_eq_true] at hc
    obtain rfl:=ikEq_eq hc.1
    obtain rfl:=Nat.eq_of_beq_eq_true hc.2
    obtain rfl:=h.1
    exact hv
   | _=>exact h.elim
  | pbx b n=>trivial
  | _=>exact absurd rfl hel
theorem ofCvs_rov (hS:Sim cx G S tm W) {F:Nat→Prop} (hF:∀b,G.F b→F b):∀ {ts:List Ty} {vs:List (Cv E)} {ws:List Value} {l l':List Nat} {d:HT E.S ts},(∀v∈vs,v.cells.all okAt=true)→CvsR G S.k W vs ws→(∀v∈vs,∀x∈v.cells,InF G S F x)→RM.Out S.h (ofCvs E ts vs) l d l'→RoVs E W F ts d ws
 | [],[],_,_,_,_,_,hr,_,h=>hr
 | t::ts,v::vs,_,_,_,d,hok,⟨w,r,hw,hv,hr⟩,hi,h=>by
  obtain ⟨y,l1,h1,h⟩:=RM.Out_bind h
  obtain ⟨z,l2,h2,h⟩:=RM.Out_bind h
  obtain rfl:=h.1
  exact ⟨w,r,hw,ofCv_rov hS hF (hok v (List.mem_cons_self ..)) hv (hi v (List.mem_cons_self ..)) h1,ofCvs_rov hS hF (fun v hv=>hok v (List.mem_cons_of_mem _ hv)) hr (fun v hv=>hi v (List.mem_cons_of_mem _ hv)) h2⟩
 | [],_::_,_,_,_,_,_,_,_,h=>h.elim
 | _::_,[],_,_,_,_,_,_,_,h=>h.elim
end Mir
namespace Mir
set_option linter.unusedVariables false
set_option linter.unusedSimpArgs false
open Go
variable {E:Env} {P:Program} {T:Tb} {cx:Cx} {G G':Gh} {S:St E} {tm:Array Value} {a:Act} {W W':World}
def Free (cx:Cx) (G:Gh) (S:St E) (k:Nat):Prop:=¬ G.F k∧(cx.W0.heap.size≤k∨cx.M k)∧∀i b,S.h i=some b→¬ Occ G i b k
theorem h_cons {id:Nat} {b:Blk E} {i:Nat} {c:Blk E} (h:St.h { S with H:=(id,b)::S.H } i=some c):(i=id∧c=b)∨(i≠id∧S.h i=some c):=by
 unfold St.h at h ⊢
 simp only [lk_cons] at h
 split at h
 ·rename_i c' hl
  by_cases hi:id=i
  ·rw [if_pos hi] at hl;cases hl;cases h
  ·rw [if_neg hi] at hl;cases h
 ·rename_i hl
  by_cases hi:id=i
  ·rw [if_pos hi] at h;cases h;exact .inl ⟨hi.symm,rfl⟩
  ·rw [if_neg hi] at h
   refine .inr ⟨fun e=>hi e.symm,?_⟩
   rw [h]
   cases c<;>first | rfl | (exfalso;exact hl (by simp [hi,h]))
theorem Sim.adopt (hS:Sim cx G S tm W) {id:Nat} {b:Blk E} (hn:S.h id=none) (hE:Ext G S.k W G' (St.k { S with H:=(id,b)::S.H }) W) (hF:G'.F=G.F)
  (hb:BlkR G' (St.k { S with H:=(id,b)::S.H }) W id b) (hz:b.fz=false) (hnew:∀k,Occ G' id b k→Free cx G S k):Sim cx G' { S with H:=(id,b)::S.H } tm W:=by
 have old:∀ {i c},i≠id→S.h i=some c→S.k i:=fun _ h=>St.h_k h
 refine ⟨hS.sz,fun s v h=>(hS.tmps s v h).ext hE,?_,?_,?_,?_,?_,?_,hS.frm,by rw [hF];exact hS.ff⟩
 ·intro i c h
  rcases h_cons h with ⟨rfl,rfl⟩ | ⟨hne,h⟩
  ·exact hb
  ·exact (hS.blks i c h).ext hE (St.h_k h) fun _ _=>rfl
 ·intro i j bi bj k hi hj hoi hoj
  rcases h_cons hi with ⟨e1,e2⟩ | ⟨hne,hi'⟩<;>rcases h_cons hj with ⟨e3,e4⟩ | ⟨hne',hj'⟩
  ·rw [e1,e3]
  ·subst e1 e2;exact ((hnew k hoi).2.2 j bj hj' ((hE.occ (St.h_k hj') (hS.blks _ _ hj').hid).1 hoj)).elim
  ·subst e3 e4;exact ((hnew k hoj).2.2 i bi hi' ((hE.occ (St.h_k hi') (hS.blks _ _ hi').hid).1 hoi)).elim
  ·exact hS.inj i j bi bj k hi' hj' ((hE.occ (St.h_k hi') (hS.blks _ _ hi').hid).1 hoi) ((hE.occ (St.h_k hj') (hS.blks _ _ hj').hid).1 hoj)
 ·intro i c k h ho hf
  rcases h_cons h with ⟨rfl,rfl⟩ | ⟨hne,h⟩
  ·rw [hz] at hf;cases hf
  ·exact hE.F _ (hS.sepF i c k h ((hE.occ (St.h_k h) (hS.blks _ _ h).hid).1 ho) hf)
 ·intro i c k h ho hf
  rw [hF]
  rcases h_cons h with ⟨rfl,rfl⟩ | ⟨hne,h⟩
  ·exact (hnew k ho).1
  ·exact hS.sep i c k h ((hE.occ (St.h_k h) (hS.blks _ _ h).hid).1 ho) hf
 ·intro i c k h ho hf
  rcases h_cons h with ⟨rfl,rfl⟩ | ⟨hne,h⟩
  ·exact (hnew k ho).2.1
  ·exact hS.own i c k h ((hE.occ (St.h_k h) (hS.blks _ _ h).hid).1 ho) hf
 ·rw [hF];exact hS.fr
theorem Free.cons (hS:Sim cx G S tm W) {id:Nat} {b:Blk E} {k:Nat} (hE:Ext G S.k W G' (St.k { S with H:=(id,b)::S.H }) W') (hF:G'.F=G.F) (hk:¬ Occ G' id b k) (h:Free cx G S k):Free cx G' { S with H:=(id,b)::S.H } k:=by
 refine ⟨by rw [hF];exact h.1,h.2.1,fun i c hi ho=>?_⟩
 rcases h_cons hi with ⟨rfl,rfl⟩ | ⟨hne,hi⟩
 ·exact hk ho
 ·exact h.2.2 i c hi ((hE.occ (St.h_k hi) (hS.blks _ _ hi).hid).1 ho)
theorem k_cons {id:Nat} {b:Blk E} {i:Nat} (h:S.k i):St.k { S with H:=(id,b)::S.H } i:=k_append (U:=[(id,b)]) h
theorem ext_self {id:Nat} {b:Blk E}:Ext G S.k W G (St.k { S with H:=(id,b)::S.H }) W:=⟨fun _ _=>rfl,fun _ _=>rfl,fun _ _=>rfl,fun _ _=>rfl,fun _ _=>rfl,fun _ _=>rfl,fun i hi=>k_cons hi,fun _ h=>h,fun _ _=>rfl⟩
theorem k_cons_self {id:Nat} {b:Blk E}:St.k { S with H:=(id,b)::S.H } id:=by unfold St.k;simp [lk_cons]
theorem Sim.adoptRow (hS:Sim cx G S tm W) {fr:Nat} (hf:lk S.H fr=none) {e:Nat} {t:Ty} {xs:List (Ty.D E.S t)} {v:Value} {fp:List Nat} (h:ShA E W G.F e t xs v fp) (hfree:∀b∈fp,Free cx G S b) :
  ∃G',Sim cx G' { S with H:=(fr,.row e t xs false)::S.H } tm W∧Ext G S.k W G' (St.k { S with H:=(fr,.row e t xs false)::S.H }) W∧G'.F=G.F∧
   AtR (E:=E) G' (St.k { S with H:=(fr,.row e t xs false)::S.H }) W (.own fr) v∧∀k,k∉fp→Free cx G S k→Free cx G' { S with H:=(fr,.row e t xs false)::S.H } k:=by
 have hn:S.h fr=none:=by unfold St.h;rw [hf]
 have mk : ∀ loc : Nat, (∃ A n c, v = .slice A n c) → (∀ k, (k = loc ∧ 0 < capOf v) → k ∈ fp) → ((∃ A, v = .slice A 0 0 ∧ xs = []) ∨ ∃ cap cur d, v = .slice (some ⟨loc, 0, none⟩) xs.length cap ∧ 0 < cap ∧ CellsAt t.mk W loc cur e ∧ xs.length ≤ cap ∧ cap ≤ maxLen ∧ cap * tsz E t ≤ cur.size ∧
        ∀ (i : Nat) (hi : i < xs.length), RoE E (RoA E W G.F d) t xs[i] ((cur.toList.drop (i * tsz E t)).take (tsz E t))) →
   ∃G',Sim cx G' { S with H:=(fr,.row e t xs false)::S.H } tm W∧Ext G S.k W G' (St.k { S with H:=(fr,.row e t xs false)::S.H }) W∧G'.F=G.F∧
   AtR (E:=E) G' (St.k { S with H:=(fr,.row e t xs false)::S.H }) W (.own fr) v∧∀k,k∉fp→Free cx G S k→Free cx G' { S with H:=(fr,.row e t xs false)::S.H } k:=by
  intro loc hsl hocc hrow
  have hE:Ext G S.k W (G.add fr loc v xs.length (tsz E t)) (St.k { S with H:=(fr,.row e t xs false)::S.H }) W:=Gh.add_ext (not_k hf) (fun i hi=>k_cons hi) fun _ _=>rfl
  have ho:∀k,Occ (E:=E) (G.add fr loc v xs.length (tsz E t)) fr (.row e t xs false) k→k∈fp:=by
   rintro k ⟨h1,h2⟩
   refine hocc k ⟨?_,?_⟩
   ·rw [h1];exact updf_same _ _ _
   ·rw [show (G.add fr loc v xs.length (tsz E t)).hd fr=v from updf_same _ _ _] at h2;exact h2
  refine ⟨_,hS.adopt hn hE rfl ?_ rfl (fun k hk=>hfree k (ho k hk)),hE,rfl,⟨k_cons_self,(updf_same _ _ _).symm,hsl⟩,fun k hk hfk=>hfk.cons hS hE rfl fun h=>hk (ho k h)⟩
  refine ⟨updf_same _ _ _,updf_same _ _ _,tsz_pos E t,?_⟩
  rw [show (G.add fr loc v xs.length (tsz E t)).hd fr=v from updf_same _ _ _,show (G.add fr loc v xs.length (tsz E t)).loc fr=loc from updf_same _ _ _]
  exact hrow
 rcases h with ⟨A,rfl,rfl,rfl⟩ | ⟨g,cap,cur,d,rfl,rfl,h3,h4,h5,h6,h7,h8⟩
 ·exact mk 0 ⟨_,_,_,rfl⟩ (fun k h=>absurd h.2 (by simp [capOf])) (.inl ⟨A,rfl,rfl⟩)
 ·exact mk g ⟨_,_,_,rfl⟩ (fun k h=>by simp [h.1]) (.inr ⟨cap,cur,d,rfl,h3,h4,h5,h6,h7,h8⟩)
theorem Sim.adoptHdr (hS:Sim cx G S tm W) {fr:Nat} (hf:lk S.H fr=none) (inh:Nat→Nat→Value) (fp:List Nat) :
  ∃G',Sim cx G' { S with H:=(fr,.hdr)::S.H } tm W∧Ext G S.k W G' (St.k { S with H:=(fr,(.hdr:Blk E))::S.H }) W∧G'.F=G.F∧G'.inh fr=inh∧G'.fp fr=fp∧∀k,Free cx G S k→Free cx G' { S with H:=(fr,.hdr)::S.H } k:=by
 have hn:S.h fr=none:=by unfold St.h;rw [hf]
 have hne:∀i,S.k i→i≠fr:=fun i hi e=>not_k hf (e▸hi)
 have hE:Ext G S.k W { G with inh:=updf G.inh fr inh,fp:=updf G.fp fr fp } (St.k { S with H:=(fr,(.hdr:Blk E))::S.H }) W:=
  ⟨fun _ _=>rfl,fun _ _=>rfl,fun _ _=>rfl,fun _ _=>rfl,fun i hi=>updf_ne _ _ (hne i hi),fun i hi=>updf_ne _ _ (hne i hi),fun i hi=>k_cons hi,fun _ h=>h,fun _ _=>rfl⟩
 exact ⟨_,hS.adopt hn hE rfl trivial rfl (fun k hk=>hk.elim),hE,rfl,updf_same _ _ _,updf_same _ _ _,fun k hk=>hk.cons hS hE rfl fun h=>h.elim⟩
def inhOf (cur:Array Value) (sz:Nat):Nat→Nat→Value:=fun i c=>(cur[i * sz+c]?).getD undef
theorem Sim.adoptD (hS:Sim cx G S tm W) {id hid:Nat} (hn:S.h id=none) (hh:lk S.H hid=none) (hne:id≠hid) {e:Nat} {t:Ty} {xs:List (Ty.D E.S t)} {v:Value} {fp:List Nat} {d:Nat} (h:DeepA E W d (.slice e t) xs v fp) (hnd:fp.Nodup) (hfree:∀b∈fp,Free cx G S b)
  (hid':lk S.H id=none∨(G.hd id=v∧G.ln id=xs.length∧G.sz id=tsz E t∧(0<capOf v→∃o,v = .slice (some ⟨G.loc id,0,none⟩) xs.length o))) :
  ∃G',Sim cx G' { S with H:=(id,.drow e t xs hid)::(hid,.hdr)::S.H } tm W∧Ext G S.k W G' (St.k { S with H:=(id,Blk.drow e t xs hid)::(hid,.hdr)::S.H }) W∧G'.F=G.F∧
   AtR (E:=E) G' (St.k { S with H:=(id,Blk.drow e t xs hid)::(hid,.hdr)::S.H }) W (.own id) v∧∀k,k∉fp→Free cx G S k→Free cx G' { S with H:=(id,.drow e t xs hid)::(hid,.hdr)::S.H } k:=by
 cases d with
 | zero=>exact h.elim
 | succ d=>
  obtain ⟨g,cur,fps,hfpe,hv3,hrow⟩:∃(g:Nat) (cur:Array Value) (fps:List (List Nat)),(∀k,k∈fp↔(k=g∧0<capOf v)∨k∈fps.flatten)∧(∃A n c,v = .slice A n c∧(0<c→A=some ⟨g,0,none⟩∧n=xs.length))∧
    ((∃A,v = .slice A 0 0∧xs=[]∧fps.flatten=[])∨∃cap,v = .slice (some ⟨g,0,none⟩) xs.length cap∧0<cap∧CellsAt t.mk W g cur e∧xs.length≤cap∧cap≤maxLen∧cap * tsz E t≤cur.size∧(g::fps.flatten).Nodup∧DeepR E (DeepA E W d) t xs cur.toList fps):=by
   rcases h with ⟨A,rfl,rfl,rfl⟩ | ⟨g,cap,cur,fps,rfl,rfl,h3,h4,h5,h6,h7,h8⟩
   ·exact ⟨0,#[],[],fun k=>by simp [capOf],⟨_,_,_,rfl,fun h=>by omega⟩,.inl ⟨A,rfl,rfl,rfl⟩⟩
   ·exact ⟨g,cur,fps,fun k=>by simp [capOf,h3],⟨_,_,_,rfl,fun _=>⟨rfl,rfl⟩⟩,.inr ⟨cap,rfl,h3,h4,h5,h6,h7,hnd,h8⟩⟩
  obtain ⟨G1,i1,i2,i3,i4,i5,i6⟩:=hS.adoptHdr hh (inhOf cur (tsz E t)) fps.flatten
  have hn1:St.h { S with H:=(hid,(.hdr:Blk E))::S.H } id=none:=by
   unfold St.h at hn ⊢
   simp only [lk_cons]
   rw [if_neg (fun e=>hne e.symm)]
   exact hn
  obtain ⟨G2,hE2,hF2,e1,e2,e3,e4,e5,e6⟩:∃G2:Gh,Ext G1 (St.k { S with H:=(hid,(.hdr:Blk E))::S.H }) W G2 (St.k { S with H:=(id,Blk.drow e t xs hid)::(hid,.hdr)::S.H }) W∧G2.F=G1.F∧G2.hd id=v∧G2.ln id=xs.length∧G2.sz id=tsz E t∧(0<capOf v→G2.loc id=g)∧G2.inh hid=G1.inh hid∧G2.fp hid=G1.fp hid:=by
   rcases hid' with hl | ⟨h1,h2,h3,h4⟩
   ·have hl':lk ((hid,(.hdr:Blk E))::S.H) id=none:=by rw [lk_cons,if_neg (fun e=>hne e.symm)];exact hl
    exact ⟨G1.add id g v xs.length (tsz E t),Gh.add_ext (not_k (S:={ S with H:=(hid,(.hdr:Blk E))::S.H }) hl') (fun i hi=>k_cons hi) (fun _ _=>rfl),rfl,updf_same _ _ _,updf_same _ _ _,updf_same _ _ _,fun _=>updf_same _ _ _,rfl,rfl⟩
   ·by_cases hk:S.k id
    ·refine ⟨G1,ext_self,rfl,(i2.hd id hk).trans h1,(i2.ln id hk).trans h2,(i2.sz id hk).trans h3,fun h0=>?_,rfl,rfl⟩
     rw [i2.loc id hk]
     obtain ⟨o,ho⟩:=h4 h0
     obtain ⟨A,n,c,hv,hA⟩:=hv3
     have hc:0<c:=by rw [hv] at h0;exact h0
     rw [hv,(hA hc).1] at ho
     injection ho with ho
     injection ho with ho
     injection ho with ho
     exact ho.symm
    ·have hl:lk S.H id=none:=by
      cases hl:lk S.H id with
      | none=>rfl
      | some b=>exact absurd (by unfold St.k;rw [hl];rfl) hk
     have hl':lk ((hid,(.hdr:Blk E))::S.H) id=none:=by rw [lk_cons,if_neg (fun e=>hne e.symm)];exact hl
     exact ⟨G1.add id g v xs.length (tsz E t),Gh.add_ext (not_k (S:={ S with H:=(hid,(.hdr:Blk E))::S.H }) hl') (fun i hi=>k_cons hi) (fun _ _=>rfl),rfl,updf_same _ _ _,updf_same _ _ _,updf_same _ _ _,fun _=>updf_same _ _ _,rfl,rfl⟩
  have ho:∀k,Occ (E:=E) G2 id (.drow e t xs hid) k→k∈fp:=by
   rintro k (⟨h1,h2⟩ | h1)
   ·rw [e1] at h2
    exact (hfpe k).2 (.inl ⟨h1.trans (e4 h2),h2⟩)
   ·rw [e6,i5] at h1
    exact (hfpe k).2 (.inr h1)
  have hblk:BlkR G2 (St.k { S with H:=(id,Blk.drow e t xs hid)::(hid,.hdr)::S.H }) W id (.drow e t xs hid):=by
   refine ⟨k_cons k_cons_self,e2,e3,tsz_pos E t,?_⟩
   rw [e1,e6,i5]
   rcases hrow with ⟨A,hv,hx,hf⟩ | ⟨cap,hv,k1,k2,k3,k4,k5,k6,k7⟩
   ·exact .inl ⟨A,hv,hx,hf⟩
   ·have hl:G2.loc id=g:=e4 (by rw [hv];exact k1)
    rw [hl]
    refine .inr ⟨cap,cur,d,fps,hv,k1,k2,k3,k4,k5,rfl,k6,k7,fun i c hi hc hsl=>?_⟩
    rw [e5,i4]
    obtain ⟨A,n,m,hsl⟩:=hsl
    rw [hsl]
    simp [inhOf,hsl]
  refine ⟨G2,i1.adopt hn1 hE2 hF2 hblk rfl (fun k hk=>i6 k (hfree k (ho k hk))),i2.trans hE2,hF2.trans i3,⟨by unfold St.k;simp [lk_cons],e1.symm,?_⟩,fun k hk hf=>(i6 k hf).cons i1 hE2 hF2 fun h=>hk (ho k h)⟩
  obtain ⟨A,n,c,hv,_⟩:=hv3
  exact ⟨A,n,c,hv⟩
theorem mkRow_le (dp:Bool) (e:Nat) (t:Ty) (xs:List (Ty.D E.S t)) (fr:Nat):fr<(mkRow E dp e t xs fr).2:=by
 unfold mkRow
 cases dp && !t.flat1 E<;>simp
theorem mkRow_key (dp:Bool) (e:Nat) (t:Ty) (xs:List (Ty.D E.S t)) (fr k:Nat) (hk:k<fr∨(mkRow E dp e t xs fr).2≤k):lk (mkRow E dp e t xs fr).1 k=none:=by
 unfold mkRow at hk ⊢
 cases hc:dp && !t.flat1 E<;>simp only [hc,cond_true,cond_false,lk_cons] at hk ⊢
 ·rw [if_neg (by omega)];rfl
 ·rw [if_neg (by omega),if_neg (by omega)];rfl
theorem mkRow_sound (hS:Sim cx G S tm W) {dp:Bool} {fr:Nat} {e:Nat} {t:Ty} {xs:List (Ty.D E.S t)} {v:Value} {fp:List Nat} (h:OwnA E W G.F dp (.slice e t) xs v fp) (hfree:∀b∈fp,Free cx G S b) (hnew:∀k,fr≤k→k<(mkRow E dp e t xs fr).2→lk S.H k=none) :
  ∃G',Sim cx G' { S with H:=(mkRow E dp e t xs fr).1++S.H } tm W∧Ext G S.k W G' (St.k { S with H:=(mkRow E dp e t xs fr).1++S.H }) W∧G'.F=G.F∧
   AtR (E:=E) G' (St.k { S with H:=(mkRow E dp e t xs fr).1++S.H }) W (.own fr) v∧∀k,k∉fp→Free cx G S k→Free cx G' { S with H:=(mkRow E dp e t xs fr).1++S.H } k:=by
 have h:RwA E W G.F (dp && !t.flat1 E) e t xs v fp:=h
 unfold mkRow at hnew ⊢
 cases hc:dp && !t.flat1 E with
 | false=>
  rw [hc] at h hnew
  exact hS.adoptRow (hnew fr (Nat.le_refl _) (Nat.lt_succ_self _)) h hfree
 | true=>
  rw [hc] at h hnew
  obtain ⟨hnd,d,h⟩:=h
  have h0:lk S.H fr=none:=hnew fr (Nat.le_refl _) (by simp)
  have h1:lk S.H (fr+1)=none:=hnew (fr+1) (Nat.le_succ _) (by simp)
  exact hS.adoptD (id:=fr) (hid:=fr+1) (by unfold St.h;rw [h0]) h1 (by omega) h hnd hfree (.inl h0)
theorem newAts_le (dp:Bool):∀(ts:List Ty) (h:HT E.S ts) (fr:Nat),fr≤(newAts E dp ts h fr).2.2
 | [],_,_=>Nat.le_refl _
 | .slice e t::ts,h,fr=>Nat.le_trans (Nat.le_of_lt (mkRow_le dp e t h.1 fr)) (newAts_le dp ts h.2 _)
 | .rsl _ _::ts,h,fr=>newAts_le dp ts h.2 fr
 | .int _::ts,h,fr=>newAts_le dp ts h.2 fr
 | .bool::ts,h,fr=>newAts_le dp ts h.2 fr
 | .str::ts,h,fr=>newAts_le dp ts h.2 fr
 | .opq::ts,h,fr=>newAts_le dp ts h.2 fr
 | .st _::ts,h,fr=>newAts_le dp ts h.2 fr
 | .arr _ _::ts,h,fr=>newAts_le dp ts h.2 fr
 | .pbx _ _::ts,h,fr=>newAts_le dp ts h.2 fr
theorem newAts_key (dp:Bool):∀(ts:List Ty) (h:HT E.S ts) (fr k:Nat),(k<fr∨(newAts E dp ts h fr).2.2≤k)→lk (newAts E dp ts h fr).2.1 k=none
 | [],_,_,_,_=>rfl
 | .slice e t::ts,h,fr,k,hk=>by
  have h1:=mkRow_le dp e t h.1 fr
  have h2:=newAts_le dp ts h.2 (mkRow E dp e t h.1 fr).2
  simp only [newAts] at hk ⊢
  rw [lk_append,mkRow_key dp e t h.1 fr k (by omega)]
  exact newAts_key dp ts h.2 _ k (by omega)
 | .rsl _ _::ts,h,fr,k,hk=>newAts_key dp ts h.2 fr k hk
 | .int _::ts,h,fr,k,hk=>newAts_key dp ts h.2 fr k hk
 | .bool::ts,h,fr,k,hk=>newAts_key dp ts h.2 fr k hk
 | .str::ts,h,fr,k,hk=>newAts_key dp ts h.2 fr k hk
 | .opq::ts,h,fr,k,hk=>newAts_key dp ts h.2 fr k hk
 | .st _::ts,h,fr,k,hk=>newAts_key dp ts h.2 fr k hk
 | .arr _ _::ts,h,fr,k,hk=>newAts_key dp ts h.2 fr k hk
 | .pbx _ _::ts,h,fr,k,hk=>newAts_key dp ts h.2 fr k hk
theorem newAts_sound {dp:Bool}:∀ {ts:List Ty} {h:HT E.S ts} {vs:List Value} {fp:List Nat} {fr:Nat},(hS:Sim cx G S tm W)→OwnL E W G.F dp ts h vs fp→fp.Nodup→(∀b∈fp,Free cx G S b)→(∀k,fr≤k→k<(newAts E dp ts h fr).2.2→lk S.H k=none)→
  ∃G',Sim cx G' { S with H:=(newAts E dp ts h fr).2.1++S.H } tm W∧Ext G S.k W G' (St.k { S with H:=(newAts E dp ts h fr).2.1++S.H }) W∧G'.F=G.F∧
   AtsR G' (St.k { S with H:=(newAts E dp ts h fr).2.1++S.H }) W (newAts E dp ts h fr).1 vs∧∀k,k∉fp→Free cx G S k→Free cx G' { S with H:=(newAts E dp ts h fr).2.1++S.H } k
 | [],_,_,_,_,hS,ho,_,_,_=>⟨G,hS,Ext.refl _ _ _,rfl,ho.1,fun _ _ h=>h⟩
 | t::ts,h,vs,fp,fr,hS,⟨v,r,f1,f2,hv,hfp,ha,hr⟩,hnd,hfree,hnew=>by
  subst hfp
  obtain ⟨hn1,hn2,hdis⟩:=List.nodup_append.1 hnd
  have scalar:∀ {c:At E},f1=[]→(∀(G':Gh) (K:Nat→Prop),(∀b,G.F b→G'.F b)→AtR G' K W c v)→newAts E dp (t::ts) h fr=(c::(newAts E dp ts h.2 fr).1,(newAts E dp ts h.2 fr).2)→
    ∃G',Sim cx G' { S with H:=(newAts E dp (t::ts) h fr).2.1++S.H } tm W∧Ext G S.k W G' (St.k { S with H:=(newAts E dp (t::ts) h fr).2.1++S.H }) W∧G'.F=G.F∧
   AtsR G' (St.k { S with H:=(newAts E dp (t::ts) h fr).2.1++S.H }) W (newAts E dp (t::ts) h fr).1 vs∧∀k,k∉f1++f2→Free cx G S k→Free cx G' { S with H:=(newAts E dp (t::ts) h fr).2.1++S.H } k:=by
   intro c hf1 hc heq
   rw [heq] at hnew ⊢
   obtain ⟨G',i1,i2,i3,i4,i5⟩:=newAts_sound hS hr hn2 (fun b hb=>hfree b (by simp [hb])) hnew
   exact ⟨G',i1,i2,i3,⟨v,r,hv,hc _ _ (fun b hb=>by rw [i3];exact hb),i4⟩,fun k hk=>i5 k (by simp at hk;exact hk.2)⟩
  cases t with
  | int k=>exact scalar (c:=.int k h.1) ha.2 (fun _ _ _=>ha.1) rfl
  | bool=>exact scalar (c:=.bool h.1) ha.2 (fun _ _ _=>ha.1) rfl
  | str=>exact scalar (c:=.str h.1) ha.2 (fun _ _ _=>ha.1) rfl
  | opq=>exact scalar (c:=.opq) ha.2 (fun _ _ _=>ha.1) rfl
  | rsl e t=>
   obtain ⟨⟨d,hd⟩,hf1⟩:=ha
   exact scalar (c:=.ro e t h.1) hf1 (fun _ _ hF=>⟨d,RoA.more hF (fun _ _=>rfl) d d (Nat.le_refl _) _ _ _ hd⟩) rfl
  | st n=>exact ha.elim
  | arr k n=>exact ha.elim
  | pbx b n=>exact ha.elim
  | slice e t=>
   have hlt:=mkRow_le dp e t h.1 fr
   have hle:=newAts_le dp ts h.2 (mkRow E dp e t h.1 fr).2
   simp only [newAts] at hnew ⊢
   obtain ⟨G1,i1,i2,i3,i4,i5⟩:=newAts_sound hS hr hn2 (fun b hb=>hfree b (by simp [hb])) (fun k h1 h2=>hnew k (by omega) h2)
   have ha1:OwnA E W G1.F dp (.slice e t) h.1 v f1:=by rw [i3];exact ha
   obtain ⟨G2,j1,j2,j3,j4,j5⟩:=mkRow_sound (fr:=fr) i1 ha1 (fun b hb=>i5 b (fun h2=>hdis b hb b h2 rfl) (hfree b (by simp [hb]))) (fun k h1 h2=>by
    show lk (_++S.H) k=none
    rw [lk_append,newAts_key dp ts h.2 _ k (by omega)];exact hnew k h1 (by omega))
   rw [List.append_assoc]
   exact ⟨G2,j1,i2.trans j2,j3.trans i3,⟨v,r,hv,j4,AtsR.ext j2 i4⟩,fun k hk hf=>j5 k (fun h=>hk (by simp [h])) (i5 k (fun h=>hk (by simp [h])) hf)⟩
end Mir
namespace Mir
set_option linter.unusedVariables false
set_option linter.unusedSimpArgs false
open Go
variable {E:Env} {P:Program} {T:Tb} {cx:Cx} {G G':Gh} {S:St E} {tm:Array Value} {a:Act} {W W':World}
theorem boxEnt_key (dp:Bool) (b n:Nat) (x:E.S n) (id k:Nat) (h:k<id∨(newAts E dp (E.fl n) (E.opn n x) (id+1)).2.2≤k):lk ((id,Blk.box b (newAts E dp (E.fl n) (E.opn n x) (id+1)).1)::(newAts E dp (E.fl n) (E.opn n x) (id+1)).2.1) k=none:=by
 have:=newAts_le dp (E.fl n) (E.opn n x) (id+1)
 rw [lk_cons,if_neg (by omega)]
 exact newAts_key dp _ _ _ k (by omega)
theorem boxEnt_sound (hS:Sim cx G S tm W) {dp:Bool} {b n:Nat} {x:E.S n} {v:Value} {fp:List Nat} {id:Nat} (h:BoxV E W G.F dp b n x v fp) (hnd:fp.Nodup) (hfree:∀b∈fp,Free cx G S b) (hnew:∀k,id≤k→k<(newAts E dp (E.fl n) (E.opn n x) (id+1)).2.2→lk S.H k=none) :
  ∃G',Sim cx G' { S with H:=((id,Blk.box b (newAts E dp (E.fl n) (E.opn n x) (id+1)).1)::(newAts E dp (E.fl n) (E.opn n x) (id+1)).2.1)++S.H } tm W∧Ext G S.k W G' (St.k { S with H:=((id,Blk.box b (newAts E dp (E.fl n) (E.opn n x) (id+1)).1)::(newAts E dp (E.fl n) (E.opn n x) (id+1)).2.1)++S.H }) W∧G'.F=G.F∧
   AtR (E:=E) G' (St.k { S with H:=((id,Blk.box b (newAts E dp (E.fl n) (E.opn n x) (id+1)).1)::(newAts E dp (E.fl n) (E.opn n x) (id+1)).2.1)++S.H }) W (.ptr id 0) v∧∀k,k∉fp→Free cx G S k→Free cx G' { S with H:=((id,Blk.box b (newAts E dp (E.fl n) (E.opn n x) (id+1)).1)::(newAts E dp (E.fl n) (E.opn n x) (id+1)).2.1)++S.H } k:=by
 obtain ⟨g,us,f,rfl,hg1,hg2,rfl⟩:=h
 obtain ⟨hn3,hn4⟩:=List.nodup_cons.1 hnd
 have le1:=newAts_le dp (E.fl n) (E.opn n x) (id+1)
 obtain ⟨G2,j1,j2,j3,j4,j5⟩:=newAts_sound (dp:=dp) (fr:=id+1) (vs:=us) (h:=E.opn n x) hS hg2 hn4 (fun b hb=>hfree b (by simp [hb])) (fun k h1 h2=>hnew k (by omega) (by omega))
 have hkey:=newAts_key dp (E.fl n) (E.opn n x) (id+1) id (by omega)
 generalize newAts E dp (E.fl n) (E.opn n x) (id+1)=q at *
 have hnone:lk (q.2.1++S.H) id=none:=by
  rw [lk_append,hkey];exact hnew id (Nat.le_refl _) (by omega)
 have hfg:=j5 g hn3 (hfree g (by simp))
 have hE:Ext G2 _ W (G2.add id g undef 0 0) (St.k { S with H:=(id,(.box b q.1:Blk E))::(q.2.1++S.H) }) W:=
  Gh.add_ext (not_k (S:={ S with H:=q.2.1++S.H }) hnone) (fun i hi=>k_cons hi) fun _ _=>rfl
 have hoc:∀k,Occ (E:=E) (G2.add id g undef 0 0) id (.box b q.1) k→k=g:=fun k h=>(show k=(G2.add id g undef 0 0).loc id from h).trans (updf_same _ _ _)
 have k1:=j1.adopt (id:=id) (b:=.box b q.1) (by unfold St.h;rw [hnone]) hE rfl ⟨us,by rw [show (G2.add id g undef 0 0).loc id=g from updf_same _ _ _];exact hg1,AtsR.ext hE j4⟩ rfl (fun k hk=>by rw [hoc k hk];exact hfg)
 exact ⟨_,k1,j2.trans hE,j3,⟨k_cons_self (S:={ S with H:=q.2.1++S.H }),by rw [show (G2.add id g undef 0 0).loc id=g from updf_same _ _ _]⟩,fun k hk hf=>(j5 k (fun h=>hk (by simp [h])) hf).cons j1 hE rfl (fun h=>hk (by simp [hoc k h]))⟩
theorem newCv_le (dp:Bool) (t:Ty) (x:Ty.D E.S t) (fr:Nat):fr≤(newCv E dp t x fr).2.2:=by
 cases t with
 | st n=>exact newAts_le _ _ _ _
 | slice e t=>exact Nat.le_of_lt (mkRow_le _ _ _ _ _)
 | pbx b n=>exact Nat.le_trans (Nat.le_succ _) (newAts_le dp _ _ (fr+1))
 | _=>exact Nat.le_refl _
theorem newCv_key (dp:Bool) (t:Ty) (x:Ty.D E.S t) (fr k:Nat) (hk:k<fr∨(newCv E dp t x fr).2.2≤k):lk (newCv E dp t x fr).2.1 k=none:=by
 cases t with
 | st n=>exact newAts_key _ _ _ _ _ hk
 | slice e t=>exact mkRow_key _ _ _ _ _ _ hk
 | pbx b n=>exact boxEnt_key dp b n x fr k hk
 | _=>rfl
theorem newCv_sound {dp:Bool} {t:Ty} {x:Ty.D E.S t} {v:Value} {fp:List Nat} {fr:Nat} (hS:Sim cx G S tm W) (ho:OwnE E W G.F dp t x v fp) (hnd:fp.Nodup) (hfree:∀b∈fp,Free cx G S b) (hnew:∀k,fr≤k→k<(newCv E dp t x fr).2.2→lk S.H k=none) :
  ∃G',Sim cx G' { S with H:=(newCv E dp t x fr).2.1++S.H } tm W∧Ext G S.k W G' (St.k { S with H:=(newCv E dp t x fr).2.1++S.H }) W∧G'.F=G.F∧
   CvR G' (St.k { S with H:=(newCv E dp t x fr).2.1++S.H }) W (newCv E dp t x fr).1 v∧∀k,k∉fp→Free cx G S k→Free cx G' { S with H:=(newCv E dp t x fr).2.1++S.H } k:=by
 cases t with
 | st n=>
  obtain ⟨vs,rfl,ho⟩:=ho
  obtain ⟨G',i1,i2,i3,i4,i5⟩:=newAts_sound hS ho hnd hfree hnew
  exact ⟨G',i1,i2,i3,⟨vs,rfl,i4⟩,i5⟩
 | slice e t=>exact mkRow_sound hS ho hfree hnew
 | rsl e t=>
  obtain ⟨⟨d,hd⟩,_⟩:=ho
  exact ⟨G,hS,Ext.refl _ _ _,rfl,⟨d,hd⟩,fun _ _ h=>h⟩
 | arr k n=>exact ⟨G,hS,Ext.refl _ _ _,rfl,ho.1,fun _ _ h=>h⟩
 | int k=>exact ⟨G,hS,Ext.refl _ _ _,rfl,ho.1,fun _ _ h=>h⟩
 | bool=>exact ⟨G,hS,Ext.refl _ _ _,rfl,ho.1,fun _ _ h=>h⟩
 | str=>exact ⟨G,hS,Ext.refl _ _ _,rfl,ho.1,fun _ _ h=>h⟩
 | opq=>exact ⟨G,hS,Ext.refl _ _ _,rfl,ho.1,fun _ _ h=>h⟩
 | pbx b n=>exact boxEnt_sound hS ho hnd hfree hnew
theorem newCvs_le (dp:Bool):∀(ts:List Ty) (h:HT E.S ts) (fr:Nat),fr≤(newCvs E dp ts h fr).2.2
 | [],_,_=>Nat.le_refl _
 | t::ts,h,fr=>Nat.le_trans (newCv_le dp t h.1 fr) (newCvs_le dp ts h.2 _)
theorem newCvs_key (dp:Bool):∀(ts:List Ty) (h:HT E.S ts) (fr k:Nat),(k<fr∨(newCvs E dp ts h fr).2.2≤k)→lk (newCvs E dp ts h fr).2.1 k=none
 | [],_,_,_,_=>rfl
 | t::ts,h,fr,k,hk=>by
  have h1:=newCv_le dp t h.1 fr
  have h2:=newCvs_le dp ts h.2 (newCv E dp t h.1 fr).2.2
  simp only [newCvs] at hk ⊢
  rw [lk_append,newCv_key dp t h.1 fr k (by omega)]
  exact newCvs_key dp ts h.2 _ k (by omega)
theorem newCvs_sound {dp:Bool}:∀ {ts:List Ty} {h:HT E.S ts} {vs:List Value} {fp:List Nat} {fr:Nat},(hS:Sim cx G S tm W)→OwnEs E W G.F dp ts h vs fp→fp.Nodup→(∀b∈fp,Free cx G S b)→(∀k,fr≤k→k<(newCvs E dp ts h fr).2.2→lk S.H k=none)→
  ∃G',Sim cx G' { S with H:=(newCvs E dp ts h fr).2.1++S.H } tm W∧Ext G S.k W G' (St.k { S with H:=(newCvs E dp ts h fr).2.1++S.H }) W∧G'.F=G.F∧
   CvsR G' (St.k { S with H:=(newCvs E dp ts h fr).2.1++S.H }) W (newCvs E dp ts h fr).1 vs∧∀k,k∉fp→Free cx G S k→Free cx G' { S with H:=(newCvs E dp ts h fr).2.1++S.H } k
 | [],_,_,_,_,hS,ho,_,_,_=>⟨G,hS,Ext.refl _ _ _,rfl,ho.1,fun _ _ h=>h⟩
 | t::ts,h,vs,fp,fr,hS,⟨v,r,f1,f2,hv,hfp,ha,hr⟩,hnd,hfree,hnew=>by
  subst hfp
  obtain ⟨hn1,hn2,hdis⟩:=List.nodup_append.1 hnd
  have h1:=newCv_le dp t h.1 fr
  have h2:=newCvs_le dp ts h.2 (newCv E dp t h.1 fr).2.2
  simp only [newCvs] at hnew ⊢
  obtain ⟨G1,i1,i2,i3,i4,i5⟩:=newCvs_sound (fr:=(newCv E dp t h.1 fr).2.2) hS hr hn2 (fun b hb=>hfree b (by simp [hb])) (fun k h1 h2=>hnew k (by omega) h2)
  obtain ⟨G2,j1,j2,j3,j4,j5⟩:=newCv_sound (fr:=fr) i1 (by rw [i3];exact ha) hn1 (fun b hb=>i5 b (fun h2=>hdis b hb b h2 rfl) (hfree b (by simp [hb]))) (fun k h1 h2=>by
   show lk (_++S.H) k=none
   rw [lk_append,newCvs_key dp ts h.2 _ k (by omega)];exact hnew k h1 (by omega))
  rw [List.append_assoc]
  exact ⟨G2,j1,i2.trans j2,j3.trans i3,⟨v,r,hv,j4,CvsR.ext j2 i4⟩,fun k hk hf=>j5 k (fun h=>hk (by simp [h])) (i5 k (fun h=>hk (by simp [h])) hf)⟩
def AVsR (G:Gh) (K:Nat→Prop) (W:World):List (AV E)→List Value→Prop
 | [],vs=>vs=[]
 | x::xs,vs=>∃v r,vs=v::r∧AVR G K W x v∧AVsR G K W xs r
structure Reads (G:Gh) (S:St E) (F:Nat→Prop) (u:Up E) (b:List Nat):Prop where
 all:∀k,G.F k→F k
 us:∀id c,(lk u id).isSome=true→S.h id=some c→∀k,Occ G id c k→F k
 bs:∀id∈b,∀c,S.h id=some c→∀k,Occ G id c k→F k
theorem Reads.left {F:Nat→Prop} {u v:Up E} {b c:List Nat} (h:Reads G S F (u++v) (b++c)):Reads G S F u b:=
 ⟨h.all,fun id d hl=>h.us id d (by
  rw [lk_append]
  cases hl':lk u id with
  | some x=>rfl
  | none=>rw [hl'] at hl;cases hl),fun id hi=>h.bs id (by simp [hi])⟩
theorem Reads.right {F:Nat→Prop} {u v:Up E} {b c:List Nat} (h:Reads G S F (u++v) (b++c)):Reads G S F v c:=
 ⟨h.all,fun id d hl=>h.us id d (by
  rw [lk_append]
  cases hl':lk u id with
  | some x=>rfl
  | none=>exact hl),fun id hi=>h.bs id (by simp [hi])⟩
theorem ofCells_sound (hS:Sim cx G S tm W) {F:Nat→Prop} (hF:∀b,G.F b→F b) {t:Ty} {xs:List (At E)} {vs:List Value} (hx:AtsR G S.k W xs vs) (hi:∀x∈xs,InF G S F x) {l l':List Nat} {d:Ty.D E.S t} (h:RM.Out S.h (ofCells E t xs) l d l'):∃n,RoE E (RoA E W F n) t d vs:=by
 unfold ofCells at h
 split at h
 ·obtain ⟨y,l1,h1,h⟩:=RM.Out_bind h
  obtain rfl:=h.1
  obtain ⟨m,hm⟩:=ofAts_sound hS hF hx hi h1
  exact ⟨m,by show RoL E _ _ (E.opn _ (E.shut _ y)) _;rw [E.opn_shut];exact hm⟩
 ·rename_i x hne
  obtain ⟨v,r,hv,ha,hr⟩:=hx
  rw [AtsR] at hr
  subst hr
  obtain ⟨m,hm⟩:=ofAt_sound hS hF ha (hi x (by simp)) h
  refine ⟨m,?_⟩
  cases t with
  | st n=>exact absurd rfl (hne n)
  | _=>exact ⟨v,hv,hm⟩
 ·exact h.elim
theorem boxCells_sound (hS:Sim cx G S tm W) {F:Nat→Prop} {id:Nat} {b:Blk E} (hb:S.h id=some b) (hF:∀k,G.F k→F k) (hbF:∀k,Occ G id b k→F k) {t:Ty} {l l':List Nat} {cs:List (At E)} (h:RM.Out S.h (boxCells E t b) l cs l') :
  ∃vs:List Value,AtsR G S.k W cs vs∧(0<vs.length→F (G.loc id))∧∀(j:Nat) (hj:j<vs.length),W.cell? ⟨G.loc id,j,none⟩=some vs[j]:=by
 have hB:=hS.blks id b hb
 unfold boxCells at h
 split at h
 ·rename_i t0 cells
  obtain rfl:=h.1
  obtain ⟨us,hus,hr⟩:=hB
  refine ⟨us.take (tsz E t),hr.take _,fun _=>hbF _ rfl,fun j hj=>?_⟩
  have hj':j<us.length:=by simp at hj;omega
  have:=cell_loc hus 0 _ rfl j
  rw [add_lit,Nat.zero_add] at this
  rw [this]
  simp [hj']
 ·rename_i cells
  obtain rfl:=h.1
  obtain ⟨us,hr,hf,hc⟩:=hB
  refine ⟨us.take (tsz E t),hr.take _,fun h0=>hF _ (hf (by simp at h0;omega)),fun j hj=>?_⟩
  have hj':j<us.length:=by simp at hj;omega
  rw [hc j hj']
  simp
 ·exact h.elim
theorem readBox_sound (hS:Sim cx G S tm W) {F:Nat→Prop} {t:Ty} {id:Nat} {l l':List Nat} {q:Ty.D E.S t×Up E} (h:RM.Out S.h (readBox E t id) l q l') (hR:Reads G S F q.2 [id]):FrzL S q.2∧RoP E W F t q.1 (.pointer (some ⟨G.loc id,0,none⟩)):=by
 obtain ⟨b,hb,h⟩:=h
 obtain ⟨cs,l1,h1,h⟩:=RM.Out_bind h
 obtain ⟨d,l2,h2,h⟩:=RM.Out_bind h
 obtain ⟨u,l3,h3,h⟩:=RM.Out_bind h
 obtain rfl:=h.1
 obtain ⟨hfl,ham⟩:=frz_list h3
 obtain ⟨vs,i1,i2,i3⟩:=boxCells_sound hS hb hR.all (hR.bs id (by simp) b hb) h1
 obtain ⟨n,hn⟩:=ofCells_sound hS hR.all i1 (fun x hx=>(ham x hx).inF hR.us) h2
 exact ⟨hfl,_,vs,n,rfl,hn,i2,i3⟩
theorem ptr_of {v:AV E} {α:Type} {f:Nat→RM E α} {H:Nat→Option (Blk E)} {l l':List Nat} {q:α} (h:RM.Out H (match v with | .c (.at (.ptr id 0))=>f id | _=>.fail) l q l'):∃id,v = .c (.at (.ptr id 0))∧RM.Out H (f id) l q l':=by
 split at h
 ·rename_i id;exact ⟨id,rfl,h⟩
 ·exact h.elim
theorem inpCap_ptr {H:Nat→Option (Blk E)} {c:Cap} {v:AV E} {l l':List Nat} {q:Inp E (c.I E)} (h:RM.Out H (inpCap E c v) l q l'):∃id,v = .c (.at (.ptr id 0)):=by
 cases v with
 | c v=>
  cases v with
  | «at» x=>
   cases x with
   | ptr id o=>
    cases o with
    | zero=>exact ⟨id,rfl⟩
    | succ o=>cases c<;>exact h.elim
   | _=>cases c<;>exact h.elim
  | _=>cases c<;>exact h.elim
 | _=>cases c<;>exact h.elim
theorem inpCap_sound (hS:Sim cx G S tm W) {F:Nat→Prop} {c:Cap} {v:AV E} {w:Value} {l l':List Nat} {q:Inp E (c.I E)} (hv:AVR G S.k W v w) (h:RM.Out S.h (inpCap E c v) l q l') (hR:Reads G S F q.u q.b):FrzL S q.u∧CapP E W F c q.x w∧q.m=[]:=by
 obtain ⟨id,rfl⟩:=inpCap_ptr h
 cases c with
 | rb t=>
  obtain ⟨p,l1,h1,h⟩:=RM.Out_bind h
  obtain rfl:=h.1
  obtain ⟨i1,i2⟩:=readBox_sound hS h1 hR
  refine ⟨i1,?_,rfl⟩
  rw [show w=_ from hv.2]
  exact i2
 | rpp t=>
  obtain ⟨b,hb,h⟩:=h
  obtain ⟨j,l1,h1,h⟩:=RM.Out_bind h
  obtain ⟨p,l2,h2,h⟩:=RM.Out_bind h
  obtain rfl:=h.1
  obtain ⟨i1,i2⟩:=readBox_sound hS h2 ⟨hR.all,hR.us,fun id hi=>hR.bs id (by simp at hi;simp [hi])⟩
  refine ⟨i1,?_,rfl⟩
  rw [show w=_ from hv.2]
  have hB:=hS.blks id b hb
  have hbF:=hR.bs id (by simp) b hb
  unfold onePtr at h1
  split at h1
  ·rename_i t0 j'
   obtain rfl:=h1.1
   obtain ⟨us,hus,hr⟩:=hB
   obtain ⟨u0,r,rfl,ha,_⟩:=hr
   refine ⟨G.loc id,u0,rfl,hbF _ rfl,?_,?_⟩
   ·have:=cell_loc hus 0 _ rfl 0
    rw [add_lit,Nat.zero_add] at this
    rw [this];rfl
   ·rw [show u0=_ from ha.2];exact i2
  ·rename_i j'
   obtain rfl:=h1.1
   obtain ⟨us,hr,hf,hc⟩:=hB
   obtain ⟨u0,r,rfl,ha,_⟩:=hr
   refine ⟨G.loc id,u0,rfl,hR.all _ (hf (by simp)),hc 0 (by simp),?_⟩
   rw [show u0=_ from ha.2];exact i2
  ·exact h1.elim
theorem inpCaps_sound (hS:Sim cx G S tm W) {F:Nat→Prop}:∀ {cs:List Cap} {vs:List (Cv E)} {ws:List Value} {l l':List Nat} {q:Inp E (CT E cs)},CvsR G S.k W vs ws→RM.Out S.h (inpCaps E cs vs) l q l'→Reads G S F q.u q.b→FrzL S q.u∧CapPs E W F cs q.x ws∧q.m=[]
 | [],[],_,_,_,q,hr,h,_=>by obtain rfl:=h.1;exact ⟨FrzL.nil,hr,rfl⟩
 | [],_::_,_,_,_,_,_,h,_=>h.elim
 | _::_,[],_,_,_,_,_,h,_=>h.elim
 | c::cs,v::vs,_,_,_,q,⟨w,r,hw,hv,hr⟩,h,hR=>by
  obtain ⟨p,l1,h1,h⟩:=RM.Out_bind h
  obtain ⟨q',l2,h2,h⟩:=RM.Out_bind h
  obtain rfl:=h.1
  obtain ⟨i1,i2,i3⟩:=inpCap_sound (v:=.c v) hS hv h1 hR.left
  obtain ⟨j1,j2,j3⟩:=inpCaps_sound hS hr h2 hR.right
  exact ⟨i1.app j1,⟨w,r,hw,i2,j2⟩,rfl⟩
theorem frzCv_list {v:Cv E} {l l':List Nat} {u:Up E} (h:RM.Out S.h (frzCv v) l u l'):FrzL S u∧∀x∈v.cells,Among u x:=by
 cases v with
 | «at» x=>exact frz_list h
 | agg xs=>exact frz_list h
 | arr k n xs=>
  obtain rfl:=h.1
  refine ⟨FrzL.nil,fun x hx=>?_⟩
  simp only [Cv.cells,List.mem_map] at hx
  obtain ⟨y,_,rfl⟩:=hx
  trivial
theorem inpP_sound (hS:Sim cx G S tm W) {F:Nat→Prop} {p:Par} {v:AV E} {w:Value} {l l':List Nat} {q:Inp E (p.I E)} (hv:AVR G S.k W v w) (h:RM.Out S.h (inpP E p v) l q l') (hR:Reads G S F q.u q.b):FrzL S q.u∧∃fp,InP E W F p q.x w fp∧Hand G S q.m fp:=by
 have box:∀ {dp:Bool} {b n:Nat} {q:Inp E (E.S n)},RM.Out S.h (match v with
   | .c (.at (.ptr id 0))=>(.rd id fun
    | .box t cells=>bif Nat.beq t b then (ofAts E (E.fl n) cells).bind fun h=>(ownAll E true dp (E.fl n) cells).bind fun m=>.pure ⟨E.shut n h,[],id::m,[]⟩ else .fail
    | _=>.fail)
   | _=>.fail) l q l'→Reads G S F q.u q.b→FrzL S q.u∧∃fp,BoxV E W F dp b n q.x w fp∧Hand G S q.m fp:=by
  intro dp b n q h0 hR
  obtain ⟨id,rfl,c,hc,h⟩:=ptr_of h0
  clear h0
  dsimp only at h
  split at h
  ·rename_i t cells
   have hb':=RM.Out_bif h;clear h;obtain ⟨ht,h⟩:=hb'
   obtain rfl:=Nat.eq_of_beq_eq_true ht
   obtain ⟨d,l1,h1,h⟩:=RM.Out_bind h
   obtain ⟨m,l2,h2,h⟩:=RM.Out_bind h
   obtain rfl:=h.1
   obtain ⟨us,hus,hr⟩:=hS.blks id _ hc
   obtain ⟨f,i1,i2⟩:=ownAll_sound hS hR.all hr h1 h2
   refine ⟨FrzL.nil,G.loc id::f,⟨G.loc id,us,f,hv.2,hus,by rw [E.opn_shut];exact i1,rfl⟩,?_⟩
   exact (Hand.one (fp:=[G.loc id]) hc rfl (by simp) (fun k hk=>by rw [List.mem_singleton] at hk;exact hk)).app hS i2
  ·exact h.elim
 cases p with
 | val t=>
  cases v with
  | c v=>
   have hb':=RM.Out_bif h;clear h;obtain ⟨hok,h⟩:=hb'
   obtain ⟨d,l1,h1,h⟩:=RM.Out_bind h
   obtain ⟨u,l2,h2,h⟩:=RM.Out_bind h
   obtain rfl:=h.1
   obtain ⟨hfl,ham⟩:=frzCv_list h2
   exact ⟨hfl,[],⟨ofCv_rov hS hR.all (okCv_all hok) hv (fun x hx=>(ham x hx).inF hR.us) h1,rfl⟩,Hand.nil⟩
  | _=>exact h.elim
 | «mut» dp t=>
  cases v with
  | c v=>
   obtain ⟨d,l1,h1,h⟩:=RM.Out_bind h
   obtain ⟨m,l2,h2,h⟩:=RM.Out_bind h
   obtain rfl:=h.1
   obtain ⟨f,i1,i2⟩:=ownCv_sound hS hR.all hv h1 h2
   exact ⟨FrzL.nil,f,i1,i2⟩
  | _=>exact h.elim
 | mov dp t=>
  cases v with
  | c v=>
   obtain ⟨d,l1,h1,h⟩:=RM.Out_bind h
   obtain ⟨m,l2,h2,h⟩:=RM.Out_bind h
   obtain rfl:=h.1
   obtain ⟨f,i1,i2⟩:=ownCv_sound hS hR.all hv h1 h2
   exact ⟨FrzL.nil,f,i1,i2⟩
  | _=>exact h.elim
 | box dp b n=>exact box (by cases v<;>first | exact h | (rename_i v;cases v<;>first | exact h | (rename_i x;cases x<;>first | exact h | (rename_i id o;cases o<;>exact h)))) hR
 | movb dp b n=>exact box (by cases v<;>first | exact h | (rename_i v;cases v<;>first | exact h | (rename_i x;cases x<;>first | exact h | (rename_i id o;cases o<;>exact h)))) hR
 | clo f caps=>
  cases v with
  | clo g cs=>
   have hb':=RM.Out_bif h;clear h;obtain ⟨hfg,h⟩:=hb'
   obtain rfl:=Nat.eq_of_beq_eq_true hfg
   obtain ⟨us,hus,hvs⟩:=hv
   obtain ⟨i1,i2,i3⟩:=inpCaps_sound hS hvs h hR
   exact ⟨i1,[],⟨⟨us,hus,i2⟩,rfl⟩,by rw [i3];exact Hand.nil⟩
  | _=>exact h.elim
 | cap c=>
  have h:RM.Out S.h (inpCap E c v) l q l':=by cases v<;>exact h
  obtain ⟨i1,i2,i3⟩:=inpCap_sound hS hv h hR
  exact ⟨i1,[],⟨i2,rfl⟩,by rw [i3];exact Hand.nil⟩
theorem inp_sound (hS:Sim cx G S tm W) {F:Nat→Prop}:∀ {ps:List Par} {vs:List (AV E)} {ws:List Value} {l l':List Nat} {q:Inp E (IT E ps)},AVsR G S.k W vs ws→RM.Out S.h (inp E ps vs) l q l'→Reads G S F q.u q.b→
  FrzL S q.u∧∃fp,InPs E W F ps q.x ws fp∧Hand G S q.m fp
 | [],[],_,_,_,q,hr,h,_=>by
  obtain rfl:=h.1
  exact ⟨FrzL.nil,[],⟨hr,rfl⟩,Hand.nil⟩
 | [],_::_,_,_,_,_,_,h,_=>h.elim
 | p::ps,[],_,_,_,_,_,h,_=>h.elim
 | p::ps,v::vs,_,_,_,q,⟨w,r,hw,hv,hr⟩,h,hR=>by
  obtain ⟨a,l1,h1,h⟩:=RM.Out_bind h
  obtain ⟨q',l2,h2,h⟩:=RM.Out_bind h
  obtain rfl:=h.1
  obtain ⟨i1,f1,i2,i3⟩:=inpP_sound hS hv h1 hR.left
  obtain ⟨j1,f2,j2,j3⟩:=inp_sound hS hr h2 hR.right
  exact ⟨i1.app j1,f1++f2,⟨w,r,f1,f2,hw,rfl,i2,j2⟩,i3.app hS j3⟩
end Mir
namespace Mir
set_option linter.unusedVariables false
set_option linter.unusedSimpArgs false
open Go
variable {E:Env} {P:Program} {T:Tb} {cx:Cx} {G G':Gh} {S:St E} {tm:Array Value} {a:Act} {W W':World}
theorem BlkR.ofD {K:Nat→Prop} {id:Nat} {e:Nat} {t:Ty} {xs:List (Ty.D E.S t)} {hid:Nat} (h:BlkR G K W id (.drow e t xs hid)) (hF:∀k∈G.fp hid,G.F k):BlkR G K W id (.row e t xs true):=by
 obtain ⟨_,h1,h2,h3,h⟩:=h
 refine ⟨h1,h2,h3,?_⟩
 rcases h with ⟨A,hA,hn,_⟩ | ⟨cap,cur,d,fps,hhd,hc,hh,i1,i2,i3,hfp,hnd,hr,_⟩
 ·exact .inl ⟨A,hA,hn⟩
 ·exact .inr ⟨cap,cur,d,hhd,hc,hh,i1,i2,i3,fun i hi=>(hr.2 i hi).ro (fun t x v fp hF h=>DeepA.ro hF h) (hr.at hi fun k hk=>hF k (by rw [hfp];exact hk))⟩
theorem Sim.after (hS:Sim cx G S tm W) (U:Up E) (F':Nat→Prop) (hU:∀id b,lk U id=some b→b = .gone∨FrzB S id b)
  (hfrm:Frm cx W') (hF:∀b,G.F b→F' b) (hWF:∀b,G.F b→W'.heap[b]? = W.heap[b]?) (hlt:∀b,F' b→b<W'.heap.size) (hff:∀b,F' b→G.F b∨cx.W0.heap.size≤b∨cx.M b)
  (hk:∀id b b0 k,St.h { S with H:=U++S.H } id=some b→S.h id=some b0→Occ G id b0 k→W'.heap[k]? = W.heap[k]?∧(b.fz=true→F' k)∧(b.fz=false→¬ F' k)) :
  Sim cx { G with F:=F' } { S with H:=U++S.H } tm W'∧Ext G S.k W { G with F:=F' } (St.k { S with H:=U++S.H }) W':=by
 have hE:Ext G S.k W { G with F:=F' } (St.k { S with H:=U++S.H }) W':=⟨fun _ _=>rfl,fun _ _=>rfl,fun _ _=>rfl,fun _ _=>rfl,fun _ _=>rfl,fun _ _=>rfl,fun i hi=>k_append hi,hF,hWF⟩
 have hh:∀id b,St.h { S with H:=U++S.H } id=some b→∃b0,S.h id=some b0∧(b=b0∨FrzB S id b):=by
  intro id b h
  unfold St.h at h
  simp only [lk_append] at h
  cases hu:lk U id with
  | none=>rw [hu] at h;exact ⟨b,h,.inl rfl⟩
  | some b'=>
   rw [hu] at h
   rcases hU id b' hu with rfl | hb'
   ·cases h
   ·obtain ⟨e,t,ys,rfl,h1⟩:=hb'
    cases h
    rcases h1 with ⟨f,h1⟩ | ⟨hid,h1⟩
    ·exact ⟨_,h1,.inr ⟨e,t,ys,rfl,.inl ⟨f,h1⟩⟩⟩
    ·exact ⟨_,h1,.inr ⟨e,t,ys,rfl,.inr ⟨hid,h1⟩⟩⟩
 have ho:∀ {id b b0},S.h id=some b0→(b=b0∨FrzB S id b)→∀k,Occ (E:=E) G id b k→Occ G id b0 k:=by
  rintro id b b0 h0 (rfl | ⟨e,t,ys,rfl,h1⟩) k h
  ·exact h
  ·rcases h1 with ⟨f,h1⟩ | ⟨hid,h1⟩
   ·rw [h0] at h1;cases h1;exact h
   ·rw [h0] at h1;cases h1;exact .inl h
 refine ⟨⟨hS.sz,fun s v h=>(hS.tmps s v h).ext hE,?_,?_,?_,?_,?_,hlt,hfrm,fun b hb=>hF b (hS.ff.1 b hb),fun b hb=>?_⟩,hE⟩
 ·intro id b h
  obtain ⟨b0,h0,hb⟩:=hh id b h
  have:=(hS.blks id b0 h0).ext hE (St.h_k h0) (fun k hk'=>(hk id b b0 k h h0 hk').1)
  rcases hb with rfl | ⟨e,t,ys,rfl,h1⟩
  ·exact this
  ·rcases h1 with ⟨f,h1⟩ | ⟨hid,h1⟩
   ·rw [h0] at h1;cases h1;exact this
   ·rw [h0] at h1;cases h1
    exact this.ofD fun k hm=>(hk id _ _ k h h0 (.inr hm)).2.1 rfl
 ·intro i j bi bj k hi hj hoi hoj
  obtain ⟨b0,h0,hb⟩:=hh i bi hi
  obtain ⟨c0,k0,hc⟩:=hh j bj hj
  exact hS.inj i j b0 c0 k h0 k0 (ho h0 hb k hoi) (ho k0 hc k hoj)
 ·intro id b k h hoc hf
  obtain ⟨b0,h0,hb⟩:=hh id b h
  exact (hk id b b0 k h h0 (ho h0 hb k hoc)).2.1 hf
 ·intro id b k h hoc hf
  obtain ⟨b0,h0,hb⟩:=hh id b h
  exact (hk id b b0 k h h0 (ho h0 hb k hoc)).2.2 hf
 ·intro id b k h hoc hf
  obtain ⟨b0,h0,hb⟩:=hh id b h
  rcases hb with rfl | ⟨e,t,ys,rfl,h1⟩
  ·exact hS.own id b k h0 hoc hf
  ·cases hf
 ·rcases hff b hb with h | h
  ·exact hS.ff.2 b h
  ·exact .inr h
def ownIds:List (At E)→List Nat
 | []=>[]
 | .own id::r=>id::ownIds r
 | _::r=>ownIds r
def MutA (G:Gh):Ty→At E→Prop
 | .slice e t,.own id=>∃n,G.ln id=n∧G.sz id=tsz E t∧((∃A,G.hd id = .slice A 0 0∧n=0)∨∃cap,G.hd id = .slice (some ⟨G.loc id,0,none⟩) n cap∧0<cap)
 | .slice _ _,x=>x = .nils
 | _,x=>∀i,x≠.own i
def MutL (G:Gh):List Ty→List (At E)→Prop
 | [],xs=>xs=[]
 | t::ts,xs=>∃x r,xs=x::r∧MutA G t x∧MutL G ts r
theorem MutA.ext {K K':Nat→Prop} (hE:Ext G K W G' K' W') {t:Ty} {x:At E} (hk:∀i,x = .own i→K i) (h:MutA G t x):MutA G' t x:=by
 cases t with
 | slice e t=>
  cases x with
  | own id=>
   have hk:=hk id rfl
   obtain ⟨n,h1,h2,h3⟩:=h
   exact ⟨n,by rw [hE.ln id hk];exact h1,by rw [hE.sz id hk];exact h2,by rw [hE.hd id hk,hE.loc id hk];exact h3⟩
  | _=>exact h
 | _=>exact h
theorem MutL.ext {K K':Nat→Prop} (hE:Ext G K W G' K' W'):∀ {ts:List Ty} {xs:List (At E)},(∀i∈ownIds xs,K i)→MutL G ts xs→MutL G' ts xs
 | [],_,_,h=>h
 | t::ts,_,hk,⟨x,r,hx,ha,hr⟩=>by
  subst hx
  refine ⟨x,r,rfl,ha.ext hE fun i hi=>hk i (by subst hi;simp [ownIds]),MutL.ext hE (fun i hi=>hk i ?_) hr⟩
  cases x<;>simp [ownIds,hi]
theorem ownIds_cons (x:At E) (r:List (At E)):ownIds (x::r)=ownIds [x]++ownIds r:=by cases x<;>rfl
theorem mutA_of (hS:Sim cx G S tm W) {dp:Bool} {t:Ty} {x:At E} {l l' l2 l3 m:List Nat} {d:Ty.D E.S t} (h:RM.Out S.h (ofAt E t x) l d l') (h2:RM.Out S.h (ownAt E false dp t x) l2 m l3):MutA G t x∧m=ownIds [x]:=by
 unfold ownAt at h2
 split at h2
 ·obtain rfl:=h2.1;exact ⟨fun i h=>(by cases h),rfl⟩
 ·obtain rfl:=h2.1;exact ⟨fun i h=>(by cases h),rfl⟩
 ·rename_i e t id
  obtain ⟨b,hb,h2⟩:=h2
  obtain ⟨b',hb',h⟩:=h
  rw [hb] at hb';cases hb'
  dsimp only at h h2
  split at h2
  ·rename_i e' t' xs
   have hb':=RM.Out_bif h2;clear h2;obtain ⟨hc,h2⟩:=hb'
   obtain rfl:=h2.1
   obtain ⟨rfl,rfl,rfl⟩:=castR_sound h
   obtain ⟨b1,b2,b3,hrow⟩:=hS.blks id _ hb
   refine ⟨⟨_,b1,b2,?_⟩,rfl⟩
   rcases hrow with ⟨A,h1,h2⟩ | ⟨cap,cur,d,hhd,hcap,_⟩
   ·exact .inl ⟨A,h1,by rw [h2];rfl⟩
   ·exact .inr ⟨cap,hhd,hcap⟩
  ·rename_i e' t' xs hid
   have hb':=RM.Out_bif h2;clear h2;obtain ⟨hc,h2⟩:=hb'
   obtain rfl:=h2.1
   obtain ⟨rfl,rfl,rfl⟩:=castR_sound h
   obtain ⟨b0,b1,b2,b3,hrow⟩:=hS.blks id _ hb
   refine ⟨⟨_,b1,b2,?_⟩,rfl⟩
   rcases hrow with ⟨A,h1,h2,_⟩ | ⟨cap,cur,d,fps,hhd,hcap,_⟩
   ·exact .inl ⟨A,h1,by rw [h2];rfl⟩
   ·exact .inr ⟨cap,hhd,hcap⟩
  ·exact h2.elim
 ·obtain ⟨b,hb,h2⟩:=h2
  dsimp only at h2
  split at h2
  ·exact (RM.Out_bif h2).1 |> fun h=>by simp at h
  ·exact h2.elim
 ·obtain rfl:=h2.1;exact ⟨rfl,rfl⟩
 ·obtain rfl:=h2.1;exact ⟨fun i h=>(by cases h),rfl⟩
 ·obtain rfl:=h2.1;exact ⟨fun i h=>(by cases h),rfl⟩
 ·obtain rfl:=h2.1;exact ⟨fun i h=>(by cases h),rfl⟩
 ·obtain rfl:=h2.1;exact ⟨fun i h=>(by cases h),rfl⟩
 ·exact h2.elim
theorem mutL_of (hS:Sim cx G S tm W) {dp:Bool}:∀ {ts:List Ty} {xs:List (At E)} {l l' l2 l3 m:List Nat} {d:HT E.S ts},RM.Out S.h (ofAts E ts xs) l d l'→RM.Out S.h (ownAll E false dp ts xs) l2 m l3→MutL G ts xs∧m=ownIds xs
 | [],[],_,_,_,_,_,_,_,h2=>⟨rfl,h2.1⟩
 | [],_::_,_,_,_,_,_,_,h,_=>h.elim
 | _::_,[],_,_,_,_,_,_,h,_=>h.elim
 | t::ts,x::xs,_,_,_,_,m,_,h,h2=>by
  obtain ⟨y,l1,h1,h⟩:=RM.Out_bind h
  obtain ⟨z,l2,h3,h⟩:=RM.Out_bind h
  obtain ⟨m1,l5,h4,h2⟩:=RM.Out_bind h2
  obtain ⟨m2,l6,h5,h2⟩:=RM.Out_bind h2
  obtain rfl:=h2.1
  obtain ⟨i1,rfl⟩:=mutA_of hS h1 h4
  obtain ⟨j1,rfl⟩:=mutL_of hS h3 h5
  exact ⟨⟨x,xs,rfl,i1,j1⟩,(ownIds_cons x xs).symm⟩
theorem backRow_le (dp:Bool) (e:Nat) (t:Ty) (xs:List (Ty.D E.S t)) (id fr:Nat):fr≤(backRow E dp e t xs id fr).2:=by
 unfold backRow
 cases dp && !t.flat1 E<;>simp
theorem backRow_key (dp:Bool) (e:Nat) (t:Ty) (xs:List (Ty.D E.S t)) (id fr i:Nat) (hi:i≠id) (hk:i<fr∨(backRow E dp e t xs id fr).2≤i):lk (backRow E dp e t xs id fr).1 i=none:=by
 unfold backRow at hk ⊢
 cases hc:dp && !t.flat1 E<;>simp only [hc,cond_true,cond_false,lk_cons] at hk ⊢
 ·rw [if_neg (fun e=>hi e.symm)];rfl
 ·rw [if_neg (fun e=>hi e.symm),if_neg (by omega)];rfl
theorem Sim.backRow (hS:Sim cx G S tm W) {dp:Bool} {id e fr:Nat} {t:Ty} {xs:List (Ty.D E.S t)} {fp:List Nat} (hn:S.h id=none) (hk:S.k id) (hm:MutA (E:=E) G (.slice e t) (.own id)) (h:OwnA E W G.F dp (.slice e t) xs (G.hd id) fp) (hfree:∀b∈fp,Free cx G S b)
  (hnew:∀k,fr≤k→k<(Mir.backRow E dp e t xs id fr).2→lk S.H k=none) :
  ∃G',Sim cx G' { S with H:=(Mir.backRow E dp e t xs id fr).1++S.H } tm W∧Ext G S.k W G' (St.k { S with H:=(Mir.backRow E dp e t xs id fr).1++S.H }) W∧G'.F=G.F∧∀k,k∉fp→Free cx G S k→Free cx G' { S with H:=(Mir.backRow E dp e t xs id fr).1++S.H } k:=by
 have h:RwA E W G.F (dp && !t.flat1 E) e t xs (G.hd id) fp:=h
 obtain ⟨n,h1,h2,h3⟩:=hm
 unfold Mir.backRow at hnew ⊢
 cases hc:dp && !t.flat1 E with
 | false=>
  rw [hc] at h
  have key:Sim cx G { S with H:=(id,.row e t xs false)::S.H } tm W∧∀k,k∉fp→Free cx G S k→Free cx G { S with H:=(id,.row e t xs false)::S.H } k:=by
   rcases h with ⟨A,hv,rfl,rfl⟩ | ⟨g,cap,cur,d,hv,rfl,k1,k2,k3,k4,k5,k6⟩
   ·have hno:∀k,¬ Occ (E:=E) G id (.row e t [] false) k:=fun k h=>by have:=h.2;rw [hv] at this;simp [capOf] at this
    refine ⟨hS.adopt hn ext_self rfl ⟨?_,h2,tsz_pos E t,.inl ⟨A,hv,rfl⟩⟩ rfl (fun k hk=>(hno k hk).elim),fun k _ hf=>hf.cons hS (ext_self (W:=W)) rfl (hno k)⟩
    rcases h3 with ⟨_,_,h3⟩ | ⟨cap,h3,h4⟩
    ·rw [h1,h3];rfl
    ·rw [hv] at h3;cases h3;omega
   ·rcases h3 with ⟨A,h3,_⟩ | ⟨cap',h3,h4⟩
    ·rw [hv] at h3;injection h3;omega
    ·rw [hv] at h3
     have e1:g=G.loc id:=by injection h3 with e1 e2 e3;injection e1 with e1;injection e1
     have e2:xs.length=n:=by injection h3
     have e3:cap=cap':=by injection h3
     subst e1 e3
     rw [← e2] at h1
     have hoc:∀k,Occ (E:=E) G id (.row e t xs false) k→k=G.loc id:=fun k h=>h.1
     refine ⟨hS.adopt hn ext_self rfl ⟨h1,h2,tsz_pos E t,.inr ⟨cap,cur,d,hv,k1,k2,k3,k4,k5,k6⟩⟩ rfl (fun k hk=>hfree k (by simp [hoc k hk])),fun k hk hf=>hf.cons hS (ext_self (W:=W)) rfl fun h=>hk (by simp [hoc k h])⟩
  exact ⟨G,key.1,ext_self,rfl,key.2⟩
 | true=>
  rw [hc] at h hnew
  obtain ⟨hnd,d,h⟩:=h
  have hfr:=hnew fr (Nat.le_refl _) (by simp)
  have hne:id≠fr:=fun e=>by subst e;unfold St.k at hk;rw [hfr] at hk;cases hk
  have hlen:G.ln id=xs.length:=by
   cases d with
   | zero=>exact h.elim
   | succ d=>
    rcases h with ⟨A,hv,rfl,_⟩ | ⟨g,cap,cur,fps,hv,_,hcap,_⟩
    ·rcases h3 with ⟨_,_,h3⟩ | ⟨cap,h3,h4⟩
     ·rw [h1,h3];rfl
     ·rw [hv] at h3;cases h3;omega
    ·rcases h3 with ⟨A,h3,_⟩ | ⟨cap',h3,h4⟩
     ·rw [hv] at h3;injection h3;omega
     ·rw [hv] at h3;rw [h1];injection h3 with _ e2;exact e2.symm
  obtain ⟨G',i1,i2,i3,i4,i5⟩:=hS.adoptD (id:=id) (hid:=fr) hn hfr hne h hnd hfree (.inr ⟨rfl,hlen,h2,fun h0=>by
   rcases h3 with ⟨A,h3,_⟩ | ⟨cap',h3,h4⟩
   ·rw [h3] at h0;simp [capOf] at h0
   ·exact ⟨cap',by rw [h3,← h1,hlen]⟩⟩)
  exact ⟨G',i1,i2,i3,i5⟩
theorem h_append_none {U:Up E} {i:Nat} (hl:lk U i=none) (h:S.h i=none):St.h { S with H:=U++S.H } i=none:=by
 unfold St.h at *
 simp only [lk_append,hl]
 exact h
theorem not_fresh {fr en i:Nat} (hk:S.k i) (hnew:∀k,fr≤k→k<en→lk S.H k=none):i<fr∨en≤i:=by
 by_cases h:fr≤i∧i<en
 ·have:=hnew i h.1 h.2
  unfold St.k at hk
  rw [this] at hk;cases hk
 ·omega
theorem backAts_le (dp:Bool):∀(ts:List Ty) (h:HT E.S ts) (xs:List (At E)) (fr:Nat),fr≤(backAts E dp ts h xs fr).2
 | [],_,_,_=>Nat.le_refl _
 | t::ts,h,[],fr=>by cases t<;>exact Nat.le_refl _
 | t::ts,h,x::xs,fr=>by
  cases t with
  | slice e t=>
   cases x with
   | own id=>exact Nat.le_trans (backRow_le dp e t h.1 id fr) (backAts_le dp ts h.2 xs _)
   | _=>exact backAts_le dp ts h.2 xs fr
  | _=>cases x<;>exact backAts_le dp ts h.2 xs fr
theorem back_sound {dp:Bool}:∀ {ts:List Ty} {h:HT E.S ts} {vs:List Value} {fp:List Nat} {xs:List (At E)} {fr:Nat} {G:Gh} {S:St E},(hS:Sim cx G S tm W)→OwnL E W G.F dp ts h vs fp→fp.Nodup→(∀b∈fp,Free cx G S b)→MutL G ts xs→(∃K W2,AtsR G K W2 xs vs)→(ownIds xs).Nodup→(∀i∈ownIds xs,S.h i=none∧S.k i)→
  (∀k,fr≤k→k<(backAts E dp ts h xs fr).2→lk S.H k=none)→
  ∃G',Sim cx G' { S with H:=(backAts E dp ts h xs fr).1++S.H } tm W∧Ext G S.k W G' (St.k { S with H:=(backAts E dp ts h xs fr).1++S.H }) W∧G'.F=G.F∧(∀k,k∉fp→Free cx G S k→Free cx G' { S with H:=(backAts E dp ts h xs fr).1++S.H } k)∧
   ∀i,i∉ownIds xs→(i<fr∨(backAts E dp ts h xs fr).2≤i)→lk (backAts E dp ts h xs fr).1 i=none
 | [],_,_,_,xs,_,G,S,hS,_,_,_,hm,_,_,_,_=>by
  rw [MutL] at hm;subst hm
  exact ⟨G,hS,Ext.refl _ _ _,rfl,fun _ _ h=>h,fun _ _ _=>rfl⟩
 | t::ts,h,vs,fp,xs,fr,G,S,hS,⟨v,r,f1,f2,hv,hfp,ha,hr⟩,hnd,hfree,⟨x,r',hx,hma,hmr⟩,⟨K,W2,hat⟩,hids,hgone,hnew=>by
  subst hfp hx hv
  obtain ⟨v',r2,hv',hxa,hxr⟩:=hat
  cases hv'
  obtain ⟨hn1,hn2,hdis⟩:=List.nodup_append.1 hnd
  have hsub:∀i∈ownIds r',i∈ownIds (x::r'):=fun i hi=>by cases x<;>simp [ownIds,hi]
  have hids':(ownIds r').Nodup:=by
   cases x<;>first | exact hids | exact (List.nodup_cons.1 hids).2
  have skip:backAts E dp (t::ts) h (x::r') fr=backAts E dp ts h.2 r' fr→f1=[]→∃G',Sim cx G' { S with H:=(backAts E dp (t::ts) h (x::r') fr).1++S.H } tm W∧Ext G S.k W G' (St.k { S with H:=(backAts E dp (t::ts) h (x::r') fr).1++S.H }) W∧G'.F=G.F∧(∀k,k∉f1++f2→Free cx G S k→Free cx G' { S with H:=(backAts E dp (t::ts) h (x::r') fr).1++S.H } k)∧
   ∀i,i∉ownIds (x::r')→(i<fr∨(backAts E dp (t::ts) h (x::r') fr).2≤i)→lk (backAts E dp (t::ts) h (x::r') fr).1 i=none:=by
   intro heq hf1
   rw [heq] at hnew ⊢
   obtain ⟨G1,i1,i2,i3,i4,i5⟩:=back_sound hS hr hn2 (fun b hb=>hfree b (by simp [hb])) hmr ⟨K,W2,hxr⟩ hids' (fun i hi=>hgone i (hsub i hi)) hnew
   exact ⟨G1,i1,i2,i3,fun k hk=>i4 k (by simp at hk;exact hk.2),fun i hi=>i5 i fun h=>hi (hsub i h)⟩
  cases t with
  | slice e t=>
   cases x with
   | own id=>
    obtain ⟨hn3,hn4⟩:=List.nodup_cons.1 hids
    have hl1:=backRow_le dp e t h.1 id fr
    have hl2:=backAts_le dp ts h.2 r' (backRow E dp e t h.1 id fr).2
    simp only [backAts] at hnew ⊢
    obtain ⟨G1,i1,i2,i3,i4,i5⟩:=back_sound (fr:=(backRow E dp e t h.1 id fr).2) hS hr hn2 (fun b hb=>hfree b (by simp [hb])) hmr ⟨K,W2,hxr⟩ hids' (fun i hi=>hgone i (hsub i hi)) (fun k h1 h2=>hnew k (by omega) h2)
    have hidk:S.k id:=(hgone id (by simp [ownIds])).2
    have hidf:=not_fresh hidk hnew
    have hma':=MutA.ext i2 (fun i hi=>by cases hi;exact hidk) hma
    have hxv:v=G1.hd id:=by rw [i2.hd id hidk];exact hxa.2.1
    obtain ⟨G2,j1,j2,j3,j4⟩:=i1.backRow (dp:=dp) (fr:=fr) (id:=id) (h_append_none (i5 id hn3 (by omega)) (hgone id (by simp [ownIds])).1) (i2.K id hidk) hma' (by rw [← hxv,i3];exact ha) (fun b hb=>i4 b (fun h2=>hdis b hb b h2 rfl) (hfree b (by simp [hb]))) (fun k h1 h2=>by
     show lk (_++S.H) k=none
     rw [lk_append,i5 k (fun hk=>by rcases not_fresh (hgone k (hsub k hk)).2 hnew with h | h<;>omega) (by omega)]
     exact hnew k h1 (by omega))
    rw [List.append_assoc]
    refine ⟨G2,j1,i2.trans j2,j3.trans i3,fun k hk hf=>j4 k (fun h=>hk (by simp [h])) (i4 k (fun h=>hk (by simp [h])) hf),fun i hi hlt=>?_⟩
    simp only [ownIds,List.mem_cons,not_or] at hi
    rw [lk_append,backRow_key dp e t h.1 id fr i hi.1 (by omega)]
    exact i5 i hi.2 (by omega)
   | nils=>
    obtain ⟨A,rfl⟩:=hxa
    refine skip rfl ?_
    have ha:RwA E W G.F (dp && !t.flat1 E) e t h.1 (.slice A 0 0) f1:=ha
    cases hc:dp && !t.flat1 E with
    | false=>
     rw [hc] at ha
     rcases ha with ⟨_,_,_,h⟩ | ⟨g,cap,cur,d,hv,_,h,_⟩
     ·exact h
     ·injection hv with _ _ e;omega
    | true=>
     rw [hc] at ha
     obtain ⟨_,d,ha⟩:=ha
     cases d with
     | zero=>exact ha.elim
     | succ d=>
      rcases ha with ⟨_,_,_,h⟩ | ⟨g,cap,cur,fps,hv,_,h,_⟩
      ·exact h
      ·injection hv with _ _ e;omega
   | _=>cases hma
  | int k=>exact skip (by cases x<;>rfl) ha.2
  | bool=>exact skip (by cases x<;>rfl) ha.2
  | str=>exact skip (by cases x<;>rfl) ha.2
  | opq=>exact skip (by cases x<;>rfl) ha.2
  | rsl e t=>exact skip (by cases x<;>rfl) ha.2
  | st n=>exact ha.elim
  | arr k n=>exact ha.elim
  | pbx b n=>exact ha.elim
end Mir
namespace Mir
set_option linter.unusedVariables false
set_option linter.unusedSimpArgs false
open Go
variable {E:Env} {P:Program} {T:Tb} {cx:Cx} {G G':Gh} {S:St E} {tm:Array Value} {a:Act} {W W':World}
def MutCv (G:Gh):Ty→Cv E→Prop
 | .st n,.agg xs=>MutL G (E.fl n) xs
 | .st _,_=>False
 | .arr _ _,.arr _ _ _=>True
 | .arr _ _,_=>False
 | .pbx _ _,_=>False
 | t,.at x=>MutA G t x
 | _,_=>False
theorem MutCv.ext {K K':Nat→Prop} (hE:Ext G K W G' K' W') {t:Ty} {v:Cv E} (hk:∀i∈ownIds v.cells,K i) (hc:MutCv G t v):MutCv G' t v:=by
 cases v with
 | agg xs=>
  cases t with
  | st n=>exact MutL.ext hE hk hc
  | _=>exact hc
 | arr k n xs=>cases t<;>exact hc
 | «at» x=>
  have:∀ {t:Ty},MutA G t x→MutA G' t x:=fun h=>h.ext hE fun i hi=>hk i (by subst hi;simp [Cv.cells,ownIds])
  cases t<;>first | exact hc | exact this hc
def MutP (G:Gh) (K:Nat→Prop):Par→AV E→List Nat→Prop
 | .mut _ t,v,m=>∃c,v = .c c∧m=ownIds c.cells∧MutCv G t c
 | .box _ _ _,v,m=>∃id m1,v = .c (.at (.ptr id 0))∧m=id::m1∧K id
 | _,_,_=>True
def MutPs (G:Gh) (K:Nat→Prop):List Par→List (AV E)→List Nat→Prop
 | [],_,m=>m=[]
 | p::ps,vs,m=>∃v r m1 m',vs=v::r∧m=m1++m'∧MutP G K p v m1∧MutPs G K ps r m'
theorem ownIds_arr (k:IntKind) (xs:List Int):ownIds (xs.map (At.int (E:=E) k))=[]:=by
 induction xs with
 | nil=>rfl
 | cons x xs ih=>exact ih
theorem mutCv_of (hS:Sim cx G S tm W) {dp:Bool} {t:Ty} {v:Cv E} {l l' l2 l3 m:List Nat} {d:Ty.D E.S t} (h:RM.Out S.h (ofCv E t v) l d l') (h2:RM.Out S.h (ownCv E false dp t v) l2 m l3):MutCv G t v∧m=ownIds v.cells:=by
 cases v with
 | agg xs=>
  cases t with
  | st n=>
   obtain ⟨y,l1,h1,h⟩:=RM.Out_bind h
   exact mutL_of hS h1 h2
  | _=>exact h.elim
 | arr k n xs=>
  cases t with
  | arr k' n'=>exact ⟨trivial,by rw [h2.1];exact (ownIds_arr k xs).symm⟩
  | _=>exact h.elim
 | «at» x=>
  cases t with
  | st n=>exact h.elim
  | arr k n=>exact h.elim
  | pbx b n=>
   cases x with
   | ptr id o=>cases o<;>exact h2.elim
   | _=>exact h.elim
  | _=>exact mutA_of hS h h2
theorem inpP_mut (hS:Sim cx G S tm W) {p:Par} {v:AV E} {l l':List Nat} {q:Inp E (p.I E)} (h:RM.Out S.h (inpP E p v) l q l'):MutP G S.k p v q.m:=by
 cases p with
 | «mut» dp t=>
  cases v with
  | c v=>
   obtain ⟨d,l1,h1,h⟩:=RM.Out_bind h
   obtain ⟨m,l2,h2,h⟩:=RM.Out_bind h
   obtain rfl:=h.1
   obtain ⟨i1,i2⟩:=mutCv_of hS h1 h2
   exact ⟨v,rfl,i2,i1⟩
  | _=>exact h.elim
 | box dp b n=>
  have hid:∃id,v = .c (.at (.ptr id 0)):=by
   cases v with
   | c v=>
    cases v with
    | «at» x=>
     cases x with
     | ptr id o=>
      cases o with
      | zero=>exact ⟨id,rfl⟩
      | succ o=>exact h.elim
     | _=>exact h.elim
    | _=>exact h.elim
   | _=>exact h.elim
  obtain ⟨id,rfl⟩:=hid
  obtain ⟨c,hc,h⟩:=h
  dsimp only at h
  split at h
  ·have hb':=RM.Out_bif h;clear h;obtain ⟨ht,h⟩:=hb'
   obtain ⟨d,l1,h1,h⟩:=RM.Out_bind h
   obtain ⟨m,l2,h2,h⟩:=RM.Out_bind h
   obtain rfl:=h.1
   exact ⟨id,m,rfl,rfl,St.h_k hc⟩
  ·exact h.elim
 | _=>trivial
theorem inp_mut (hS:Sim cx G S tm W):∀ {ps:List Par} {vs:List (AV E)} {l l':List Nat} {q:Inp E (IT E ps)},RM.Out S.h (inp E ps vs) l q l'→MutPs G S.k ps vs q.m
 | [],[],_,_,q,h=>by obtain rfl:=h.1;rfl
 | [],_::_,_,_,_,h=>h.elim
 | p::ps,[],_,_,_,h=>h.elim
 | p::ps,v::vs,_,_,q,h=>by
  obtain ⟨a,l1,h1,h⟩:=RM.Out_bind h
  obtain ⟨q',l2,h2,h⟩:=RM.Out_bind h
  obtain rfl:=h.1
  exact ⟨v,vs,a.m,q'.m,rfl,rfl,inpP_mut hS h1,inp_mut hS h2⟩
theorem MutP.ext {K K':Nat→Prop} (hE:Ext G K W G' K' W') {p:Par} {v:AV E} {m:List Nat} (hk:∀i∈m,K i) (h:MutP G K p v m):MutP G' K' p v m:=by
 cases p with
 | «mut» dp t=>obtain ⟨c,hv,hm,hc⟩:=h;exact ⟨c,hv,hm,hc.ext hE (by rw [← hm];exact hk)⟩
 | box dp b n=>obtain ⟨id,m1,hv,hm,hk'⟩:=h;exact ⟨id,m1,hv,hm,hE.K _ hk'⟩
 | _=>trivial
theorem MutPs.ext {K K':Nat→Prop} (hE:Ext G K W G' K' W'):∀ {ps:List Par} {vs:List (AV E)} {m:List Nat},(∀i∈m,K i)→MutPs G K ps vs m→MutPs G' K' ps vs m
 | [],_,_,_,h=>h
 | p::ps,_,_,hk,⟨v,r,m1,m',hv,hm,hp,h⟩=>⟨v,r,m1,m',hv,hm,hp.ext hE (fun i hi=>hk i (by simp [hm,hi])),MutPs.ext hE (fun i hi=>hk i (by simp [hm,hi])) h⟩
theorem AVsR.ext {K K':Nat→Prop} (hE:Ext G K W G' K' W'):∀ {xs:List (AV E)} {vs:List Value},AVsR G K W xs vs→AVsR G' K' W' xs vs
 | [],_,h=>h
 | _::_,_,⟨v,r,hv,ha,hr⟩=>⟨v,r,hv,ha.ext hE,AVsR.ext hE hr⟩
theorem backCv_le (dp:Bool) (t:Ty) (x:Ty.D E.S t) (v:Cv E) (fr:Nat):fr≤(backCv E dp t x v fr).2:=by
 cases t with
 | st n=>cases v<;>first | exact backAts_le _ _ _ _ _ | exact Nat.le_refl _
 | slice e t=>cases v<;>first | exact Nat.le_refl _ | (rename_i x';cases x'<;>first | exact backRow_le _ _ _ _ _ _ | exact Nat.le_refl _)
 | _=>cases v<;>exact Nat.le_refl _
theorem backCv_sound {dp:Bool} {t:Ty} {x:Ty.D E.S t} {w:Value} {v:Cv E} {fp:List Nat} {fr:Nat} (hS:Sim cx G S tm W) (ho:OwnE E W G.F dp t x w fp) (hnd:fp.Nodup) (hfree:∀b∈fp,Free cx G S b) (hm:MutCv G t v) (hv:∃K W2,CvR G K W2 v w) (hids:(ownIds v.cells).Nodup) (hgone:∀i∈ownIds v.cells,S.h i=none∧S.k i)
  (hnew:∀k,fr≤k→k<(backCv E dp t x v fr).2→lk S.H k=none) :
  ∃G',Sim cx G' { S with H:=(backCv E dp t x v fr).1++S.H } tm W∧Ext G S.k W G' (St.k { S with H:=(backCv E dp t x v fr).1++S.H }) W∧G'.F=G.F∧(∀k,k∉fp→Free cx G S k→Free cx G' { S with H:=(backCv E dp t x v fr).1++S.H } k)∧
   ∀i,i∉ownIds v.cells→(i<fr∨(backCv E dp t x v fr).2≤i)→lk (backCv E dp t x v fr).1 i=none:=by
 obtain ⟨K,W2,hv⟩:=hv
 have same:∃G',Sim cx G' { S with H:=([]:Up E)++S.H } tm W∧Ext G S.k W G' (St.k { S with H:=([]:Up E)++S.H }) W∧G'.F=G.F∧(∀k,k∉fp→Free cx G S k→Free cx G' { S with H:=([]:Up E)++S.H } k)∧∀i,i∉ownIds v.cells→(i<fr∨fr≤i)→lk ([]:Up E) i=none:=
  ⟨G,hS,Ext.refl _ _ _,rfl,fun _ _ h=>h,fun _ _ _=>rfl⟩
 cases v with
 | agg xs=>
  cases t with
  | st n=>
   obtain ⟨vs,rfl,ho⟩:=ho
   obtain ⟨vs',he,ha⟩:=hv
   have:vs=vs':=by simpa using he
   subst this
   exact back_sound hS ho hnd hfree hm ⟨K,W2,ha⟩ hids hgone hnew
  | arr k n=>exact hm.elim
  | _=>exact hm.elim
 | arr k n xs=>
  cases t with
  | arr k' n'=>exact same
  | _=>exact hm.elim
 | «at» x'=>
  cases t with
  | st n=>exact hm.elim
  | arr k n=>exact hm.elim
  | slice e t=>
   cases x' with
   | own id=>
    have hv':w=G.hd id:=hv.2.1
    have hidk:S.k id:=(hgone id (by simp [Cv.cells,ownIds])).2
    obtain ⟨G',j1,j2,j3,j4⟩:=hS.backRow (dp:=dp) (fr:=fr) (id:=id) (hgone id (by simp [Cv.cells,ownIds])).1 hidk hm (by rw [← hv'];exact ho) hfree hnew
    refine ⟨G',j1,j2,j3,j4,fun i hi hlt=>?_⟩
    simp only [Cv.cells,ownIds,List.mem_cons,not_or] at hi
    exact backRow_key dp e t x id fr i hi.1 hlt
   | nils=>exact same
   | _=>cases hm
  | int k=>exact same
  | bool=>exact same
  | str=>exact same
  | opq=>exact same
  | rsl e t=>exact same
  | pbx b n=>exact hm.elim
theorem outp_le:∀(ps:List Par) (o:OT E ps) (vs:List (AV E)) (fr:Nat),fr≤(outp E ps o vs fr).2
 | [],_,_,_=>Nat.le_refl _
 | p::_,_,[],_=>by cases p<;>exact Nat.le_refl _
 | p::ps,o,v::vs,fr=>by
  cases p with
  | «mut» dp t=>
   cases v with
   | c v=>exact Nat.le_trans (backCv_le dp t o.1 v fr) (outp_le ps o.2 vs _)
   | _=>exact Nat.le_refl _
  | box dp b n=>
   cases v with
   | c v=>
    cases v with
    | «at» x=>
     cases x with
     | ptr id off=>
      cases off with
      | zero=>exact Nat.le_trans (newAts_le dp _ _ fr) (outp_le ps o.2 vs _)
      | succ _=>exact Nat.le_refl _
     | _=>exact Nat.le_refl _
    | _=>exact Nat.le_refl _
   | _=>exact Nat.le_refl _
  | val t=>exact outp_le ps o.2 vs fr
  | clo f c=>exact outp_le ps o.2 vs fr
  | cap c=>exact outp_le ps o.2 vs fr
  | mov dp t=>exact outp_le ps o.2 vs fr
  | movb dp b n=>exact outp_le ps o.2 vs fr
theorem Ext.at {K K':Nat→Prop} (h:Ext G K W G' K' W') (W2:World):Ext G K W2 G' K' W2:=⟨h.loc,h.hd,h.ln,h.sz,h.inh,h.fp,h.K,h.F,fun _ _=>rfl⟩
theorem app3 {α:Type} (a b c:List α):(a++b)++c=a++(b++c):=List.append_assoc a b c
def OutG (cx:Cx) (tm:Array Value) (W:World) (ps:List Par) (o:OT E ps) (vs:List (AV E)) (fp m:List Nat) (fr:Nat) (G:Gh) (S:St E):Prop:=
 ∃G',Sim cx G' { S with H:=(outp E ps o vs fr).1++S.H } tm W∧Ext G S.k W G' (St.k { S with H:=(outp E ps o vs fr).1++S.H }) W∧G'.F=G.F∧(∀k,k∉fp→Free cx G S k→Free cx G' { S with H:=(outp E ps o vs fr).1++S.H } k)∧
   ∀i,i∉m→(i<fr∨(outp E ps o vs fr).2≤i)→lk (outp E ps o vs fr).1 i=none
theorem outp_sound:∀ {ps:List Par} {o:OT E ps} {vs:List (AV E)} {ws:List Value} {fp m:List Nat} {fr:Nat} {G:Gh} {S:St E},(hS:Sim cx G S tm W)→OutPs E W G.F ps o ws fp→fp.Nodup→(∀b∈fp,Free cx G S b)→MutPs G S.k ps vs m→(∃W2,AVsR G S.k W2 vs ws)→m.Nodup→(∀i∈m,S.h i=none∧S.k i)→
  (∀k,fr≤k→k<(outp E ps o vs fr).2→lk S.H k=none)→OutG cx tm W ps o vs fp m fr G S
 | [],_,_,_,_,_,_,G,S,hS,_,_,_,_,_,_,_,_=>⟨G,hS,Ext.refl _ _ _,rfl,fun _ _ h=>h,fun _ _ _=>rfl⟩
 | p::ps,o,vs,ws,fp,m,fr,G,S,hS,⟨w,ws',f1,f2,hw,hf,ho1,ho⟩,hnd,hfree,⟨v,vs',m1,m',hv,hme,hmp,hm⟩,⟨W2,ha⟩,hmn,hg,hnew=>by
  subst hv hw hf hme
  obtain ⟨_,_,he,hav,ha⟩:=ha
  cases he
  obtain ⟨hn1,hn2,hdis⟩:=List.nodup_append.1 hnd
  obtain ⟨hm1,hm2,hmd⟩:=List.nodup_append.1 hmn
  have skip:(∀fr,outp E (p::ps) o (v::vs') fr=outp E ps o.2 vs' fr)→f1=[]→OutG cx tm W (p::ps) o (v::vs') (f1++f2) (m1++m') fr G S:=by
   intro heq hf1
   subst hf1
   unfold OutG
   rw [heq] at hnew ⊢
   obtain ⟨G1,i1,i2,i3,i4,i5⟩:=outp_sound (ps:=ps) hS ho hn2 (fun b hb=>hfree b (by simp [hb])) hm ⟨W2,ha⟩ hm2 (fun i hi=>hg i (by simp [hi])) hnew
   exact ⟨G1,i1,i2,i3,i4,fun i hi=>i5 i (fun h=>hi (by simp [h]))⟩
  cases p with
  | val t=>exact skip (fun _=>by cases v<;>rfl) ho1
  | clo f c=>exact skip (fun _=>by cases v<;>rfl) ho1
  | cap c=>exact skip (fun _=>by cases v<;>rfl) ho1
  | mov dp t=>exact skip (fun _=>by cases v<;>rfl) ho1
  | movb dp b n=>exact skip (fun _=>by cases v<;>rfl) ho1
  | «mut» dp t=>
   obtain ⟨c,rfl,rfl,hmc⟩:=hmp
   have le1:=backCv_le dp t o.1 c fr
   have le2:=outp_le ps o.2 vs' (backCv E dp t o.1 c fr).2
   unfold OutG
   simp only [outp] at hnew ⊢
   obtain ⟨G1,i1,i2,i3,i4,i5⟩:=outp_sound (ps:=ps) (fr:=(backCv E dp t o.1 c fr).2) hS ho hn2 (fun b hb=>hfree b (by simp [hb])) hm ⟨W2,ha⟩ hm2 (fun i hi=>hg i (by simp [hi])) (fun k h1 h2=>hnew k (by omega) h2)
   have hk:∀i∈ownIds c.cells,S.k i:=fun i hi=>(hg i (by simp [hi])).2
   have hfr:∀i∈ownIds c.cells++m',i<fr∨(outp E ps o.2 vs' (backCv E dp t o.1 c fr).2).2≤i:=fun i hi=>not_fresh (hg i hi).2 hnew
   obtain ⟨G2,j1,j2,j3,j4,j5⟩:=backCv_sound (dp:=dp) (fr:=fr) (v:=c) i1 (by rw [i3];exact ho1) hn1 (fun b hb=>i4 b (fun h2=>hdis b hb b h2 rfl) (hfree b (by simp [hb]))) (hmc.ext i2 hk) ⟨_,W2,CvR.ext (i2.at W2) hav⟩ hm1 (fun i hi=>⟨h_append_none (i5 i (fun h=>hmd i hi i h rfl) (by have:=hfr i (by simp [hi]);omega)) (hg i (by simp [hi])).1,i2.K i (hk i hi)⟩) (fun k h1 h2=>by
    show lk (_++S.H) k=none
    rw [lk_append,i5 k (fun hk=>by have:=hfr k (by simp [hk]);omega) (by omega)]
    exact hnew k h1 (by omega))
   rw [app3]
   refine ⟨G2,j1,i2.trans j2,j3.trans i3,fun k hk hf=>j4 k (fun h=>hk (by simp [h])) (i4 k (fun h=>hk (by simp [h])) hf),fun i hi hlt=>?_⟩
   simp only [List.mem_append,not_or] at hi
   rw [lk_append,j5 i hi.1 (by omega)]
   exact i5 i hi.2 (by omega)
  | box dp b n=>
   obtain ⟨id,m1',rfl,rfl,hid⟩:=hmp
   have le1:=newAts_le dp (E.fl n) (E.opn n o.1) fr
   have le2:=outp_le ps o.2 vs' (newAts E dp (E.fl n) (E.opn n o.1) fr).2.2
   unfold OutG
   simp only [outp] at hnew ⊢
   obtain ⟨G1,i1,i2,i3,i4,i5⟩:=outp_sound (ps:=ps) (fr:=(newAts E dp (E.fl n) (E.opn n o.1) fr).2.2) hS ho hn2 (fun b hb=>hfree b (by simp [hb])) hm ⟨W2,ha⟩ hm2 (fun i hi=>hg i (by simp [hi])) (fun k h1 h2=>hnew k (by omega) h2)
   have hidfr:=not_fresh hid hnew
   obtain ⟨g,us,f,rfl,hg1,hg2,rfl⟩:=ho1
   have hgl:g=G.loc id:=by have:=hav.2;injection this with e;injection e with e;injection e
   obtain ⟨hn3,hn4⟩:=List.nodup_cons.1 hn1
   have hm'k:∀k,fr≤k→k<(newAts E dp (E.fl n) (E.opn n o.1) fr).2.2→k∉m':=fun k h1 h2 hk=>by
    rcases not_fresh (hg k (by simp [hk])).2 hnew with h | h<;>omega
   obtain ⟨G2,j1,j2,j3,j4,j5⟩:=newAts_sound (dp:=dp) (fr:=fr) (vs:=us) (h:=E.opn n o.1) i1 (by rw [i3];exact hg2) hn4 (fun b hb=>i4 b (fun h2=>hdis b (by simp [hb]) b h2 rfl) (hfree b (by simp [hb]))) (fun k h1 h2=>by
    show lk (_++S.H) k=none
    rw [lk_append,i5 k (hm'k k h1 h2) (by omega)]
    exact hnew k h1 (by omega))
   have hl1:lk (outp E ps o.2 vs' (newAts E dp (E.fl n) (E.opn n o.1) fr).2.2).1 id=none:=i5 id (fun h=>hmd id (by simp) id h rfl) (by omega)
   have hl2:lk (newAts E dp (E.fl n) (E.opn n o.1) fr).2.1 id=none:=newAts_key _ _ _ _ _ (by omega)
   have hgone:St.h { S with H:=(newAts E dp (E.fl n) (E.opn n o.1) fr).2.1++((outp E ps o.2 vs' (newAts E dp (E.fl n) (E.opn n o.1) fr).2.2).1++S.H) } id=none:=
    h_append_none (S:={ S with H:=(outp E ps o.2 vs' (newAts E dp (E.fl n) (E.opn n o.1) fr).2.2).1++S.H }) hl2 (h_append_none hl1 (hg id (by simp)).1)
   have hloc:G2.loc id=g:=by rw [j2.loc id (i2.K id hid),i2.loc id hid,hgl]
   have hfg:=j5 g hn3 (i4 g (fun h2=>hdis g (by simp) g h2 rfl) (hfree g (by simp)))
   have hoc:∀k,Occ (E:=E) G2 id (.box b (newAts E dp (E.fl n) (E.opn n o.1) fr).1) k→k=g:=fun k h=>(show k=G2.loc id from h).trans hloc
   have k1:=j1.adopt (id:=id) (b:=.box b (newAts E dp (E.fl n) (E.opn n o.1) fr).1) hgone ext_self rfl ⟨us,by rw [hloc];exact hg1,AtsR.ext ext_self j4⟩ rfl (fun k hk=>by rw [hoc k hk];exact hfg)
   refine ⟨G2,?_,(i2.trans j2).trans ?_,j3.trans i3,fun k hk hf=>?_,fun i hi hlt=>?_⟩
   ·simpa using k1
   ·have:=ext_self (G:=G2) (W:=W) (id:=id) (b:=(.box b (newAts E dp (E.fl n) (E.opn n o.1) fr).1:Blk E)) (S:={ S with H:=(newAts E dp (E.fl n) (E.opn n o.1) fr).2.1++((outp E ps o.2 vs' (newAts E dp (E.fl n) (E.opn n o.1) fr).2.2).1++S.H) })
    simpa using this
   ·have h1:=i4 k (fun h=>hk (by simp [h])) hf
    have h2:=j5 k (fun h=>hk (by simp [h])) h1
    have h3:=h2.cons j1 (id:=id) (b:=.box b (newAts E dp (E.fl n) (E.opn n o.1) fr).1) (ext_self (W:=W)) rfl (fun h=>hk (by simp [hoc k h]))
    simpa using h3
   ·simp only [List.mem_cons,List.mem_append,not_or] at hi
    simp only [List.cons_append,lk_cons]
    rw [if_neg (fun e=>hi.1.1 e.symm),lk_append,newAts_key _ _ _ _ _ (by omega)]
    exact i5 i hi.2 (by omega)
end Mir
namespace Mir
set_option linter.unusedVariables false
set_option linter.unusedSimpArgs false
open Go
variable {E:Env} {P:Program} {T:Tb} {cx:Cx} {G G':Gh} {S:St E} {tm:Array Value} {a:Act} {W W':World}
theorem RoA.flat {F F':Nat→Prop} {d:Nat} {t:Ty} {x:Ty.D E.S t} {v:Value} (hf:(match t with | .slice _ _=>false | .rsl _ _=>false | _=>true)=true) (h:RoA E W F d t x v):RoA E W F' d t x v:=by
 cases t with
 | slice e t=>cases hf
 | rsl e t=>cases hf
 | _=>cases d<;>exact h
theorem RoL.flat {F F':Nat→Prop} {d:Nat}:∀ {ts:List Ty} {x:HT E.S ts} {vs:List Value},(ts.all fun | .slice _ _=>false | .rsl _ _=>false | _=>true)=true→RoL E (RoA E W F d) ts x vs→RoL E (RoA E W F' d) ts x vs
 | [],_,_,_,h=>h
 | t::ts,_,_,hf,⟨v,r,hv,ha,hr⟩=>by
  simp only [List.all_cons,Bool.and_eq_true] at hf
  exact ⟨v,r,hv,ha.flat (by cases t<;>first | rfl | (exact hf.1)),hr.flat hf.2⟩
theorem RoE.flat {F F':Nat→Prop} {d:Nat} {t:Ty} {x:Ty.D E.S t} {vs:List Value} (hf:t.flat1 E=true) (h:RoE E (RoA E W F d) t x vs):RoE E (RoA E W F' d) t x vs:=by
 cases t with
 | st n=>exact RoL.flat hf h
 | slice e t=>cases hf
 | rsl e t=>cases hf
 | _=>obtain ⟨v,hv,h⟩:=h;exact ⟨v,hv,h.flat rfl⟩
theorem OwnA.flat {F F':Nat→Prop} {dp:Bool} {e:Nat} {t:Ty} {x:Ty.D E.S (.slice e t)} {v:Value} {fp:List Nat} (hf:(t.flat1 E||dp)=true) (h:OwnA E W F dp (.slice e t) x v fp):OwnA E W F' dp (.slice e t) x v fp:=by
 have h:RwA E W F (dp && !t.flat1 E) e t x v fp:=h
 show RwA E W F' (dp && !t.flat1 E) e t x v fp
 cases hc:dp && !t.flat1 E with
 | true=>rw [hc] at h;exact h
 | false=>
  rw [hc] at h
  have hfl:t.flat1 E=true:=by cases hd:dp<;>simp_all
  rcases h with h | ⟨g,cap,cur,d,h1,h2,h3,h4,h5,h6,h7,h8⟩
  ·exact .inl h
  ·exact .inr ⟨g,cap,cur,d,h1,h2,h3,h4,h5,h6,h7,fun i hi=>(h8 i hi).flat hfl⟩
theorem OwnL.flat {F F':Nat→Prop} {dp:Bool}:∀ {ts:List Ty} {x:HT E.S ts} {vs:List Value} {fp:List Nat},((ts.all fun | .slice _ t=>t.flat1 E | .rsl _ _=>false | _=>true)||(dp&&(ts.all fun | .rsl _ _=>false | _=>true)))=true→OwnL E W F dp ts x vs fp→OwnL E W F' dp ts x vs fp
 | [],_,_,_,_,h=>h
 | t::ts,_,_,_,hf,⟨v,r,f1,f2,hv,hfp,ha,hr⟩=>by
  simp only [List.all_cons,Bool.or_eq_true,Bool.and_eq_true] at hf
  refine ⟨v,r,f1,f2,hv,hfp,?_,hr.flat (by
   rcases hf with hf | hf
   ·simp [hf.2]
   ·rw [hf.1];simp [hf.2.2])⟩
  cases t with
  | slice e t=>
   refine OwnA.flat (F:=F) ?_ ha
   rcases hf with hf | hf
   ·have:=hf.1;simp at this;simp [this]
   ·simp [hf.1]
  | rsl e t=>
   rcases hf with hf | hf
   ·exact absurd hf.1 (by simp)
   ·exact absurd hf.2.1 (by simp)
  | _=>exact ha
theorem OwnE.flat {F F':Nat→Prop} {dp:Bool} {t:Ty} {x:Ty.D E.S t} {v:Value} {fp:List Nat} (hf:noF E dp t=true) (h:OwnE E W F dp t x v fp):OwnE E W F' dp t x v fp:=by
 cases t with
 | st n=>obtain ⟨vs,hv,h⟩:=h;exact ⟨vs,hv,OwnL.flat hf h⟩
 | slice e t=>
  refine OwnA.flat (F:=F) ?_ h
  simpa [noF,flatRows,deepRows] using hf
 | rsl e t=>simp [noF,flatRows,deepRows] at hf
 | pbx b n=>
  obtain ⟨g,vs,f,h1,h2,h3,h4⟩:=h
  exact ⟨g,vs,f,h1,h2,OwnL.flat hf h3,h4⟩
 | _=>exact h
theorem OwnEs.flat {F F':Nat→Prop} {dp:Bool}:∀ {ts:List Ty} {x:HT E.S ts} {vs:List Value} {fp:List Nat},ts.all (noF E dp)=true→OwnEs E W F dp ts x vs fp→OwnEs E W F' dp ts x vs fp
 | [],_,_,_,_,h=>h
 | t::ts,_,_,_,hf,⟨v,r,f1,f2,hv,hfp,ha,hr⟩=>by
  simp only [List.all_cons,Bool.and_eq_true] at hf
  exact ⟨v,r,f1,f2,hv,hfp,ha.flat hf.1,hr.flat hf.2⟩
theorem OutPs.flat {F F':Nat→Prop}:∀ {ps:List Par} {x:OT E ps} {vs:List Value} {fp:List Nat},ps.all (Par.flat E)=true→OutPs E W F ps x vs fp→OutPs E W F' ps x vs fp
 | [],_,_,_,_,h=>h
 | p::ps,_,_,_,hf,⟨v,r,f1,f2,hv,hfp,ha,hr⟩=>by
  simp only [List.all_cons,Bool.and_eq_true] at hf
  refine ⟨v,r,f1,f2,hv,hfp,?_,hr.flat hf.2⟩
  cases p with
  | «mut» dp t=>exact OwnE.flat hf.1 ha
  | box dp b n=>
   obtain ⟨g,vs,f,h1,h2,h3,h4⟩:=ha
   exact ⟨g,vs,f,h1,h2,OwnL.flat hf.1 h3,h4⟩
  | _=>exact ha
theorem roCv_sound {F:Nat→Prop} {G:Gh} {K:Nat→Prop} (hF:∀b,F b→G.F b) {t:Ty} {x:Ty.D E.S t} {v:Value} (h:RoV E W F t x v):CvR G K W (toCv E t x) v:=by
 cases t with
 | st n=>obtain ⟨vs,d,rfl,h⟩:=h;exact ⟨vs,rfl,toAts_sound hF h⟩
 | slice e t=>obtain ⟨d,h⟩:=h;exact toAt_sound (E:=E) (K:=K) hF h
 | int k=>obtain ⟨d,h⟩:=h;exact toAt_sound (E:=E) (K:=K) (t:=.int k) hF h
 | bool=>obtain ⟨d,h⟩:=h;exact toAt_sound (E:=E) (K:=K) (t:=.bool) hF h
 | str=>obtain ⟨d,h⟩:=h;exact toAt_sound (E:=E) (K:=K) (t:=.str) hF h
 | opq=>obtain ⟨d,h⟩:=h;exact toAt_sound (E:=E) (K:=K) (t:=.opq) hF h
 | rsl e t=>obtain ⟨d,h⟩:=h;exact toAt_sound (E:=E) (K:=K) (t:=.rsl e t) hF h
 | arr k n=>exact h
 | pbx b n=>trivial
theorem roCvs_sound {F:Nat→Prop} {G:Gh} {K:Nat→Prop} (hF:∀b,F b→G.F b):∀ {ts:List Ty} {x:HT E.S ts} {vs:List Value},RoVs E W F ts x vs→CvsR G K W (roCvs E ts x) vs
 | [],_,_,h=>h
 | _::_,_,_,⟨v,r,hv,ha,hr⟩=>⟨v,r,hv,roCv_sound hF ha,roCvs_sound hF hr⟩
theorem tup_sound {G:Gh} {K:Nat→Prop} {xs:List (Cv E)} {vs:List Value} (h:CvsR G K W xs vs):AVR G K W (tupOf xs) (tupV vs):=by
 match xs,h with
 | [],h=>rw [CvsR] at h;subst h;exact ⟨[],rfl,rfl⟩
 | [x],⟨v,r,hv,ha,hr⟩=>rw [CvsR] at hr;subst hr hv;exact ha
 | x::y::xs,h=>
  have h':=h
  obtain ⟨v,r,hv,ha,v2,r2,hv2,hr⟩:=h
  subst hv2 hv
  exact ⟨_,rfl,h'⟩
theorem lk_gones {m:List Nat} {i:Nat} {b:Blk E} (h:lk (m.map fun i=>(i,(.gone:Blk E))) i=some b):b = .gone∧i∈m:=by
 have:=lk_mem h
 simp only [List.mem_map,Prod.mk.injEq] at this
 obtain ⟨j,hj,rfl,rfl⟩:=this
 exact ⟨rfl,hj⟩
theorem lk_gones_none {m:List Nat} {i:Nat} (h:lk (m.map fun i=>(i,(.gone:Blk E))) i=none):i∉m:=by
 intro hi
 have:=mem_lk (U:=m.map fun i=>(i,(.gone:Blk E))) (i:=i) (b:=.gone) (List.mem_map.2 ⟨i,hi,rfl⟩)
 rw [h] at this;cases this
theorem meets_false {a b:List Nat} (h:meets a b=false):∀i∈a,i∉b:=by
 intro i hi hb
 have:meets a b=true:=List.any_eq_true.2 ⟨i,hi,List.any_eq_true.2 ⟨i,hb,Nat.beq_refl i⟩⟩
 rw [h] at this;cases this
theorem h_gones {U:Up E} {m:List Nat} {i:Nat} (hi:i∈m):St.h { S with H:=(m.map fun i=>(i,(.gone:Blk E)))++U++S.H } i=none:=by
 unfold St.h
 simp only [List.append_assoc,lk_append]
 cases hl:lk (m.map fun i=>(i,(.gone:Blk E))) i with
 | none=>exact absurd hi (lk_gones_none hl)
 | some b=>rw [(lk_gones hl).1]
theorem acall_sound (hS:Sim cx G S tm W) {s:Spec E} {f:FuncId} (hf:Sound P E f s) {fr lim:Nat} {vs:List (AV E)} {ws:List Value} (ha:AVsR G S.k W vs ws) {l l':List Nat} {r:Res E} (h:RM.Out S.h (acall s fr lim vs) l r l') (hnew:∀k,fr≤k→k<lim→lk S.H k=none) :
  Calls P f ws.toArray W fun e W'=>∃v G',e = .returned v∧Sim cx G' { S with H:=r.2++S.H } tm W'∧Ext G S.k W G' (St.k { S with H:=r.2++S.H }) W'∧AVR G' (St.k { S with H:=r.2++S.H }) W' r.1 v:=by
 unfold acall at h
 obtain ⟨q,l1,hq,h⟩:=RM.Out_bind h
 have hb':=RM.Out_bif h;clear h;obtain ⟨hnd,h⟩:=hb'
 simp only [Bool.and_eq_true,Bool.not_eq_true',Bool.or_eq_true] at hnd
 obtain ⟨⟨⟨hmn,hum⟩,hbm⟩,hfb⟩:=hnd
 have hmn:=nodupB_iff hmn
 have hum:=meets_false hum
 have hbm:=meets_false hbm
 obtain ⟨y,hy,h⟩:=h
 have hb':=RM.Out_bif h;clear h;obtain ⟨hroom,h⟩:=hb'
 have hroom:=Nat.le_of_ble_eq_true hroom
 obtain rfl:=h.1
 clear h
 let F0:Nat→Prop:=fun b=>G.F b∨(∃id c,(lk q.u id).isSome=true∧S.h id=some c∧Occ G id c b)∨∃id∈q.b,∃c,S.h id=some c∧Occ G id c b
 have hR:Reads G S F0 q.u q.b:=⟨fun k hk=>.inl hk,fun id c hl hc k ho=>.inr (.inl ⟨id,c,hl,hc,ho⟩),fun id hi c hc k ho=>.inr (.inr ⟨id,hi,c,hc,ho⟩)⟩
 obtain ⟨hfrz,fp,hin,hhand⟩:=inp_sound hS ha hq hR
 have hmut:=inp_mut hS hq
 have hfpn:=hhand.nodup hmn
 have hblk:=hhand.blks
 have hmw:=hhand.wr
 have hum':∀id,(lk q.u id).isSome=true→id∉q.m:=by
  intro id hl
  obtain ⟨b,hl⟩:=Option.isSome_iff_exists.1 hl
  exact hum id (List.mem_map.2 ⟨_,lk_mem hl,rfl⟩)
 have hown0:∀id c b,S.h id=some c→Occ G id c b→G.F b∨cx.W0.heap.size≤b∨cx.M b:=fun id c b hc ho=>by
  cases hz:c.fz with
  | true=>exact .inl (hS.sepF _ c b hc ho hz)
  | false=>exact .inr (hS.own _ c b hc ho hz)
 have hfpF:∀b∈fp,¬ F0 b:=by
  intro b hb
  obtain ⟨id,hid,c,hc,ho⟩:=hblk b hb
  obtain ⟨c',hc',hcz⟩:=hmw id hid
  rw [hc] at hc';cases hc'
  rintro (h | ⟨j,c',hl,hc',ho'⟩ | ⟨j,hj,c',hc',ho'⟩)
  ·exact hS.sep id c b hc ho hcz h
  ·exact hum' j hl (hS.inj j id c' c b hc' hc ho' ho▸hid)
  ·exact hbm j hj (hS.inj j id c' c b hc' hc ho' ho▸hid)
 have hFlt:∀b,F0 b→b<W.heap.size:=by
  rintro b (h | ⟨j,c',hl,hc',ho'⟩ | ⟨j,hj,c',hc',ho'⟩)
  ·exact hS.fr b h
  ·exact ho'.lt (hS.blks _ _ hc')
  ·exact ho'.lt (hS.blks _ _ hc')
 refine (hf.2 W _ q.x y ws fp hy hin hfpn hfpF hFlt).mono ?_
 rintro e W' ⟨v,rfl,hleft⟩
 obtain ⟨F',rs,fpR,fpO,rfl,hFF,hF',hres,hout,hnd2,hfree2⟩:=hleft.ex
 have hnob:s.fz=true→q.b=[]:=fun hz=>by
  rcases hfb with h | h
  ·rw [hz] at h;cases h
  ·simpa using h
 have hbase:Sim cx { G with F:=if s.fz then F' else G.F } { S with H:=(q.m.map fun i=>(i,(.gone:Blk E)))++(bif s.fz then q.u else [])++S.H } tm W'∧
   Ext G S.k W { G with F:=if s.fz then F' else G.F } (St.k { S with H:=(q.m.map fun i=>(i,(.gone:Blk E)))++(bif s.fz then q.u else [])++S.H }) W':=by
  have hkeepF:∀b,G.F b→W'.heap[b]? = W.heap[b]?:=fun b hb=>hleft.block b (hS.fr b hb) (fun h=>hfpF b h (.inl hb))
  refine hS.after _ _ ?_ ⟨hleft.os.trans hS.frm.os,hleft.tape.trans hS.frm.tape,hleft.output.trans hS.frm.output,Nat.le_trans hS.frm.size hleft.size,fun b hb hm=>?_⟩ ?_ hkeepF ?_ ?_ ?_
  ·intro id b hl
   rw [lk_append] at hl
   split at hl
   ·rename_i b' hl'
    cases hl
    exact .inl (lk_gones hl').1
   ·cases hz:s.fz with
    | false=>rw [hz] at hl;cases hl
    | true=>rw [hz] at hl;exact .inr (hfrz.keys id b hl)
  ·rw [hleft.block b (Nat.lt_of_lt_of_le hb hS.frm.size) ?_]
   ·exact hS.frm.block b hb hm
   ·intro hfp
    obtain ⟨id,hid,c,hc,ho⟩:=hblk b hfp
    obtain ⟨c',hc',hcz⟩:=hmw id hid
    rw [hc] at hc';cases hc'
    rcases hS.own id c b hc ho hcz with h | h
    ·omega
    ·exact hm h
  ·intro b hb
   split
   ·exact hFF b (.inl hb)
   ·exact hb
  ·intro b hb
   split at hb
   ·exact (hF' b hb).2
   ·exact Nat.lt_of_lt_of_le (hS.fr b hb) hleft.size
  ·intro b hb
   split at hb
   ·rcases (hF' b hb).1 with (h | ⟨j,c',hl,hc',ho'⟩ | ⟨j,hj,c',hc',ho'⟩) | h | h
    ·exact .inl h
    ·exact hown0 j c' b hc' ho'
    ·exact hown0 j c' b hc' ho'
    ·exact .inr (.inl (Nat.le_trans hS.frm.size h))
    ·obtain ⟨id,hid,c,hc,ho⟩:=hblk b h
     exact hown0 id c b hc ho
   ·exact .inl hb
  ·intro id b b0 k hb h0 ho0
   have hidm:id∉q.m:=fun h=>by rw [h_gones h] at hb;cases hb
   have hbb:b=b0∧(s.fz=true→lk q.u id=none)∨(s.fz=true∧(lk q.u id).isSome=true∧b.fz=true):=by
    unfold St.h at hb
    simp only [List.append_assoc,lk_append] at hb
    cases hl:lk (q.m.map fun i=>(i,(.gone:Blk E))) id with
    | some b'=>exact absurd (lk_gones hl).2 hidm
    | none=>
     rw [hl] at hb
     have hb0':=h_lk h0
     cases hz:s.fz with
     | false=>
      rw [hz] at hb
      simp only [cond_false] at hb
      have:S.h id=some b:=hb
      rw [h0] at this
      exact .inl ⟨(Option.some.inj this).symm,fun h=>by cases h⟩
     | true=>
      rw [hz] at hb
      simp only [cond_true] at hb
      cases hu:lk q.u id with
      | none=>
       rw [hu] at hb
       have:S.h id=some b:=hb
       rw [h0] at this
       exact .inl ⟨(Option.some.inj this).symm,fun _=>rfl⟩
      | some b'=>
       rw [hu] at hb
       obtain ⟨e,t,ys,rfl,h1⟩:=hfrz.keys id b' hu
       cases hb
       exact .inr ⟨rfl,rfl,rfl⟩
   have hkfp:k∉fp:=fun h=>by
    obtain ⟨id',hid',c,hc,ho'⟩:=hblk k h
    have:=hS.inj id id' b0 c k h0 hc ho0 ho'
    exact hidm (this▸hid')
   have hklt:k<W.heap.size:=ho0.lt (hS.blks id b0 h0)
   refine ⟨hleft.block k hklt hkfp,fun hz=>?_,fun hz=>?_⟩
   ·rcases hbb with ⟨rfl,_⟩ | ⟨hsz,hl,_⟩
    ·have:=hS.sepF id b k h0 ho0 hz
     split
     ·exact hFF k (.inl this)
     ·exact this
    ·rw [if_pos hsz]
     exact hFF k (.inr (.inl ⟨id,b0,hl,h0,ho0⟩))
   ·rcases hbb with ⟨rfl,hlu⟩ | ⟨hsz,hl,hbz⟩
    ·have hn:=hS.sep id b k h0 ho0 hz
     split
     ·rename_i hsz
      intro h
      rcases (hF' k h).1 with (h | ⟨j,c',hl,hc',ho'⟩ | ⟨j,hj,c',hc',ho'⟩) | h | h
      ·exact hn h
      ·have:=hS.inj j id c' b k hc' h0 ho' ho0
       subst this
       rw [hlu hsz] at hl;cases hl
      ·rw [hnob hsz] at hj;cases hj
      ·omega
      ·exact hkfp h
     ·exact hn
    ·rw [hz] at hbz;cases hbz
 obtain ⟨hS1,hE1⟩:=hbase
 generalize hS1d:({ S with H:=(q.m.map fun i=>(i,(.gone:Blk E)))++(bif s.fz then q.u else [])++S.H }:St E)=S1 at hS1 hE1
 have hflat:s.fz=false→s.own=true∧s.rs.all (noF E s.dp)=true∧s.ps.all (Par.flat E)=true:=by
  intro h
  unfold Spec.fz at h
  simp only [Bool.not_eq_false',Bool.and_eq_true] at h
  exact ⟨h.1.1,h.1.2,h.2⟩
 have hFsub:∀b,(if s.fz then F' else G.F) b→F' b:=by
  intro b hb
  split at hb
  ·exact hb
  ·exact hFF b (.inl hb)
 have hfree:∀b∈fpR++fpO,Free cx { G with F:=if s.fz then F' else G.F } S1 b:=by
  intro b hb
  obtain ⟨h1,h2⟩:=hfree2 b hb
  refine ⟨fun h=>h1 (hFsub b h),?_,?_⟩
  ·rcases h2 with h2 | h2
   ·obtain ⟨id,hid,c,hc,ho⟩:=hblk b h2
    obtain ⟨c',hc',hcz⟩:=hmw id hid
    rw [hc] at hc';cases hc'
    exact hS.own id c b hc ho hcz
   ·exact .inl (Nat.le_trans hS.frm.size h2)
  ·intro i c hc ho
   have hidm:i∉q.m:=fun h=>by rw [← hS1d,h_gones h] at hc;cases hc
   have:∃b0,S.h i=some b0∧Occ G i b0 b:=by
    rw [← hS1d] at hc
    unfold St.h at hc
    simp only [List.append_assoc,lk_append] at hc
    cases hl:lk (q.m.map fun i=>(i,(.gone:Blk E))) i with
    | some b'=>exact absurd (lk_gones hl).2 hidm
    | none=>
     rw [hl] at hc
     cases hz:s.fz with
     | false=>rw [hz] at hc;exact ⟨c,hc,ho⟩
     | true=>
      rw [hz] at hc
      simp only [cond_true] at hc
      cases hu:lk q.u i with
      | none=>rw [hu] at hc;exact ⟨c,hc,ho⟩
      | some b'=>
       rw [hu] at hc
       obtain ⟨e,t,ys,rfl,h3⟩:=hfrz.keys i b' hu
       cases hc
       rcases h3 with ⟨f,h3⟩ | ⟨hid,h3⟩
       ·exact ⟨_,h3,ho⟩
       ·exact ⟨_,h3,.inl ho⟩
   obtain ⟨b0,h0,ho0⟩:=this
   rcases h2 with h2 | h2
   ·obtain ⟨id',hid',c',hc',ho'⟩:=hblk b h2
    exact hidm (hS.inj i id' b0 c' b h0 hc' ho0 ho'▸hid')
   ·have:=ho0.lt (hS.blks i b0 h0);omega
 have hout':OutPs E W' (if s.fz then F' else G.F) s.ps (s.out y) ws fpO:=by
  cases hz:s.fz with
  | true=>simpa using hout
  | false=>simpa using hout.flat (hflat hz).2.2
 obtain ⟨hnR,hnO,hdRO⟩:=List.nodup_append.1 hnd2
 have hkeys:∀k,fr≤k→k<lim→lk S1.H k=none:=by
  intro k h1 h2
  have hk0:=hnew k h1 h2
  rw [← hS1d]
  simp only [List.append_assoc,lk_append]
  have hSk:∀b,S.h k=some b→False:=fun b hb=>by unfold St.h at hb;rw [hk0] at hb;cases hb
  cases hl:lk (q.m.map fun i=>(i,(.gone:Blk E))) k with
  | some b'=>
   obtain ⟨c,hc,_⟩:=hmw k (lk_gones hl).2
   exact (hSk c hc).elim
  | none=>
   cases hz:s.fz with
   | false=>exact hk0
   | true=>
    simp only [cond_true]
    cases hu:lk q.u k with
    | none=>exact hk0
    | some b'=>
     obtain ⟨e,t,ys,_,h3⟩:=hfrz.keys k b' hu
     rcases h3 with ⟨f,h3⟩ | ⟨hid,h3⟩<;>exact (hSk _ h3).elim
 have hgone:∀i∈q.m,S1.h i=none∧S1.k i:=fun i hi=>⟨by rw [← hS1d];exact h_gones hi,by
  obtain ⟨c,hc,_⟩:=hmw i hi
  exact hE1.K i (St.h_k hc)⟩
 cases hown:s.own with
 | true=>
  rw [hown] at hres hroom
  simp only [if_true,cond_true] at hres hroom ⊢
  have le1:=newCvs_le s.dp s.rs (s.res y) fr
  have le2:=outp_le s.ps (s.out y) vs (newCvs E s.dp s.rs (s.res y) fr).2.2
  obtain ⟨G2,i1,i2,i3,i4,i5⟩:=outp_sound (fr:=(newCvs E s.dp s.rs (s.res y) fr).2.2) hS1 hout' hnO (fun b hb=>hfree b (by simp [hb])) (MutPs.ext hE1 (fun i hi=>by obtain ⟨c,hc,_⟩:=hmw i hi;exact St.h_k hc) hmut) ⟨W',AVsR.ext hE1 ha⟩ hmn hgone (fun k h1 h2=>hkeys k (by omega) (by omega))
  have hres':OwnEs E W' G2.F s.dp s.rs (s.res y) rs fpR:=by
   rw [i3]
   cases hz:s.fz with
   | true=>simpa using hres
   | false=>simpa using hres.flat (hflat hz).2.1
  obtain ⟨G3,j1,j2,j3,j4,j5⟩:=newCvs_sound (fr:=fr) i1 hres' hnR (fun b hb=>i4 b (fun h2=>hdRO b hb b h2 rfl) (hfree b (by simp [hb]))) (fun k h1 h2=>by
   show lk (_++S1.H) k=none
   have:lk (outp E s.ps (s.out y) vs (newCvs E s.dp s.rs (s.res y) fr).2.2).1 k=none:=i5 k (fun h=>by
    obtain ⟨c,hc,_⟩:=hmw k h
    have:=hnew k h1 (by omega)
    unfold St.h at hc;rw [this] at hc;cases hc) (.inl h2)
   rw [lk_append,this]
   exact hkeys k h1 (by omega))
  have hH:∀(A B C D:Up E),A++(B++(C++D))++S.H=A++(B++(C++D++S.H)):=by intros;simp
  refine ⟨_,G3,rfl,?_,?_,?_⟩
  ·rw [hH];rw [← hS1d] at j1;exact j1
  ·have:=(hE1.trans i2).trans j2
   rw [hH];rw [← hS1d] at this;exact this
  ·have:=tup_sound j4
   rw [hH];rw [← hS1d] at this;exact this
 | false=>
  rw [hown] at hres hroom
  simp only [cond_false,Bool.false_eq_true,if_false] at hres hroom ⊢
  have hz:s.fz=true:=by unfold Spec.fz;rw [hown];rfl
  obtain ⟨G2,i1,i2,i3,i4,i5⟩:=outp_sound (fr:=fr) hS1 hout' hnO (fun b hb=>hfree b (by simp [hb])) (MutPs.ext hE1 (fun i hi=>by obtain ⟨c,hc,_⟩:=hmw i hi;exact St.h_k hc) hmut) ⟨W',AVsR.ext hE1 ha⟩ hmn hgone (fun k h1 h2=>hkeys k (by omega) (by omega))
  have hH:∀(B C D:Up E),[]++(B++(C++D))++S.H=B++(C++D++S.H):=by intros;simp
  have hFs:∀b,F' b→G2.F b:=fun b hb=>by rw [i3];show (if s.fz then F' else G.F) b;rw [if_pos hz];exact hb
  refine ⟨_,G2,rfl,?_,?_,?_⟩
  ·rw [hH];rw [← hS1d] at i1;exact i1
  ·have:=hE1.trans i2
   rw [hH];rw [← hS1d] at this;exact this
  ·exact tup_sound (roCvs_sound hFs hres.1)
end Mir
namespace Mir
set_option linter.unusedVariables false
set_option linter.unusedSimpArgs false
open Go
variable {E:Env} {P:Program} {T:Tb} {cx:Cx} {G G':Gh} {S:St E} {tm:Array Value} {a:Act} {W W':World}
theorem ofAt_toAt {t:Ty} {x:Ty.D E.S t} {l l':List Nat} {d:Ty.D E.S t} (h:RM.Out S.h (ofAt E t (toAt E t x)) l d l'):d=x:=by
 cases t with
 | int k=>exact (RM.Out_bif h).2.1
 | bool=>exact h.1
 | str=>exact h.1
 | opq=>exact h.1
 | slice e t=>obtain ⟨_,ht,hd⟩:=castR_sound h;exact hd
 | rsl e t=>obtain ⟨_,ht,hd⟩:=castR_sound h;exact hd
 | st n=>exact h.elim
 | arr k n=>exact h.elim
 | pbx b n=>exact h.elim
theorem ofAts_toAts:∀ {ts:List Ty} {h:HT E.S ts} {l l':List Nat} {d:HT E.S ts},RM.Out S.h (ofAts E ts (toAts E ts h)) l d l'→d=h
 | [],_,_,_,_,_=>rfl
 | t::ts,h,_,_,d,ho=>by
  obtain ⟨y,l1,h1,ho⟩:=RM.Out_bind ho
  obtain ⟨z,l2,h2,ho⟩:=RM.Out_bind ho
  obtain rfl:=ho.1
  rw [ofAt_toAt h1,ofAts_toAts h2]
def SimpR:At E→Value→Prop
 | .int k n,v=>v = .int k n
 | .bool b,v=>v = .bool b
 | .str s,v=>v = .string s
 | _,_=>False
theorem SimpR.deep {d:Nat} {t:Ty} {x:At E} {v:Value} (h:SimpR x v) {l l':List Nat} {y:Ty.D E.S t} (ho:RM.Out S.h (ofAt E t x) l y l'):DeepA E W d t y v []:=by
 cases x with
 | int k n=>
  cases t with
  | int k'=>
   have hb':=RM.Out_bif ho;clear ho;obtain ⟨hk,ho⟩:=hb'
   obtain rfl:=ikEq_eq hk
   obtain rfl:=ho.1
   cases d<;>exact ⟨h,rfl⟩
  | _=>exact ho.elim
 | bool b=>
  cases t with
  | bool=>obtain rfl:=ho.1;cases d<;>exact ⟨h,rfl⟩
  | _=>exact ho.elim
 | str s=>
  cases t with
  | str=>obtain rfl:=ho.1;cases d<;>exact ⟨h,rfl⟩
  | _=>exact ho.elim
 | _=>exact h.elim
theorem SimpR.none {d:Nat} {t:Ty} {x:At E} {v v0:Value} {f:List Nat} {y0:Ty.D E.S t} (h:SimpR x v) {l l':List Nat} {y:Ty.D E.S t} (ho:RM.Out S.h (ofAt E t x) l y l') (h0:DeepA E W d t y0 v0 f):f=[]:=by
 cases x with
 | int k n=>cases t with
  | int k'=>cases d<;>exact h0.2
  | _=>exact ho.elim
 | bool b=>cases t with
  | bool=>cases d<;>exact h0.2
  | _=>exact ho.elim
 | str s=>cases t with
  | str=>cases d<;>exact h0.2
  | _=>exact ho.elim
 | _=>exact h.elim
theorem SimpR.of {K:Nat→Prop} {x:At E} {v:Value} (h:AtR G K W x v) (hs:simpAt x=true):SimpR x v:=by
 cases x<;>first | exact h | cases hs
theorem DeepL.upd {d:Nat}:∀ {ts:List Ty} {h h':HT E.S ts} {vs vs':List Value} {fp:List Nat} {xs:List (At E)} {l l':List Nat},DeepL E (DeepA E W d) ts h vs fp→vs'.length=ts.length→
  (∀c,c<ts.length→(xs[c]? = (toAts E ts h)[c]?∧vs'[c]? = vs[c]?)∨∃x w,xs[c]? = some x∧vs'[c]? = some w∧SimpR x w)→RM.Out S.h (ofAts E ts xs) l h' l'→DeepL E (DeepA E W d) ts h' vs' fp
 | [],_,_,_,vs',_,_,_,_,hd,hl,_,_=>⟨List.eq_nil_of_length_eq_zero hl,hd.2⟩
 | t::ts,h,h',vs,vs',fp,xs,_,_,⟨v,r,f1,f2,hv,hf,ha,hr⟩,hl,hc,ho=>by
  cases xs with
  | nil=>exact ho.elim
  | cons x xs=>
   cases vs' with
   | nil=>cases hl
   | cons v' vs'=>
    obtain ⟨y,l1,h1,ho⟩:=RM.Out_bind ho
    obtain ⟨z,l2,h2,ho⟩:=RM.Out_bind ho
    obtain rfl:=ho.1
    subst hv hf
    have hr':=DeepL.upd (vs':=vs') hr (by simpa using hl) (fun c hc'=>by simpa [toAts] using hc (c+1) (by simpa using hc')) h2
    rcases hc 0 (by simp) with ⟨e1,e2⟩ | ⟨x',w,e1,e2,e3⟩
    ·simp only [List.getElem?_cons_zero,toAts,Option.some.injEq] at e1 e2
     subst e1 e2
     exact ⟨v',vs',f1,f2,rfl,rfl,by rw [ofAt_toAt h1];exact ha,hr'⟩
    ·simp only [List.getElem?_cons_zero,Option.some.injEq] at e1 e2
     subst e1 e2
     obtain rfl:=e3.none h1 ha
     exact ⟨v',vs',[],f2,rfl,rfl,e3.deep h1,hr'⟩
theorem DeepL.hole {d e:Nat} {t:Ty} {ys:List (Ty.D E.S t)}:∀ {ts:List Ty} {h:HT E.S ts} {vs:List Value} {fp:List Nat} {c:Nat},DeepL E (DeepA E W d) ts h vs fp→(toAts E ts h)[c]? = some (.ro e t ys)→
  ∃v f2 fh,vs[c]? = some v∧DeepA E W d (.slice e t) ys v f2∧DeepH E (DeepA E W d) ts h vs c fh∧fp.Perm (f2++fh)
 | [],_,_,_,_,_,hc=>by simp [toAts] at hc
 | t'::ts,h,_,_,0,⟨v,r,f1,f2,hv,hf,ha,hr⟩,hc=>by
  simp only [toAts,List.getElem?_cons_zero,Option.some.injEq] at hc
  cases t' with
  | slice e' t'=>cases hc;exact ⟨v,f1,f2,by rw [hv];rfl,ha,⟨v,r,hv,⟨_,_,rfl⟩,hr⟩,by rw [hf]⟩
  | rsl e' t'=>cases d<;>exact ha.elim
  | _=>cases hc
 | t'::ts,h,_,_,c+1,⟨v,r,f1,f2,hv,hf,ha,hr⟩,hc=>by
  simp only [toAts,List.getElem?_cons_succ] at hc
  obtain ⟨w,g2,gh,h1,h2,h3,h4⟩:=DeepL.hole hr hc
  refine ⟨w,g2,f1++gh,by rw [hv];simpa using h1,h2,⟨v,r,f1,gh,hv,rfl,ha,h3⟩,?_⟩
  rw [hf]
  exact (h4.append_left f1).trans (List.perm_append_comm_assoc f1 g2 gh)
theorem DeepH.fill {d e:Nat} {t:Ty} {ys:List (Ty.D E.S t)} {v:Value} {f2:List Nat} (hv:DeepA E W d (.slice e t) ys v f2):∀ {ts:List Ty} {h h':HT E.S ts} {vs:List Value} {c:Nat} {fh:List Nat} {l l':List Nat},DeepH E (DeepA E W d) ts h vs c fh→vs[c]? = some v→
  RM.Out S.h (ofAts E ts ((toAts E ts h).set c (.ro e t ys))) l h' l'→∃fp,DeepL E (DeepA E W d) ts h' vs fp∧fp.Perm (f2++fh)
 | [],_,_,_,_,_,_,_,hh,_,_=>hh.elim
 | t'::ts,h,h',_,0,fh,_,_,⟨w,r,hw,⟨e',t'',ht⟩,hr⟩,hc,ho=>by
  subst hw ht
  simp only [List.getElem?_cons_zero,Option.some.injEq] at hc
  subst hc
  simp only [toAts,List.set_cons_zero] at ho
  obtain ⟨y,l1,h1,ho⟩:=RM.Out_bind ho
  obtain ⟨z,l2,h2,ho⟩:=RM.Out_bind ho
  obtain rfl:=ho.1
  obtain ⟨rfl,rfl,rfl⟩:=castR_sound h1
  rw [ofAts_toAts h2]
  exact ⟨f2++fh,⟨w,r,f2,fh,rfl,rfl,hv,hr⟩,List.Perm.refl _⟩
 | t'::ts,h,h',_,c+1,_,_,_,⟨w,r,f1,g,hw,hf,ha,hr⟩,hc,ho=>by
  subst hw hf
  simp only [toAts,List.set_cons_succ] at ho
  obtain ⟨y,l1,h1,ho⟩:=RM.Out_bind ho
  obtain ⟨z,l2,h2,ho⟩:=RM.Out_bind ho
  obtain rfl:=ho.1
  obtain ⟨fp,i1,i2⟩:=DeepH.fill hv hr (by simpa using hc) h2
  exact ⟨f1++fp,⟨w,r,f1,fp,rfl,rfl,by rw [ofAt_toAt h1];exact ha,i1⟩,(i2.append_left f1).trans (List.perm_append_comm_assoc f1 f2 g)⟩
theorem DeepL.raise {d d':Nat} (hd:d≤d') {ts:List Ty} {h:HT E.S ts} {vs:List Value} {fp:List Nat} (hW:∀k∈fp,W'.heap[k]? = W.heap[k]?) (H:DeepL E (DeepA E W d) ts h vs fp):DeepL E (DeepA E W' d') ts h vs fp:=
 DeepL.same (fun t x v fp hk h=>DeepA.same d d' hd t x v fp hk h) hW H
theorem DeepE.raise {d d':Nat} (hd:d≤d') {t:Ty} {x:Ty.D E.S t} {vs:List Value} {fp:List Nat} (hW:∀k∈fp,W'.heap[k]? = W.heap[k]?) (H:DeepE E (DeepA E W d) t x vs fp):DeepE E (DeepA E W' d') t x vs fp:=
 DeepE.same (fun t x v fp hk h=>DeepA.same d d' hd t x v fp hk h) hW H
theorem DeepH.raise {d d':Nat} (hd:d≤d') {ts:List Ty} {h:HT E.S ts} {vs:List Value} {c:Nat} {fp:List Nat} (hW:∀k∈fp,W'.heap[k]? = W.heap[k]?) (H:DeepH E (DeepA E W d) ts h vs c fp):DeepH E (DeepA E W' d') ts h vs c fp:=
 DeepH.same (fun t x v fp hk h=>DeepA.same d d' hd t x v fp hk h) hW H
theorem RoA.simpleDeep {F:Nat→Prop} {d:Nat} {t:Ty} {x:Ty.D E.S t} {v:Value} (hf:(match t with | .slice _ _=>false | .rsl _ _=>false | _=>true)=true) (h:RoA E W F d t x v):DeepA E W d t x v []:=by
 cases t with
 | slice e t=>cases hf
 | rsl e t=>cases hf
 | int k=>cases d<;>exact ⟨h,rfl⟩
 | bool=>cases d<;>exact ⟨h,rfl⟩
 | str=>cases d<;>exact ⟨h,rfl⟩
 | opq=>cases d<;>exact ⟨h,rfl⟩
 | st n=>cases d<;>exact h
 | arr k n=>cases d<;>exact h
 | pbx b n=>cases d<;>exact h
theorem RoL.simpleDeep {F:Nat→Prop} {d:Nat}:∀ {ts:List Ty} {x:HT E.S ts} {vs:List Value},(ts.all fun | .slice _ _=>false | .rsl _ _=>false | _=>true)=true→RoL E (RoA E W F d) ts x vs→DeepL E (DeepA E W d) ts x vs []
 | [],_,_,_,h=>⟨h,rfl⟩
 | t::ts,_,_,hf,⟨v,r,hv,ha,hr⟩=>by
  simp only [List.all_cons,Bool.and_eq_true] at hf
  exact ⟨v,r,[],[],hv,rfl,ha.simpleDeep (by cases t<;>first | rfl | (exact hf.1)),hr.simpleDeep hf.2⟩
theorem RoE.simpleDeep {F:Nat→Prop} {d:Nat} {t:Ty} {x:Ty.D E.S t} {vs:List Value} (hf:t.flat1 E=true) (h:RoE E (RoA E W F d) t x vs):DeepE E (DeepA E W d) t x vs []:=by
 cases t with
 | st n=>exact RoL.simpleDeep hf h
 | slice e t=>cases hf
 | rsl e t=>cases hf
 | int k=>obtain ⟨v,hv,h⟩:=h;exact ⟨v,hv,h.simpleDeep rfl⟩
 | bool=>obtain ⟨v,hv,h⟩:=h;exact ⟨v,hv,h.simpleDeep rfl⟩
 | str=>obtain ⟨v,hv,h⟩:=h;exact ⟨v,hv,h.simpleDeep rfl⟩
 | opq=>obtain ⟨v,hv,h⟩:=h;exact ⟨v,hv,h.simpleDeep rfl⟩
 | arr k n=>obtain ⟨v,hv,h⟩:=h;exact ⟨v,hv,h.simpleDeep rfl⟩
 | pbx b n=>obtain ⟨v,hv,h⟩:=h;exact ⟨v,hv,h.simpleDeep rfl⟩
theorem flatten_nils (n:Nat):(List.replicate n ([]:List Nat)).flatten=[]:=by
 induction n with
 | zero=>rfl
 | succ n ih=>rw [List.replicate_succ,List.flatten_cons,ih];rfl
theorem getD_nils (n i:Nat):(List.replicate n ([]:List Nat)).getD i []=[]:=by
 rw [List.getD_eq_getElem?_getD,List.getElem?_replicate]
 split<;>rfl
theorem ShA.deep {F:Nat→Prop} {e:Nat} {t:Ty} {xs:List (Ty.D E.S t)} {v:Value} {fp:List Nat} (hf:t.flat1 E=true) (h:ShA E W F e t xs v fp):∃d,DeepA E W d (.slice e t) xs v fp:=by
 rcases h with ⟨A,h1,h2,h3⟩ | ⟨g,cap,cur,d,h1,h2,h3,h4,h5,h6,h7,h8⟩
 ·exact ⟨1,.inl ⟨A,h1,h2,h3⟩⟩
 ·exact ⟨d+1,.inr ⟨g,cap,cur,List.replicate xs.length [],h1,by rw [flatten_nils,h2],h3,h4,h5,h6,h7,by simp,fun i hi=>by rw [getD_nils];exact (h8 i hi).simpleDeep hf⟩⟩
theorem OwnA.deep {F:Nat→Prop} {t:Ty} {x:Ty.D E.S t} {v:Value} {fp:List Nat} (hr:(match t with | .rsl _ _=>false | _=>true)=true) (h:OwnA E W F true t x v fp):∃d,DeepA E W d t x v fp:=by
 cases t with
 | int k=>exact ⟨0,h⟩
 | bool=>exact ⟨0,h⟩
 | str=>exact ⟨0,h⟩
 | opq=>exact ⟨0,h⟩
 | slice e t=>
  have h:RwA E W F (true && !t.flat1 E) e t x v fp:=h
  cases hf:t.flat1 E with
  | true=>rw [hf] at h;exact ShA.deep hf h
  | false=>rw [hf] at h;exact h.2
 | rsl e t=>cases hr
 | st n=>exact h.elim
 | arr k n=>exact h.elim
 | pbx b n=>exact h.elim
theorem OwnL.deep {F:Nat→Prop}:∀ {ts:List Ty} {h:HT E.S ts} {vs:List Value} {fp:List Nat},(ts.all fun | .rsl _ _=>false | _=>true)=true→OwnL E W F true ts h vs fp→∃d,DeepL E (DeepA E W d) ts h vs fp
 | [],_,_,_,_,h=>⟨0,h⟩
 | t::ts,_,_,_,hf,⟨v,r,f1,f2,hv,hfp,ha,hr⟩=>by
  simp only [List.all_cons,Bool.and_eq_true] at hf
  obtain ⟨d1,h1⟩:=OwnA.deep (by cases t<;>first | rfl | (exact hf.1)) ha
  obtain ⟨d2,h2⟩:=OwnL.deep hf.2 hr
  exact ⟨max d1 d2,v,r,f1,f2,hv,hfp,DeepA.same d1 _ (Nat.le_max_left _ _) _ _ _ _ (fun _ _=>rfl) h1,h2.raise (Nat.le_max_right _ _) (fun _ _=>rfl)⟩
def DeepC (E:Env) (W:World) (d:Nat) (t:Ty) (xs:List (Ty.D E.S t)) (cs:List Value) (fps:List (List Nat)):Prop:=
 cs.length=xs.length * tsz E t∧fps.length=xs.length∧∀(i:Nat) (hi:i<xs.length),DeepE E (DeepA E W d) t xs[i] (seg cs i (tsz E t)) (fps.getD i [])
theorem getD_mem {fps:List (List Nat)} {j k:Nat} (hk:k∈fps.getD j []):k∈fps.flatten:=by
 by_cases hj:j<fps.length
 ·rw [List.getD_eq_getElem?_getD,List.getElem?_eq_getElem hj] at hk
  exact List.mem_flatten.2 ⟨_,List.getElem_mem hj,hk⟩
 ·rw [List.getD_eq_getElem?_getD,List.getElem?_eq_none (by omega)] at hk
  cases hk
theorem DeepC.raise {d d':Nat} (hd:d≤d') {t:Ty} {xs:List (Ty.D E.S t)} {cs:List Value} {fps:List (List Nat)} (hW:∀k∈fps.flatten,W'.heap[k]? = W.heap[k]?) (h:DeepC E W d t xs cs fps):DeepC E W' d' t xs cs fps:=
 ⟨h.1,h.2.1,fun i hi=>(h.2.2 i hi).raise hd (fun k hk=>hW k (getD_mem hk))⟩
theorem DeepC.nil {d:Nat} {t:Ty}:DeepC E W d t ([]:List (Ty.D E.S t)) [] []:=⟨by simp,rfl,fun i hi=>absurd hi (by simp)⟩
theorem DeepC.append {d:Nat} {t:Ty} {xs ys:List (Ty.D E.S t)} {cs ds:List Value} {fps gps:List (List Nat)} (h:DeepC E W d t xs cs fps) (k:DeepC E W d t ys ds gps):DeepC E W d t (xs++ys) (cs++ds) (fps++gps):=by
 refine ⟨by rw [List.length_append,List.length_append,h.1,k.1,Nat.add_mul],by rw [List.length_append,List.length_append,h.2.1,k.2.1],fun i hi=>?_⟩
 by_cases hx:i<xs.length
 ·rw [List.getElem_append_left hx,seg_append_left]
  ·have:=h.2.2 i hx
   rwa [List.getD_eq_getElem?_getD,List.getElem?_append_left (by rw [h.2.1];exact hx),← List.getD_eq_getElem?_getD]
  ·rw [h.1]
   have:(i+1) * tsz E t≤xs.length * tsz E t:=Nat.mul_le_mul_right _ hx
   rw [Nat.add_mul] at this
   omega
 ·rw [List.getElem_append_right (by omega)]
  have hi':i - xs.length<ys.length:=by simp at hi;omega
  have:=k.2.2 (i - xs.length) hi'
  have he:seg (cs++ds) i (tsz E t)=seg ds (i - xs.length) (tsz E t):=by
   apply List.ext_getElem?
   intro j
   rw [seg_get,seg_get]
   by_cases hj:j<tsz E t
   ·rw [if_pos hj,if_pos hj,List.getElem?_append_right (by rw [h.1];have:=Nat.mul_le_mul_right (tsz E t) (show xs.length≤i by omega);omega)]
    congr 1
    rw [h.1,Nat.sub_mul]
    have:=Nat.mul_le_mul_right (tsz E t) (show xs.length≤i by omega)
    omega
   ·rw [if_neg hj,if_neg hj]
  rw [he]
  rwa [List.getD_eq_getElem?_getD,List.getElem?_append_right (by rw [h.2.1];omega),← List.getD_eq_getElem?_getD,h.2.1]
theorem DeepC.one {d n:Nat} {x:E.S n} {vs:List Value} {fp:List Nat} (h:DeepL E (DeepA E W d) (E.fl n) (E.opn n x) vs fp) (hl:vs.length=(E.fl n).length):DeepC E W d (.st n) [x] vs [fp]:=by
 refine ⟨by simp [tsz,hl],rfl,fun i hi=>?_⟩
 obtain rfl:i=0:=by simp at hi;omega
 have:seg vs 0 (tsz E (.st n))=vs:=by unfold seg;simp [tsz,← hl]
 rw [this]
 exact h
theorem DeepC.row {d:Nat} {t:Ty} {xs:List (Ty.D E.S t)} {cs tail:List Value} {fps:List (List Nat)} (h:DeepC E W d t xs cs fps):DeepR E (DeepA E W d) t xs (cs++tail) fps:=by
 refine ⟨h.2.1,fun i hi=>?_⟩
 rw [row_seg,seg_append_left]
 ·exact h.2.2 i hi
 ·rw [h.1]
  have:(i+1) * tsz E t≤xs.length * tsz E t:=Nat.mul_le_mul_right _ hi
  rw [Nat.add_mul] at this
  omega
theorem DeepR.cells {d cap:Nat} {t:Ty} {xs:List (Ty.D E.S t)} {cur:Array Value} {fps:List (List Nat)} (hcur:cap * tsz E t≤cur.size) (hlen:xs.length≤cap) (h:DeepR E (DeepA E W d) t xs cur.toList fps):DeepC E W d t xs (cur.toList.take (xs.length * tsz E t)) fps:=by
 have hm:xs.length * tsz E t≤cap * tsz E t:=Nat.mul_le_mul_right _ hlen
 refine ⟨by simp;omega,h.1,fun i hi=>?_⟩
 have he:seg (cur.toList.take (xs.length * tsz E t)) i (tsz E t)=seg cur.toList i (tsz E t):=by
  apply List.ext_getElem?
  intro j
  rw [seg_get,seg_get]
  by_cases hj:j<tsz E t
  ·rw [if_pos hj,if_pos hj,List.getElem?_take,if_pos]
   have:(i+1) * tsz E t≤xs.length * tsz E t:=Nat.mul_le_mul_right _ hi
   rw [Nat.add_mul] at this
   omega
  ·rw [if_neg hj,if_neg hj]
 rw [he]
 exact h.2 i hi
theorem zcells_deep {d:Nat} {n:Nat} {z:Array Value} {x:E.S n} (h:DeepL E (DeepA E W d) (E.fl n) (E.opn n x) z.toList []) (hz:z.size=tsz E (.st n)) (h0:0<tsz E (.st n)) (m:Nat):DeepC E W d (.st n) (List.replicate m x) (zcells z m) (List.replicate m []):=by
 refine ⟨by simp [zcells,hz],by simp,fun i hi=>?_⟩
 have hi':i<m:=by simpa using hi
 have hs:seg (zcells z m) i (tsz E (.st n))=z.toList:=by
  apply List.ext_getElem?
  intro j
  rw [seg_get]
  by_cases hj:j<tsz E (.st n)
  ·rw [if_pos hj]
   have hlt:i * tsz E (.st n)+j<m * tsz E (.st n):=by
    have:(i+1) * tsz E (.st n)≤m * tsz E (.st n):=Nat.mul_le_mul_right _ hi'
    rw [Nat.add_mul] at this
    omega
   have hmod:(i * tsz E (.st n)+j) % tsz E (.st n)=j:=by rw [Nat.mul_comm,Nat.mul_add_mod,Nat.mod_eq_of_lt hj]
   unfold zcells
   rw [hz]
   have hzj:j<z.size:=by rw [hz];exact hj
   simp [hlt,hmod,hzj]
  ·rw [if_neg hj,List.getElem?_eq_none (by simp;omega)]
 rw [hs,List.getElem_replicate,getD_nils]
 exact h
theorem flatten_set:∀ {l:List (List Nat)} {i:Nat} (hi:i<l.length) (a:List Nat),(l.set i a).flatten.Perm (a++(l.set i []).flatten)
 | b::l,0,_,a=>by simp
 | b::l,i+1,hi,a=>by
  simp only [List.set_cons_succ,List.flatten_cons]
  exact ((flatten_set (l:=l) (i:=i) (by simpa using hi) a).append_left b).trans (List.perm_append_comm_assoc b a _)
theorem flatten_get {l:List (List Nat)} {i:Nat} (hi:i<l.length):l.flatten.Perm (l.getD i []++(l.set i []).flatten):=by
 have:=flatten_set hi l[i]
 rw [List.set_getElem_self] at this
 rwa [List.getD_eq_getElem?_getD,List.getElem?_eq_getElem hi]
theorem Sim.release (hS:Sim cx G S tm W) (m:List Nat) (hm:∀i∈m,∃b,S.h i=some b∧b.fz=false)
  (hW:∀k,k<W.heap.size→(∃i∈m,∃b,S.h i=some b∧Occ G i b k)∨W'.heap[k]? = W.heap[k]?) (hsize:W.heap.size≤W'.heap.size) (hos:W'.os=W.os∧W'.tape=W.tape∧W'.output=W.output) :
  Sim cx G { S with H:=gones m++S.H } tm W'∧Ext G S.k W G (St.k { S with H:=gones (E:=E) m++S.H }) W'∧
   (∀k,(W.heap.size≤k∨∃i∈m,∃b,S.h i=some b∧Occ G i b k)→Free cx G { S with H:=gones m++S.H } k):=by
 have hnF:∀k,(∃i∈m,∃b,S.h i=some b∧Occ G i b k)→¬ G.F k:=by
  rintro k ⟨i,hi,b,hb,ho⟩
  obtain ⟨b',hb',hz⟩:=hm i hi
  rw [hb] at hb';cases hb'
  exact hS.sep i b k hb ho hz
 have hown:∀k,(∃i∈m,∃b,S.h i=some b∧Occ G i b k)→cx.W0.heap.size≤k∨cx.M k:=by
  rintro k ⟨i,hi,b,hb,ho⟩
  obtain ⟨b',hb',hz⟩:=hm i hi
  rw [hb] at hb';cases hb'
  exact hS.own i b k hb ho hz
 have hWF:∀b,G.F b→W'.heap[b]? = W.heap[b]?:=fun b hb=>(hW b (hS.fr b hb)).resolve_left fun h=>hnF b h hb
 have hh:∀i b,St.h { S with H:=gones m++S.H } i=some b→i∉m∧S.h i=some b:=by
  intro i b h
  have him:i∉m:=fun hi=>by
   have:=h_gones (S:=S) (U:=[]) hi
   simp only [List.append_nil] at this
   unfold gones at h
   rw [this] at h;cases h
  refine ⟨him,?_⟩
  unfold St.h at h ⊢
  simp only [lk_append] at h
  have:lk (gones (E:=E) m) i=none:=by
   cases hl:lk (gones (E:=E) m) i with
   | none=>rfl
   | some c=>exact absurd (lk_gones hl).2 him
  rw [this] at h
  exact h
 obtain ⟨h1,h2⟩:=hS.after (W':=W') (gones m) G.F (fun id b hl=>.inl (lk_gones hl).1) ⟨hos.1.trans hS.frm.os,hos.2.1.trans hS.frm.tape,hos.2.2.trans hS.frm.output,Nat.le_trans hS.frm.size hsize,fun b hb hm'=>by
   rcases hW b (Nat.lt_of_lt_of_le hb hS.frm.size) with h | h
   ·rcases hown b h with h | h
    ·omega
    ·exact absurd h hm'
   ·rw [h];exact hS.frm.block b hb hm'⟩ (fun _ h=>h) hWF (fun b hb=>Nat.lt_of_lt_of_le (hS.fr b hb) hsize) (fun b hb=>.inl hb)
  (fun id b b0 k hb h0 ho=>by
   obtain ⟨him,hb'⟩:=hh id b hb
   rw [h0] at hb';cases hb'
   refine ⟨(hW k (ho.lt (hS.blks id _ h0))).resolve_left ?_,hS.sepF id _ k h0 ho,hS.sep id _ k h0 ho⟩
   rintro ⟨i,hi,c,hc,ho'⟩
   exact him (hS.inj i id c _ k hc h0 ho' ho▸hi))
 refine ⟨h1,h2,fun k hk=>⟨?_,?_,fun i b hb ho=>?_⟩⟩
 ·rcases hk with hk | hk
  ·intro h;have:=hS.fr k h;omega
  ·exact hnF k hk
 ·rcases hk with hk | hk
  ·exact .inl (Nat.le_trans hS.frm.size hk)
  ·exact hown k hk
 ·obtain ⟨him,hb'⟩:=hh i b hb
  rcases hk with hk | ⟨j,hj,c,hc,ho'⟩
  ·have:=ho.lt (hS.blks i b hb');omega
  ·exact him (hS.inj j i c b k hc hb' ho' ho▸hj)
theorem gones_none {m:List Nat} {i:Nat} (h:i∉m):lk (gones (E:=E) m) i=none:=by
 cases hl:lk (gones (E:=E) m) i with
 | none=>rfl
 | some c=>exact absurd (lk_gones hl).2 h
theorem gones_h {m:List Nat} {i:Nat} (h:i∈m):St.h { S with H:=gones m++S.H } i=none:=by
 have:=h_gones (S:=S) (U:=[]) h
 simpa [gones] using this
theorem fresh_not {m:List Nat} (hm:∀i∈m,∃b,S.h i=some b∧b.fz=false) {fr:Nat} (hf:lk S.H fr=none):fr∉m:=by
 intro h
 obtain ⟨b,hb,_⟩:=hm fr h
 have:=St.h_k hb
 unfold St.k at this
 rw [hf] at this;cases this
theorem fresh_gones {m:List Nat} (hm:∀i∈m,∃b,S.h i=some b∧b.fz=false) {fr:Nat} (hf:lk S.H fr=none):lk (gones (E:=E) m++S.H) fr=none:=by
 rw [lk_append,gones_none (fresh_not hm hf)];exact hf
theorem drow_deep (hS:Sim cx G S tm W) {id:Nat} {e:Nat} {t:Ty} {xs:List (Ty.D E.S t)} {hid:Nat} (hb:S.h id=some (.drow e t xs hid)) :
  (∃A,G.hd id = .slice A 0 0∧xs=[])∨∃cap cur d fps,G.hd id = .slice (some ⟨G.loc id,0,none⟩) xs.length cap∧0<cap∧CellsAt t.mk W (G.loc id) cur e∧xs.length≤cap∧cap≤maxLen∧cap * tsz E t≤cur.size∧
   (G.loc id::fps.flatten).Nodup∧DeepR E (DeepA E W d) t xs cur.toList fps∧∀k∈G.loc id::fps.flatten,Occ G id (.drow e t xs hid:Blk E) k:=by
 obtain ⟨b0,b1,b2,b3,hrow⟩:=hS.blks id _ hb
 rcases hrow with ⟨A,hA,hnil,_⟩ | ⟨cap,cur,d,fps,hhd,hcap,hh,hlen,hmax,hcur,hfp,hnd,hr,_⟩
 ·exact .inl ⟨A,hA,hnil⟩
 ·refine .inr ⟨cap,cur,d,fps,hhd,hcap,hh,hlen,hmax,hcur,hnd,hr,fun k hk=>?_⟩
  rcases List.mem_cons.1 hk with rfl | hk
  ·exact .inl ⟨rfl,by rw [hhd];exact hcap⟩
  ·exact .inr (by rw [hfp];exact hk)
end Mir
