/- The mirror machine. -/
import Derived.Test.YtcgniikapdcfmaaEngB
import Derived.ChangeArms
import Derived.WideShapes
namespace Mir
set_option linter.unusedVariables false
set_option linter.unusedSimpArgs false
open Go
variable {E:Env} {P:Program} {T:Tb} {cx:Cx} {G G':Gh} {S:St E} {tm:Array Value} {a:Act} {W W':World}
theorem newD (hS:Sim cx G S tm W) {fr:Nat} (hf0:lk S.H fr=none) (hf1:lk S.H (fr+1)=none) (m:List Nat) (hm:∀i∈m,∃b,S.h i=some b∧b.fz=false)
  (hW:∀k,k<W.heap.size→(∃i∈m,∃b,S.h i=some b∧Occ G i b k)∨W'.heap[k]? = W.heap[k]?) (hsize:W.heap.size≤W'.heap.size) (hos:W'.os=W.os∧W'.tape=W.tape∧W'.output=W.output)
  {e n d:Nat} {xs:List (E.S n)} {v:Value} {fp:List Nat} (h:DeepA E W' d (.slice e (.st n)) xs v fp) (hnd:fp.Nodup) (hfp:∀k∈fp,W.heap.size≤k∨∃i∈m,∃b,S.h i=some b∧Occ G i b k) :
  ∃G',Sim cx G' { S with H:=((fr,.drow e (.st n) xs (fr+1))::(fr+1,.hdr)::gones m)++S.H } tm W'∧Ext G S.k W G' (St.k { S with H:=((fr,(Blk.drow e (.st n) xs (fr+1):Blk E))::(fr+1,.hdr)::gones m)++S.H }) W'∧
   AtR (E:=E) G' (St.k { S with H:=((fr,(Blk.drow e (.st n) xs (fr+1):Blk E))::(fr+1,.hdr)::gones m)++S.H }) W' (.own fr) v:=by
 obtain ⟨h1,h2,h3⟩:=hS.release m hm hW hsize hos
 have g0:=fresh_gones hm hf0
 have g1:=fresh_gones hm hf1
 obtain ⟨G',k1,k2,k3,k4,_⟩:=h1.adoptD (id:=fr) (hid:=fr+1) (by unfold St.h;simp only [g0]) g1 (by omega) h hnd (fun k hk=>h3 k (hfp k hk)) (.inl g0)
 exact ⟨G',k1,h2.trans k2,k4⟩
theorem againD (hS:Sim cx G S tm W) {fr id:Nat} (hf:lk S.H fr=none) {e n hid:Nat} {xs xs':List (E.S n)} (hb:S.h id=some (.drow e (.st n) xs hid)) (m:List Nat) (hm:∀i∈id::m,∃b,S.h i=some b∧b.fz=false)
  (hW:∀k,k<W.heap.size→(∃i∈id::m,∃b,S.h i=some b∧Occ G i b k)∨W'.heap[k]? = W.heap[k]?) (hsize:W.heap.size≤W'.heap.size) (hos:W'.os=W.os∧W'.tape=W.tape∧W'.output=W.output)
  {d:Nat} {fp:List Nat} (h:DeepA E W' d (.slice e (.st n)) xs' (G.hd id) fp) (hnd:fp.Nodup) (hlen:xs'.length=xs.length) (hfp:∀k∈fp,W.heap.size≤k∨∃i∈id::m,∃b,S.h i=some b∧Occ G i b k) :
  ∃G',Sim cx G' { S with H:=((id,.drow e (.st n) xs' fr)::(fr,.hdr)::gones (id::m))++S.H } tm W'∧Ext G S.k W G' (St.k { S with H:=((id,(Blk.drow e (.st n) xs' fr:Blk E))::(fr,.hdr)::gones (id::m))++S.H }) W':=by
 obtain ⟨h1,h2,h3⟩:=hS.release (id::m) hm hW hsize hos
 have g0:=fresh_gones hm hf
 have hne:id≠fr:=fun e=>by
  have:=St.h_k hb
  unfold St.k at this
  rw [e,hf] at this;cases this
 obtain ⟨b0,b1,b2,b3,hrow⟩:=hS.blks id _ hb
 obtain ⟨G',k1,k2,k3,k4,_⟩:=h1.adoptD (id:=id) (hid:=fr) (gones_h (by simp)) g0 hne h hnd (fun k hk=>h3 k (hfp k hk)) (.inr ⟨rfl,by rw [b1,hlen],b2,fun h0=>by
  rcases hrow with ⟨A,hA,_⟩ | ⟨cap,cur,d,fps,hhd,_⟩
  ·rw [hA] at h0;simp [capOf] at h0
  ·exact ⟨cap,by rw [hhd,hlen]⟩⟩)
 exact ⟨G',k1,h2.trans k2⟩
theorem nilsDeep {K:Nat→Prop}:∀ {ts:List Ty} {xs:List (At E)} {vs:List Value} {h:HT E.S ts} {l l':List Nat},AtsR G K W xs vs→xs.all nilAt=true→(ts.all fun | .rsl _ _=>false | _=>true)=true→RM.Out S.h (ofAts E ts xs) l h l'→DeepL E (DeepA E W' 1) ts h vs []
 | [],[],_,_,_,_,hr,_,_,_=>⟨by rw [AtsR] at hr;exact hr,rfl⟩
 | [],_::_,_,_,_,_,_,_,_,ho=>ho.elim
 | _::_,[],_,_,_,_,_,_,_,ho=>ho.elim
 | t::ts,x::xs,_,h,_,_,⟨v,r,hv,ha,hr⟩,hn,hf,ho=>by
  simp only [List.all_cons,Bool.and_eq_true] at hn hf
  obtain ⟨y,l1,h1,ho⟩:=RM.Out_bind ho
  obtain ⟨z,l2,h2,ho⟩:=RM.Out_bind ho
  obtain rfl:=ho.1
  refine ⟨v,r,[],[],hv,rfl,?_,nilsDeep hr hn.2 hf.2 h2⟩
  by_cases hs:simpAt x=true
  ·exact (SimpR.of ha hs).deep h1
  ·have hx:x = .nils:=by
    have:=hn.1
    cases x<;>first | rfl | (simp [nilAt,simpAt] at this hs)
   subst hx
   cases t with
   | slice e t=>
    obtain rfl:=h1.1
    obtain ⟨A,ha⟩:=ha
    exact .inl ⟨A,ha,rfl,rfl⟩
   | rsl e t=>exact absurd hf.1 (by simp)
   | _=>exact h1.elim
theorem noRsl_all {n:Nat} (h:noRsl E n=true):((E.fl n).all fun | .rsl _ _=>false | _=>true)=true:=h
theorem dIndexAddr_sound (hT:T.OK P) (hS:Sim cx G S a.tmps W) {t:TypeId} {x i:Operand} {id hid e0:Nat} {ty:Ty} {xs:List (Ty.D E.S ty)} (hx:evO (lk S.ρ) x=some (.c (.at (.own id)))) (hb:S.h id=some (.drow e0 ty xs hid)) {l l':List Nat} {r:Res E}
  (h:RM.Out S.h (dIndexAddr T t id ty xs (evO (lk S.ρ) i)) l r l'):Ends P cx G S a W (Instr.indexAt t (a.eval x) (a.eval i)) r:=by
 unfold dIndexAddr at h
 split at h
 rotate_left
 ·exact h.elim
 rename_i k n hi
 have hi:=ev_sound hS hi
 simp only [AVR,CvR,AtR] at hi
 rw [hi]
 split at h
 rotate_left
 ·exact h.elim
 rename_i e hu
 have hu:=hT.und _ _ hu
 have hx:=ev_sound hS hx
 have hb':=RM.Out_bif h;clear h;obtain ⟨hsz,h⟩:=hb'
 obtain ⟨h0,h1,h⟩:=h
 simp only [decide_eq_true_eq] at h0 h1
 rw [one_sound h]
 obtain ⟨b0,b1,b2,b3,hrow⟩:=hS.blks id _ hb
 rw [hx.2.1]
 rcases hrow with ⟨A,hA,hnil,_⟩ | ⟨cap,cur,d,fps,hhd,hcap,hh,hlen,hmax,hcur,_⟩
 ·subst hnil;simp at h1;omega
 ·rw [hhd]
  refine Ends.pure hS (w:=.pointer (some ((⟨G.loc id,0,none⟩:Addr).add (n.toNat * tsz E ty)))) ?_ ⟨hx.1,by rw [b1];omega,by rw [add_lit,b2,Nat.zero_add,Nat.add_zero]⟩
  have hc:(0≤n∧n<(xs.length:Int)):=⟨h0,h1⟩
  simp [Instr.indexAt,asIntOf,run_underlying hu,hc,sizeIs_some hT hsz]
theorem inAts_sound {K:Nat→Prop} {id hid i d:Nat} (hk:K id) (hh:K hid):∀ {ts:List Ty} {h:HT E.S ts} {vs:List Value} {fp:List Nat} {c:Nat},DeepL E (DeepA E W d) ts h vs fp→(∀j v,vs[j]? = some v→(∃A n m,v = .slice A n m)→v=G.inh hid i (c+j))→
  AtsR G K W (inAts id hid i (toAts E ts h) c) vs
 | [],_,_,_,_,hd,_=>hd.1
 | t::ts,h,_,_,c,⟨v,r,f1,f2,hv,hf,ha,hr⟩,hin=>by
  subst hv
  have hr':AtsR G K W (inAts id hid i (toAts E ts h.2) (c+1)) r:=inAts_sound hk hh hr fun j v hj hs=>by
   have:=hin (j+1) v (by simpa using hj) hs
   rw [this,Nat.add_assoc,Nat.add_comm 1 j]
  cases t with
  | int k=>refine ⟨v,r,rfl,?_,hr'⟩;cases d<;>exact ha.1
  | bool=>refine ⟨v,r,rfl,?_,hr'⟩;cases d<;>exact ha.1
  | str=>refine ⟨v,r,rfl,?_,hr'⟩;cases d<;>exact ha.1
  | opq=>refine ⟨v,r,rfl,?_,hr'⟩;cases d<;>exact ha.1
  | slice e t=>
   have hsl:∃A n m,v = .slice A n m:=by
    cases d with
    | zero=>exact ha.elim
    | succ d=>
     rcases ha with ⟨A,hw,_⟩ | ⟨g,cap,cur,fps,hw,_⟩
     ·exact ⟨_,_,_,hw⟩
     ·exact ⟨_,_,_,hw⟩
   exact ⟨v,r,rfl,⟨hk,hh,hin 0 v rfl hsl,hsl⟩,hr'⟩
  | rsl e t=>cases d<;>exact ha.elim
  | st n=>cases d<;>exact ha.elim
  | arr k n=>cases d<;>exact ha.elim
  | pbx b n=>cases d<;>exact ha.elim
theorem inAts_one {K:Nat→Prop} {id hid i d:Nat} (hk:K id) (hh:K hid) {t:Ty} {x:Ty.D E.S t} {vs:List Value} {fp:List Nat} (hd:DeepE E (DeepA E W d) t x vs fp) (hin:∀j v,vs[j]? = some v→(∃A n m,v = .slice A n m)→v=G.inh hid i (0+j)) :
  AtsR G K W (inAts id hid i (toCv E t x).cells 0) vs:=by
 cases t with
 | st n=>exact inAts_sound hk hh hd hin
 | int k=>obtain ⟨v,rfl,ha⟩:=hd;refine ⟨v,[],rfl,?_,rfl⟩;cases d<;>exact ha.1
 | bool=>obtain ⟨v,rfl,ha⟩:=hd;refine ⟨v,[],rfl,?_,rfl⟩;cases d<;>exact ha.1
 | str=>obtain ⟨v,rfl,ha⟩:=hd;refine ⟨v,[],rfl,?_,rfl⟩;cases d<;>exact ha.1
 | opq=>obtain ⟨v,rfl,ha⟩:=hd;refine ⟨v,[],rfl,?_,rfl⟩;cases d<;>exact ha.1
 | slice e t=>
  obtain ⟨v,rfl,ha⟩:=hd
  have hsl:∃A n m,v = .slice A n m:=by
   cases d with
   | zero=>exact ha.elim
   | succ d=>
    rcases ha with ⟨A,hw,_⟩ | ⟨g,cap,cur,fps,hw,_⟩
    ·exact ⟨_,_,_,hw⟩
    ·exact ⟨_,_,_,hw⟩
  exact ⟨v,[],rfl,⟨hk,hh,hin 0 v rfl hsl,hsl⟩,rfl⟩
 | rsl e t=>obtain ⟨v,rfl,ha⟩:=hd;cases d<;>exact ha.elim
 | arr k n=>obtain ⟨v,rfl,ha⟩:=hd;cases d<;>exact ha.elim
 | pbx b n=>obtain ⟨v,rfl,ha⟩:=hd;cases d<;>exact ha.elim
theorem dLoad_sound (hT:T.OK P) (hS:Sim cx G S a.tmps W) {t:TypeId} {x:Operand} {id hid e0 i off:Nat} {ty:Ty} {xs:List (Ty.D E.S ty)} (hx:evO (lk S.ρ) x=some (.c (.at (.eptr id i off)))) (hb:S.h id=some (.drow e0 ty xs hid)) {l l':List Nat} {r:Res E}
  (h:RM.Out S.h (partOf T t ((inAts id hid i (toCv E ty (el E ty xs i)).cells 0).drop off)) l r l'):Ends P cx G S a W (Instr.loadAt t (a.eval x)) r:=by
 obtain ⟨hk,hi,hx⟩:=ev_sound hS hx
 obtain ⟨b0,b1,b2,b3,hrow⟩:=hS.blks id _ hb
 rcases hrow with ⟨A,_,hnil,_⟩ | ⟨cap,cur,d,fps,hhd,hcap,hh,hlen,hmax,hcur,hfp,hnd,hr,hin⟩
 ·subst hnil;rw [b1] at hi;simp at hi
 rw [b1] at hi
 rw [el_get hi] at h
 have hcells:=inAts_one (G:=G) (K:=S.k) (id:=id) (hid:=hid) (i:=i) (St.h_k hb) b0 (hr.2 i hi) (fun j v hj hs=>by
  obtain ⟨A,n,m,rfl⟩:=hs
  have hjs:j<tsz E ty:=by
   have:=(List.getElem?_eq_some_iff.1 hj).1
   simp only [List.length_take] at this;omega
  have hw:cur[i * tsz E ty+j]? = some (.slice A n m):=by
   rw [List.getElem?_take,if_pos hjs,List.getElem?_drop] at hj
   simpa using hj
  have:=hin i j hi hjs ⟨A,n,m,hw⟩
  rw [hw] at this
  rw [Nat.zero_add];simpa using this)
 obtain ⟨v,h2,h3,h4⟩:=part_load hT hS (ad:=⟨G.loc id,i * G.sz id+off,none⟩) (hcells.drop off) (fun j hj=>by
  rw [hh.cell _ _ rfl j,b2]
  have hj':off+j<tsz E ty∧i * tsz E ty+(off+j)<cur.size:=by
   simp only [List.length_drop,List.length_take,Array.length_toList] at hj
   constructor
   ·omega
   ·have:(i+1) * tsz E ty≤cap * tsz E ty:=Nat.mul_le_mul_right _ (by omega)
    rw [Nat.add_mul] at this
    omega
  rw [Array.getElem?_eq_getElem (by omega)]
  simp [Nat.add_assoc]) h
 obtain ⟨x',u⟩:=r
 cases h4
 exact Ends.pure hS (by rw [hx];simpa [Instr.loadAt,Instr.sureAddr] using h2) h3
theorem dLen_sound (hT:T.OK P) (hS:Sim cx G S a.tmps W) {t ty0 e:TypeId} {x:Operand} {id hid e0:Nat} {ty:Ty} {xs:List (Ty.D E.S ty)} (hx:evO (lk S.ρ) x=some (.c (.at (.own id)))) (hb:S.h id=some (.drow e0 ty xs hid)) (hu:T.und t=some (.slice e)) :
  Ends P cx G S a W (Builtin.len_ #[t] ty0 #[a.eval x]) (.int .i64 (xs.length:Int),[]):=by
 have hu:=hT.und _ _ hu
 have run (A:Option Addr) (n c:Nat):(Builtin.len_ #[t] ty0 #[.slice A n c]).run P W = .ok (.int .i64 (n:Int)) W:=by simp [Builtin.len_,run_underlying hu,goInt]
 have hx:=ev_sound hS hx
 obtain ⟨b0,b1,b2,b3,hrow⟩:=hS.blks id _ hb
 rw [hx.2.1]
 rcases hrow with ⟨A,hA,hnil,_⟩ | ⟨cap,cur,d,fps,hhd,_⟩
 ·subst hnil
  rw [hA]
  exact Ends.pure hS (run _ _ _) rfl
 ·rw [hhd]
  exact Ends.pure hS (run _ _ _) rfl
theorem dStore_sound (hT:T.OK P) (hS:Sim cx G S a.tmps W) {fr:Nat} (hf:lk S.H fr=none) {t:TypeId} {x v:Operand} {id hid e s i off:Nat} {xs:List (E.S s)} (hx:evO (lk S.ρ) x=some (.c (.at (.eptr id i off)))) (hb:S.h id=some (.drow e (.st s) xs hid)) {l l':List Nat} {r:Res E}
  (h:RM.Out S.h (dStore T t fr id e s xs hid i off (asCv (evO (lk S.ρ) v))) l r l'):Ends P cx G S a W (Instr.storeAt t (a.eval x) (a.eval v) >>= fun _=>Pure.pure undef) r:=by
 unfold dStore at h
 split at h
 rotate_left
 ·exact h.elim
 rename_i cv hcv
 split at h
 rotate_left
 ·exact h.elim
 rename_i n hn
 have hv:=ev_sound hS (asCv_some hcv)
 have hb':=RM.Out_bif h;clear h;obtain ⟨hc,h⟩:=hb'
 simp only [Bool.and_eq_true] at hc
 have hok:=okCv_all hc.1
 have hlen:=Nat.eq_of_beq_eq_true hc.2
 have hcells:=CvR.cells (K:=S.k) hv hok
 have hones:=hcells.ones hok
 have hvl:(a.eval v).cells.toList.length=n:=by rw [hcells.length];exact hlen
 have hstore:∀(g o:Nat),a.eval x = .pointer (some ⟨g,o,none⟩)→∀W',(storeCells ⟨g,o,none⟩ (a.eval v).cells.toList).run P W = .ok () W'→(Instr.storeAt t (a.eval x) (a.eval v)).run P W = .ok () W':=by
  intro g o hx W' hr
  have hsz:(a.eval v).cells.size=n:=by simpa using hvl
  rw [hx]
  simp [Instr.storeAt,Instr.sureAddr,storeVar,size_some hT hn,hsz,hr]
 obtain ⟨hk,hi,hx⟩:=ev_sound hS hx
 have hB:=hS.blks id _ hb
 obtain ⟨b0,b1,b2,b3,hrow⟩:=hB
 rcases hrow with ⟨A,_,hnil,_⟩ | ⟨cap,cur,d,fps,hhd,hcap,hh,hlen',hmax,hcur,hfp,hnd,hr,hin⟩
 ·subst hnil;rw [b1] at hi;simp at hi
 rw [b1] at hi
 have hsz:tsz E (.st s)=(E.fl s).length:=rfl
 have hseg:i * tsz E (.st s)+tsz E (.st s)≤cur.toList.length:=by
  have:(i+1) * tsz E (.st s)≤cap * tsz E (.st s):=Nat.mul_le_mul_right _ (by omega)
  rw [Nat.add_mul] at this
  simp;omega
 have hheap:=hh.arr
 rw [b2] at hx
 have hocc:∀k∈G.loc id::fps.flatten,Occ G id (.drow e (.st s) xs hid:Blk E) k:=fun k hk=>by
  rcases List.mem_cons.1 hk with rfl | hk
  ·exact .inl ⟨rfl,by rw [hhd];exact hcap⟩
  ·exact .inr (by rw [hfp];exact hk)
 have hilt:i<fps.length:=by rw [hr.1];exact hi
 obtain ⟨hnl,hnf⟩:=List.nodup_cons.1 hnd
 have fin:∀(m:List Nat) (dn:Nat) (fn:List Nat) (x':E.S s),(∀j∈id::m,∃b,S.h j=some b∧b.fz=false)→off+n≤tsz E (.st s)→DeepL E (DeepA E W dn) (E.fl s) (E.opn s x') (putAt (seg cur.toList i (tsz E (.st s))) off (a.eval v).cells.toList) fn→
   fn.Nodup→(∀k∈fn,k≠G.loc id∧k∉(fps.set i []).flatten∧∃j∈id::m,∃b,S.h j=some b∧Occ G j b k)→
   Ends P cx G S a W (Instr.storeAt t (a.eval x) (a.eval v) >>= fun _=>Pure.pure undef) (.dead,(id,.drow e (.st s) (xs.set i x') fr)::(fr,.hdr)::gones (id::m)):=by
  intro m dn fn x' hm hon hd hfn hfnk
  have hrun:=run_putC (P:=P) (o:=i * tsz E (.st s)+off) (vs:=(a.eval v).cells.toList) hheap (by omega) hones
  let W':World:=W.setRow (G.loc id) (putAt cur.toList (i * tsz E (.st s)+off) (a.eval v).cells.toList).toArray
  have hWo:∀k,k≠G.loc id→W'.heap[k]? = W.heap[k]?:=fun k hk=>setRow_other W _ k _ hk
  have hdn:DeepL E (DeepA E W' (max d dn)) (E.fl s) (E.opn s x') (putAt (seg cur.toList i (tsz E (.st s))) off (a.eval v).cells.toList) fn:=hd.raise (Nat.le_max_right _ _) (fun k hk=>hWo k (hfnk k hk).1)
  have hmem:∀k,k∈(fps.set i fn).flatten→k∈fn∨k∈(fps.set i []).flatten:=fun k hk=>by
   rcases List.mem_append.1 ((flatten_set hilt fn).mem_iff.1 hk) with h | h
   ·exact .inl h
   ·exact .inr h
  have hrest:∀k,k∈(fps.set i []).flatten→k∈fps.flatten:=fun k hk=>(flatten_get hilt).mem_iff.2 (by simp [hk])
  have hA:DeepA E W' (max d dn+1) (.slice e (.st s)) (xs.set i x') (G.hd id) (G.loc id::(fps.set i fn).flatten):=by
   refine .inr ⟨G.loc id,cap,(putAt cur.toList (i * tsz E (.st s)+off) (a.eval v).cells.toList).toArray,fps.set i fn,by simpa using hhd,rfl,hcap,hheap.put (by omega),by simpa using hlen',hmax,?_,by simp [hr.1],fun j hj=>?_⟩
   ·simp [putAt_length _ _ _ (show i * tsz E (.st s)+off+(a.eval v).cells.toList.length≤cur.toList.length by omega)];exact hcur
   ·simp only [row_seg]
    have hj':j<xs.length:=by simpa using hj
    by_cases hji:j=i
    ·subst hji
     rw [seg_put_same _ _ _ _ _ hseg (by omega)]
     simp only [List.getElem_set_self]
     rw [List.getD_eq_getElem?_getD,List.getElem?_set_self hilt]
     exact hdn
    ·rw [seg_put_other _ _ _ _ _ _ hseg (by omega) hji,List.getElem_set_ne (fun e=>hji e.symm),List.getD_eq_getElem?_getD,List.getElem?_set_ne (fun e=>hji e.symm),← List.getD_eq_getElem?_getD]
     exact (hr.2 j hj').raise (Nat.le_max_left _ _) (fun k hk=>hWo k (fun e=>hnl (e▸getD_mem hk)))
  have hperm:=flatten_set hilt fn
  have hnd':(G.loc id::(fps.set i fn).flatten).Nodup:=by
   refine List.nodup_cons.2 ⟨fun h=>?_,hperm.nodup_iff.2 (List.nodup_append.2 ⟨hfn,?_,fun k hk k' hk' e=>(hfnk k hk).2.1 (e▸hk')⟩)⟩
   ·rcases hmem _ h with h | h
    ·exact (hfnk _ h).1 rfl
    ·exact hnl (hrest _ h)
   ·exact (List.nodup_append.1 ((flatten_get hilt).nodup_iff.1 hnf)).2.1
  obtain ⟨G',h1,h2⟩:=againD (W':=W') hS hf hb m hm (fun k _=>by
   by_cases hk:k=G.loc id
   ·exact .inl ⟨id,by simp,_,hb,hocc k (by simp [hk])⟩
   ·exact .inr (hWo k hk)) (by simp [W']) setRow_same hA hnd' (by simp) (fun k hk=>by
    rcases List.mem_cons.1 hk with rfl | hk
    ·exact .inr ⟨id,by simp,_,hb,hocc _ (by simp)⟩
    ·rcases hmem k hk with h | h
     ·exact .inr (hfnk k h).2.2
     ·exact .inr ⟨id,by simp,_,hb,hocc k (by simp [hrest k h])⟩)
  exact Ends.unit (r:=(_,_)) ⟨_,G',hstore _ _ hx _ hrun,h1,h2⟩ rfl
 have hfi:∀k∈fps.getD i [],k≠G.loc id∧k∉(fps.set i []).flatten∧k∈fps.flatten:=fun k hk=>by
  have h1:=getD_mem hk
  refine ⟨fun e=>hnl (e▸h1),fun h2=>?_,h1⟩
  exact (List.nodup_append.1 ((flatten_get hilt).nodup_iff.1 hnf)).2.2 k hk k h2 rfl
 cases hsm:(cv.cells.all simpAt&&Nat.ble (off+n) (E.fl s).length) with
 | true=>
  rw [hsm,cond_true] at h
  simp only [Bool.and_eq_true] at hsm
  have hon:=Nat.le_of_ble_eq_true hsm.2
  obtain ⟨h',l1,h1,h⟩:=RM.Out_bind h
  obtain rfl:=h.1
  rw [el_get hi] at h1
  have hold:DeepL E (DeepA E W d) (E.fl s) (E.opn s xs[i]) (seg cur.toList i (tsz E (.st s))) (fps.getD i []):=hr.2 i hi
  have hsl:(seg cur.toList i (tsz E (.st s))).length=tsz E (.st s):=by unfold seg;simp at hseg ⊢;omega
  have htl:(toAts E (E.fl s) (E.opn s xs[i])).length=(E.fl s).length:=by
   have:∀(ts:List Ty) (h:HT E.S ts),(toAts E ts h).length=ts.length:=by
    intro ts
    induction ts with
    | nil=>intro h;rfl
    | cons t ts ih=>intro h;simp [toAts,ih]
   exact this _ _
  refine fin [] d (fps.getD i []) _ (fun j hj=>by simp at hj;subst hj;exact ⟨_,hb,rfl⟩) (by rw [hsz];exact hon) ?_ ((List.nodup_append.1 ((flatten_get hilt).nodup_iff.1 hnf)).1) (fun k hk=>⟨(hfi k hk).1,(hfi k hk).2.1,id,by simp,_,hb,hocc k (by simp [(hfi k hk).2.2])⟩)
  rw [E.opn_shut]
  refine DeepL.upd hold (by rw [putAt_length _ _ _ (by omega),hsl];exact hsz) (fun c hc=>?_) h1
  by_cases hco:off≤c∧c<off+n
  ·refine .inr ?_
   rw [putAt_get _ _ _ (by rw [hlen,htl];exact hon),putAt_get _ _ _ (by omega),if_pos (by omega),if_pos (by omega)]
   have hc1:c - off<cv.cells.length:=by omega
   have hc2:c - off<(a.eval v).cells.toList.length:=by omega
   refine ⟨_,_,List.getElem?_eq_getElem hc1,List.getElem?_eq_getElem hc2,?_⟩
   exact SimpR.of (hcells.get (c - off) hc1 hc2) (List.all_eq_true.1 hsm.1 _ (List.getElem_mem hc1))
  ·refine .inl ?_
   rw [putAt_get _ _ _ (by rw [hlen,htl];exact hon),putAt_get _ _ _ (by omega),if_neg (by omega),if_neg (by omega)]
   exact ⟨rfl,rfl⟩
 | false=>
  rw [hsm,cond_false] at h
  have hb':=RM.Out_bif h;clear h;obtain ⟨hc2,h⟩:=hb'
  simp only [Bool.and_eq_true] at hc2
  obtain rfl:=Nat.eq_of_beq_eq_true hc2.1.1
  have hns:=Nat.eq_of_beq_eq_true hc2.1.2
  obtain ⟨h',l1,h1,h⟩:=RM.Out_bind h
  obtain ⟨m,l2,h2,h⟩:=RM.Out_bind h
  have hb':=RM.Out_bif h;clear h;obtain ⟨hndm,h⟩:=hb'
  have hndm:=nodupB_iff hndm
  obtain rfl:=h.1
  obtain ⟨him,hmn⟩:=List.nodup_cons.1 hndm
  obtain ⟨fn,hown,hhand⟩:=ownAll_sound hS (fun _ h=>h) hcells h1 h2
  obtain ⟨dn,hdn⟩:=OwnL.deep (noRsl_all hc2.2) hown
  have hput:putAt (seg cur.toList i (tsz E (.st s))) 0 (a.eval v).cells.toList=(a.eval v).cells.toList:=by
   have hsl:(seg cur.toList i (tsz E (.st s))).length=tsz E (.st s):=by unfold seg;simp at hseg ⊢;omega
   unfold putAt
   simp only [List.take_zero,List.nil_append,Nat.zero_add]
   rw [List.drop_eq_nil_of_le (by omega),List.append_nil]
  refine fin m dn fn _ (fun j hj=>?_) (by rw [hsz];omega) (by rw [E.opn_shut,hput];exact hdn) (hhand.nodup hmn) (fun k hk=>?_)
  ·rcases List.mem_cons.1 hj with rfl | hj
   ·exact ⟨_,hb,rfl⟩
   ·exact hhand.wr j hj
  ·obtain ⟨j,hj,b,hbj,ho⟩:=hhand.blks k hk
   have hji:j≠id:=fun e=>him (e▸hj)
   refine ⟨fun e=>hji (hS.inj j id b _ k hbj hb ho (hocc k (by simp [e]))),fun h=>hji (hS.inj j id b _ k hbj hb ho (hocc k (List.mem_cons_of_mem _ ((flatten_get hilt).mem_iff.2 (List.mem_append_right _ h))))),j,List.mem_cons_of_mem _ hj,b,hbj,ho⟩
end Mir
namespace Mir
set_option linter.unusedVariables false
set_option linter.unusedSimpArgs false
open Go
variable {E:Env} {P:Program} {T:Tb} {cx:Cx} {G G':Gh} {S:St E} {tm:Array Value} {a:Act} {W W':World}
theorem freshD (hS:Sim cx G S tm W) {fr:Nat} (hf0:lk S.H fr=none) (hf1:lk S.H (fr+1)=none) (m:List Nat) (hm:∀i∈m,∃b,S.h i=some b∧b.fz=false)
  {e n d cap:Nat} {xs:List (E.S n)} {cs tail:List Value} {fps:List (List Nat)} (hrow:DeepC E W d (.st n) xs cs fps) (hfn:fps.flatten.Nodup) (hfps:∀k∈fps.flatten,∃i∈m,∃b,S.h i=some b∧Occ G i b k)
  (hlen:xs.length≤cap) (hmax:cap≤maxLen) (htail:cap * tsz E (.st n)≤(cs++tail).length) (hW:W'=W.alloc (.cells (cs++tail).toArray e)∨W'=W.drew.alloc (.cells (cs++tail).toArray e)) :
  ∃G',Sim cx G' { S with H:=((fr,.drow e (.st n) xs (fr+1))::(fr+1,.hdr)::gones m)++S.H } tm W'∧Ext G S.k W G' (St.k { S with H:=((fr,(Blk.drow e (.st n) xs (fr+1):Blk E))::(fr+1,.hdr)::gones m)++S.H }) W'∧
   AtR (E:=E) G' (St.k { S with H:=((fr,(Blk.drow e (.st n) xs (fr+1):Blk E))::(fr+1,.hdr)::gones m)++S.H }) W' (.own fr) (.slice (some ⟨W.heap.size,0,none⟩) xs.length cap):=by
 have hold:∀k,k<W.heap.size→W'.heap[k]? = W.heap[k]?:=by
  rcases hW with rfl | rfl
  ·exact fun k hk=>heap_alloc_old W _ k hk
  ·exact fun k hk=>drewAlloc_old W _ k hk
 have hnew:W'.heap[W.heap.size]? = some (.cells (cs++tail).toArray e (0,0)):=by
  rcases hW with rfl | rfl
  ·exact heap_alloc_new W _
  ·exact drewAlloc_new W _
 have hsize:W.heap.size≤W'.heap.size:=by
  rcases hW with rfl | rfl
  ·rw [World.size_alloc];exact Nat.le_succ _
  ·rw [World.size_alloc];exact Nat.le_succ _
 have hos:W'.os=W.os∧W'.tape=W.tape∧W'.output=W.output:=by
  rcases hW with rfl | rfl<;>exact ⟨rfl,rfl,rfl⟩
 have hlt:∀k∈fps.flatten,k<W.heap.size:=fun k hk=>by
  obtain ⟨i,_,b,hb,ho⟩:=hfps k hk
  exact ho.lt (hS.blks i b hb)
 rcases Nat.eq_zero_or_pos cap with h0 | h0
 ·-- no room: the slice is as nil
  subst h0
  have hx:xs=[]:=List.eq_nil_of_length_eq_zero (by omega)
  subst hx
  have hfl:fps=[]:=List.eq_nil_of_length_eq_zero hrow.2.1
  subst hfl
  exact newD hS hf0 hf1 m hm (fun k hk=>.inr (hold k hk)) hsize hos (d:=1) (v:=.slice (some ⟨W.heap.size,0,none⟩) 0 0) (fp:=[]) (.inl ⟨_,rfl,rfl,rfl⟩) List.nodup_nil (fun k hk=>by cases hk)
 ·refine newD hS hf0 hf1 m hm (fun k hk=>.inr (hold k hk)) hsize hos (d:=d+1) (fp:=W.heap.size::fps.flatten) (.inr ⟨W.heap.size,cap,(cs++tail).toArray,fps,rfl,rfl,h0,.of hnew,hlen,hmax,by simpa using htail,(hrow.raise (Nat.le_refl d) (fun k hk=>hold k (hlt k hk))).row⟩) ?_ ?_
  ·exact List.nodup_cons.2 ⟨fun h=>by have:=hlt _ h;omega,hfn⟩
  ·intro k hk
   rcases List.mem_cons.1 hk with rfl | hk
   ·exact .inl (Nat.le_refl _)
   ·exact .inr (hfps k hk)
theorem dMake_sound (hT:T.OK P) (hS:Sim cx G S a.tmps W) {fr:Nat} (hf0:lk S.H fr=none) (hf1:lk S.H (fr+1)=none) {t e:TypeId} {s:Nat} {lo co:Operand} (helem:T.elem t=some (e,.st s)) {l l':List Nat} {r:Res E}
  (h:RM.Out S.h (dMake T fr e s (opdEq lo co) (evO (lk S.ρ) lo) (evO (lk S.ρ) co)) l r l'):Ends P cx G S a W (Instr.makeSlice t (a.eval lo) (a.eval co)) r:=by
 unfold dMake at h
 have hu:=Tb.elem_some hT helem
 split at h
 rotate_left
 ·exact h.elim
 rename_i b sz zs hby hsz hzv
 have hb':=RM.Out_bif h;clear h;obtain ⟨hc,h⟩:=hb'
 simp only [Bool.and_eq_true] at hc
 obtain ⟨⟨⟨⟨⟨hc1,hc2⟩,hc3⟩,hc4⟩,hc5⟩,hc6⟩:=hc
 obtain rfl:=Nat.eq_of_beq_eq_true hc1
 have hpos:0<tsz E (.st s):=Nat.le_of_ble_eq_true hc2
 have hbpos:0<b:=Nat.le_of_ble_eq_true hc3
 obtain ⟨z,l1,hz,h⟩:=RM.Out_bind h
 obtain ⟨w,hzr,hcv,ie,hie,hiz⟩:=zero_sound hT hzv (K:=S.k)
 obtain ⟨vs,rfl,hats⟩:=hcv G W
 have hzE:DeepL E (DeepA E W 1) (E.fl s) z vs []:=nilsDeep hats hc5 (noRsl_all hc6) hz
 have hiby:ie.bytes=b:=by have:=hT.bytes _ _ hby;rw [hie] at this;simpa using this
 have hisz:ie.size=tsz E (.st s):=by have:=hT.size _ _ hsz;rw [hie] at this;simpa using this
 have hvl:vs.length=tsz E (.st s):=by
  have:∀ {ts:List Ty} {h:HT E.S ts} {vs:List Value} {fp:List Nat},DeepL E (DeepA E W 1) ts h vs fp→vs.length=ts.length:=by
   intro ts
   induction ts with
   | nil=>intro h vs fp hd;rw [hd.1];rfl
   | cons t ts ih=>
    rintro h vs fp ⟨v,r,f1,f2,rfl,_,_,hr⟩
    rw [List.length_cons,List.length_cons,ih hr]
  exact this hzE
 have hcell:(Value.agg vs.toArray).cells=vs.toArray:=rfl
 have hzs:(Value.agg vs.toArray).cells.size=tsz E (.st s):=by rw [hcell];simpa using hvl
 split at h
 rotate_left
 ·exact h.elim
 rename_i lv cv hl hcv'
 have hlv:a.eval lo = .int .i64 lv:=ev_sound hS hl
 have hcv:a.eval co = .int .i64 cv:=ev_sound hS hcv'
 have made:∀(ln:Nat) (xs:List (E.S s)),0≤lv→lv≤cv→lv.toNat=ln→xs=List.replicate ln (E.shut s z)→room cv.toNat b=true→Ends P cx G S a W (Instr.makeSlice t (a.eval lo) (a.eval co)) (.a (.own fr),[(fr,.drow e (.st s) xs (fr+1)),(fr+1,.hdr)]):=by
  intro ln xs h0 hle hln hxs hroom
  have hroom:cv.toNat * b≤140737488355328:=by simpa [room] using hroom
  have hcb:cv.toNat≤cv.toNat * b:=Nat.le_mul_of_pos_right _ hbpos
  have hcl:(cv.toNat:Int)=cv:=by omega
  have hrun:=run_make (P:=P) W t e ie (Value.agg vs.toArray) hu hie hiz .i64 .i64 lv cv h0 hle (by
   rw [hiby,← hcl,← Int.natCast_mul,Nat.mul_comm];omega) (by omega)
  subst hxs
  have hrow:DeepC E W 1 (.st s) (List.replicate ln (E.shut s z)) (zcells (Value.agg vs.toArray).cells ln) (List.replicate ln []):=zcells_deep (by rw [E.opn_shut,hcell];simpa using hzE) hzs hpos ln
  have hlc:ln * tsz E (.st s)≤cv.toNat * tsz E (.st s):=Nat.mul_le_mul_right _ (by omega)
  have hcut:zcells (Value.agg vs.toArray).cells ln++(madeCells (Value.agg vs.toArray).cells (cv.toNat * ie.size)).toList.drop (ln * tsz E (.st s))=(madeCells (Value.agg vs.toArray).cells (cv.toNat * ie.size)).toList:=by
   have h1:(madeCells (Value.agg vs.toArray).cells (cv.toNat * ie.size)).toList.take (ln * tsz E (.st s))=zcells (Value.agg vs.toArray).cells ln:=by
    unfold madeCells zcells
    rw [hisz,hzs]
    simp only [Array.toList_map,Array.toList_range,← List.map_take,List.take_range,Nat.min_eq_left hlc]
   rw [← h1,List.take_append_drop]
  obtain ⟨G',h1,h2,h3⟩:=freshD (W':=W.alloc (.cells (zcells (Value.agg vs.toArray).cells ln++(madeCells (Value.agg vs.toArray).cells (cv.toNat * ie.size)).toList.drop (ln * tsz E (.st s))).toArray e)) (cap:=cv.toNat) (e:=e) hS hf0 hf1 [] (fun i hi=>by cases hi) hrow (by rw [flatten_nils];exact List.nodup_nil) (fun k hk=>by rw [flatten_nils] at hk;cases hk) (by simp;omega) (by simp only [maxLen];omega) (by rw [hcut];simp [madeCells,hisz]) (.inl rfl)
  rw [hcut,Array.toArray_toList] at h1 h2 h3
  rw [List.length_replicate] at h3
  subst hln
  refine ⟨_,_,_,?_,h1,h2,h3⟩
  rw [hlv,hcv]
  exact hrun
 cases hsame:opdEq lo co with
 | true=>
  rw [hsame] at h
  have heq:lv=cv:=by
   unfold opdEq at hsame
   split at hsame
   ·obtain rfl:=Nat.eq_of_beq_eq_true hsame
    rw [hlv] at hcv;cases hcv;rfl
   ·simp only [decide_eq_true_eq] at hsame
    subst hsame
    have e1:=hlv
    have e2:=hcv
    simp only [Act.eval,Value.int.injEq] at e1 e2
    rw [← e1.2,← e2.2]
   ·cases hsame
  subst heq
  obtain ⟨h0,hroom,h⟩:=h
  obtain rfl:=h.1
  simp only [decide_eq_true_eq] at h0
  exact made lv.toNat _ h0 (Int.le_refl _) rfl rfl hroom
 | false=>
  rw [hsame] at h
  obtain ⟨h0,h1,hroom,h⟩:=h
  obtain rfl:=h.1
  simp only [decide_eq_true_eq] at h0 h1
  subst h0
  exact made 0 _ (Int.le_refl _) h1 rfl rfl hroom
theorem partsD_sound (hS:Sim cx G S a.tmps W) {n:Nat} (hno:noRsl E n=true):∀ {ps:List (Nat×Operand)} {k:Nat} {l l':List Nat} {q:List (E.S n)×List Nat},RM.Out S.h (partsD E n (ps.map fun p=>(p.1,evO (lk S.ρ) p.2)) k) l q l'→
  ∃cs fps d,DeepC E W d (.st n) q.1 cs fps∧q.1.length=ps.length∧Hand G S q.2 fps.flatten∧
   ∀(done rest:List Value),done.length=k * tsz E (.st n)→rest.length=ps.length * tsz E (.st n)→Instr.fill (fun i=>some (i * tsz E (.st n),tsz E (.st n))) (done++rest).toArray (ps.map fun p=>(p.1,a.eval p.2))=some (done++cs).toArray
 | [],k,_,_,q,h=>by
  rw [h.1]
  refine ⟨[],[],0,DeepC.nil,rfl,Hand.nil,fun done rest _ hr=>?_⟩
  have:rest=[]:=List.eq_nil_of_length_eq_zero (by simpa using hr)
  subst this
  rfl
 | (j,x)::ps,k,l,l',q,h=>by
  simp only [List.map_cons,partsD] at h
  have hb':=RM.Out_bif h;clear h;obtain ⟨hj,h⟩:=hb'
  obtain rfl:=Nat.eq_of_beq_eq_true hj
  split at h
  rotate_left
  ·exact h.elim
  rename_i xs hv
  have hb':=RM.Out_bif h;clear h;obtain ⟨hok,h⟩:=hb'
  obtain ⟨h',l1,h1,h⟩:=RM.Out_bind h
  obtain ⟨m,l2,h2,h⟩:=RM.Out_bind h
  obtain ⟨q',l3,h3,h⟩:=RM.Out_bind h
  obtain rfl:=h.1
  obtain ⟨cs,fps,d,i1,i2,i3,i4⟩:=partsD_sound hS hno h3
  have hx:=ev_sound hS (asCv_some hv)
  obtain ⟨vs,hvv,hats⟩:=hx
  obtain ⟨fn,hown,hhand⟩:=ownAll_sound hS (fun _ h=>h) hats h1 h2
  obtain ⟨dn,hdn⟩:=OwnL.deep (noRsl_all hno) hown
  have hvl:vs.length=(E.fl n).length:=by
   have:∀ {ts:List Ty} {h:HT E.S ts} {vs:List Value} {fp:List Nat},DeepL E (DeepA E W dn) ts h vs fp→vs.length=ts.length:=by
    intro ts
    induction ts with
    | nil=>intro h vs fp hd;rw [hd.1];rfl
    | cons t ts ih=>
     rintro h vs fp ⟨v,r,f1,f2,rfl,_,_,hr⟩
     rw [List.length_cons,List.length_cons,ih hr]
   exact this hdn
  have hone:=DeepC.one (n:=n) (x:=E.shut n h') (by rw [E.opn_shut];exact hdn) hvl
  refine ⟨vs++cs,fn::fps,max dn d,(hone.raise (Nat.le_max_left _ _) (fun _ _=>rfl)).append (i1.raise (Nat.le_max_right _ _) (fun _ _=>rfl)),by simp [i2],by simpa using hhand.app hS i3,fun done rest hd hr=>?_⟩
  have hsz:tsz E (.st n)=(E.fl n).length:=rfl
  rw [List.length_cons,Nat.add_mul,Nat.one_mul] at hr
  have hcell:(a.eval x).cells=vs.toArray:=by rw [hvv];rfl
  rw [List.map_cons,fill_step (fun i=>some (i * tsz E (.st n),tsz E (.st n))) (done++rest).toArray j (a.eval x) _ rfl (by rw [hcell,List.size_toArray];exact hvl) (by rw [hcell];simp;omega)]
  rw [hcell]
  have hp:putAt (done++rest) (j * tsz E (.st n)) vs=(done++vs)++rest.drop (tsz E (.st n)):=by
   unfold putAt
   rw [← List.drop_drop,← hd,List.take_left,List.drop_left,hvl]
   rfl
  have:=i4 (done++vs) (rest.drop (tsz E (.st n))) (by rw [List.length_append,hd,hvl,Nat.add_mul,Nat.one_mul];rfl) (by simp;omega)
  simp only [List.append_assoc] at this
  rw [← this]
  congr 1
  simp only [hp,List.append_assoc]
theorem dBuild_sound (hT:T.OK P) (hS:Sim cx G S a.tmps W) {fr:Nat} (hf0:lk S.H fr=none) (hf1:lk S.H (fr+1)=none) {t e:TypeId} {s len:Nat} {parts:Array (Nat×Operand)} (helem:T.elem t=some (e,.st s)) {l l':List Nat} {r:Res E}
  (h:RM.Out S.h (dBuild T fr e s len (parts.toList.map fun p=>(p.1,evO (lk S.ρ) p.2))) l r l'):Ends P cx G S a W (Instr.buildSlice t len (parts.map fun (i,x)=>(i,a.eval x))) r:=by
 unfold dBuild at h
 have hu:=Tb.elem_some hT helem
 split at h
 rotate_left
 ·exact h.elim
 rename_i sz hsz
 have hb':=RM.Out_bif h;clear h;obtain ⟨hc,h⟩:=hb'
 simp only [Bool.and_eq_true] at hc
 obtain ⟨⟨⟨⟨⟨hc1,hc2⟩,hc3⟩,hc4⟩,hc5⟩,hc6⟩:=hc
 obtain rfl:=Nat.eq_of_beq_eq_true hc1
 have hpos:0<tsz E (.st s):=Nat.le_of_ble_eq_true hc2
 have hsmall:=Nat.le_of_ble_eq_true hc3
 have hpl:=Nat.eq_of_beq_eq_true hc6
 rw [List.length_map] at hpl
 obtain ⟨q,l1,hq,h⟩:=RM.Out_bind h
 have hb':=RM.Out_bif h;clear h;obtain ⟨hnd,h⟩:=hb'
 have hnd:=nodupB_iff hnd
 obtain rfl:=h.1
 obtain ⟨cs,fps,d,hrow,hql,hhand,hfill⟩:=partsD_sound hS hc5 hq
 obtain ⟨ie,w,hie,hiz,hisz,hzs⟩:∃ie w,P.info? e=some ie∧ie.zero=some w∧ie.size=tsz E (.st s)∧w.cells.size=tsz E (.st s):=by
  unfold zOK at hc4
  split at hc4
  ·rename_i w hw
   obtain ⟨ie,h1,h2⟩:=zero_info hT hw
   have:=hT.size _ _ hsz
   rw [h1] at this
   exact ⟨ie,w,h1,h2,by simpa using this,by have:=Nat.eq_of_beq_eq_true hc4;simpa using this⟩
  ·cases hc4
 have hf:=hfill [] (zcells w.cells len) (by simp) (by rw [zcells_len,hzs,hpl])
 simp only [List.nil_append] at hf
 have hlen:q.1.length=len:=by rw [hql,hpl]
 have hrun:(Instr.buildSlice t len (parts.map fun (i,x)=>(i,a.eval x))).run P W = .ok (.slice (some ⟨W.heap.size,0,none⟩) len len) (W.alloc (.cells cs.toArray e)):=by
  have hsm:¬ len * tsz E (.st s) > 2 ^ 24:=by omega
  have hparts':(parts.map fun (i,x)=>(i,a.eval x)).toList=parts.toList.map fun p=>(p.1,a.eval p.2):=by simp
  by_cases h0:len * tsz E (.st s)=0
  ·have h00:len=0:=by
    rcases Nat.mul_eq_zero.1 h0 with h | h
    ·exact h
    ·omega
   subst h00
   have hz0:(zcells w.cells 0).toArray = #[]:=by simp [zcells]
   rw [hz0] at hf
   simp [Instr.buildSlice,run_underlying hu,Go.sizeOf,typeInfo,hie,hisz]
   rw [show Array.map (fun _=>(default:Value)) (Array.range 0) = #[] by (apply Array.ext';simp),hf]
   rfl
  ·refine run_buildSlice W t e len _ cs.toArray ie w hu hie hiz (by rw [hisz];exact hsm) (by rw [hisz];exact h0) ?_
   rw [hparts',hisz,← hf]
   congr 1
   simp only [zcells,Array.toArray_toList]
   rw [hzs]
 obtain ⟨G',h1,h2,h3⟩:=freshD (W':=W.alloc (.cells (cs++[]).toArray e)) (cap:=len) (e:=e) hS hf0 hf1 q.2 hhand.wr hrow (hhand.nodup hnd) hhand.blks (Nat.le_of_eq hlen) (by simp only [maxLen];have:=Nat.le_mul_of_pos_right len hpos;omega) (by rw [List.append_nil,hrow.1,hlen];exact Nat.le_refl _) (.inl rfl)
 rw [List.append_nil] at h1 h2 h3
 rw [hlen] at h3
 exact ⟨_,_,_,hrun,h1,h2,h3⟩
theorem drow_src (hS:Sim cx G S tm W) {id:Nat} {e:Nat} {n:Nat} {xs:List (E.S n)} {hid:Nat} (hb:S.h id=some (.drow e (.st n) xs hid)) :
  ∃A cap cs fps d,G.hd id = .slice A xs.length cap∧xs.length≤cap∧DeepC E W d (.st n) xs cs fps∧fps.flatten.Nodup∧(∀k∈fps.flatten,Occ G id (.drow e (.st n) xs hid:Blk E) k)∧Src P W (tsz E (.st n)) (.slice A xs.length cap) xs.length cs∧
   ((cap=0∧xs=[])∨(0<cap∧cap≤maxLen∧A=some ⟨G.loc id,0,none⟩∧Occ G id (.drow e (.st n) xs hid:Blk E) (G.loc id)∧G.loc id∉fps.flatten∧∃cur:List Value,CellsAt (Ty.mk (.st n)) W (G.loc id) cur.toArray e∧cap * tsz E (.st n)≤cur.length∧cur.take (xs.length * tsz E (.st n))=cs)):=by
 have hpos:=tsz_pos E (.st n)
 rcases drow_deep hS hb with ⟨A,hA,rfl⟩ | ⟨cap,cur,d,fps,hhd,hcap,hh,hlen,hmax,hcur,hnd,hr,ho⟩
 ·exact ⟨A,0,[],[],0,hA,Nat.le_refl _,DeepC.nil,List.nodup_nil,fun k hk=>(by cases hk),Src.slice (by simp) (fun h=>absurd h (by simp)) (fun _=>rfl),.inl ⟨rfl,rfl⟩⟩
 ·obtain ⟨h1,h2⟩:=List.nodup_cons.1 hnd
  have hrow:=hr.cells hcur hlen
  refine ⟨_,cap,_,fps,d,hhd,hlen,hrow,h2,fun k hk=>ho k (by simp [hk]),Src.slice hrow.1 (fun _=>⟨_,rfl,fun j hj=>?_⟩) (fun h=>?_),.inr ⟨hcap,hmax,rfl,ho _ (by simp),h1,cur.toList,by simpa using hh,by simpa using hcur,rfl⟩⟩
  ·rw [hh.cell _ _ rfl]
   simp at hj ⊢
  ·rw [hrow.1] at h
   rcases Nat.mul_eq_zero.1 h with h | h
   ·exact h
   ·omega
end Mir
namespace Mir
set_option linter.unusedVariables false
set_option linter.unusedSimpArgs false
open Go
variable {E:Env} {P:Program} {T:Tb} {cx:Cx} {G G':Gh} {S:St E} {tm:Array Value} {a:Act} {W W':World}
theorem DeepC.ones {d:Nat} {t:Ty} {xs:List (Ty.D E.S t)} {cs:List Value} {fps:List (List Nat)} (h:DeepC E W d t xs cs fps):∀v∈cs,v.oneCell'=true:=
 RowC.ones (F:=fun _=>True) (d:=d) ⟨h.1,fun i hi=>(h.2.2 i hi).ro (fun t x v fp hF h=>DeepA.ro hF h) (fun _ _=>trivial)⟩
theorem dAppend_sound (hT:T.OK P) (hS:Sim cx G S a.tmps W) {fr:Nat} (hf0:lk S.H fr=none) (hf1:lk S.H (fr+1)=none) {t u rty e:TypeId} {s:Nat} {x y:Operand} (helem:T.elem t=some (e,.st s)) {l l':List Nat} {r:Res E}
  (h:RM.Out S.h (dAppend T fr e s u (evO (lk S.ρ) x) (evO (lk S.ρ) y)) l r l'):Ends P cx G S a W (Builtin.append_ #[t,u] rty #[a.eval x,a.eval y]) r:=by
 unfold dAppend at h
 have hu:=Tb.elem_some hT helem
 split at h
 rotate_left
 ·exact h.elim
 rename_i b sz hby hsz
 have hb':=RM.Out_bif h;clear h;obtain ⟨hc,h⟩:=hb'
 simp only [Bool.and_eq_true] at hc
 obtain ⟨⟨⟨⟨hc1,hc2⟩,hc3⟩,hc4⟩,hc5⟩:=hc
 obtain rfl:=Nat.eq_of_beq_eq_true hc1
 have hpos:0<tsz E (.st s):=Nat.le_of_ble_eq_true hc2
 have hbpos:0<b:=Nat.le_of_ble_eq_true hc3
 have hun:=notInt_some hT hc4
 obtain ⟨i,z,hi,rfl,hisz,hz,hzs⟩:=info_of hT hby hsz hc5
 split at h
 rotate_left
 ·exact h.elim
 rename_i jd hy
 have hy:=ev_sound hS hy
 obtain ⟨by_,hjb,h⟩:=h
 dsimp only at h
 split at h
 rotate_left
 ·exact h.elim
 rename_i e2 t2 ys0 hjd
 have hb2:=RM.Out_bind h;clear h;obtain ⟨ys,l1,hcast,h⟩:=hb2
 obtain ⟨rfl,rfl,rfl⟩:=castR_sound hcast
 have hyd:=drow_src (P:=P) hS hjb
 obtain ⟨B,capy,ds,gps,dy,hyv,hyle,hyrow,hynd,hyo,hysrc,_⟩:=hyd
 have hyv:a.eval y = .slice B ys.length capy:=hy.2.1.trans hyv
 have hsrc:Src P W i.size (a.eval y) ys.length ds:=by rw [hyv,hisz];exact hysrc
 have core:∀(m:List Nat) (xs:List (E.S s)) (A:Option Addr) (c:Nat) (cs:List Value) (fps:List (List Nat)) (d:Nat),(∀j∈m,∃b,S.h j=some b∧b.fz=false)→a.eval x = .slice A xs.length c→xs.length≤c→DeepC E W d (.st s) xs cs fps→(fps++gps).flatten.Nodup→(∀k∈(fps++gps).flatten,∃j∈m,∃b,S.h j=some b∧Occ G j b k)→
   Src P W (tsz E (.st s)) (.slice A xs.length c) xs.length cs→((c=0∧xs=[])∨∃loc,0<c∧c≤maxLen∧A=some ⟨loc,0,none⟩∧(∃j∈m,∃b,S.h j=some b∧Occ G j b loc)∧loc∉(fps++gps).flatten∧∃cur:List Value,CellsAt (Ty.mk (.st s)) W loc cur.toArray e∧c * tsz E (.st s)≤cur.length∧cur.take (xs.length * tsz E (.st s))=cs)→
   room (xs.length+ys.length) i.bytes=true→Ends P cx G S a W (Builtin.append_ #[t,u] rty #[a.eval x,a.eval y]) (.a (.own fr),(fr,.drow e (.st s) (xs++ys) (fr+1))::(fr+1,.hdr)::gones m):=by
  intro m xs A c cs fps d hm hx hxc hrow hnd hocc hold hloc hroom
  have hroom:(xs.length+ys.length) * i.bytes≤140737488355328:=by simpa [room] using hroom
  have hall:=(hrow.raise (Nat.le_max_left d dy) (fun _ _=>rfl)).append (hyrow.raise (Nat.le_max_right d dy) (fun _ _=>rfl))
  have hlen:(xs++ys).length=xs.length+ys.length:=by simp
  by_cases hfit:xs.length+ys.length≤c
  ·rcases hloc with ⟨h0,hx0⟩ | ⟨loc,h0,hmax,rfl,hlo,hln,cur,hh,hcl,hct⟩
   ·subst h0 hx0
    have hyn:ys=[]:=by simpa using hfit
    subst hyn
    have hds:ds=[]:=List.eq_nil_of_length_eq_zero (by rw [hyrow.1];simp)
    subst hds
    have hrun:=append_room t u rty e i hu hun hi hsrc (base:=A) (sLen:=0) (sCap:=0) (W1:=W) (by simp) (fun a _=>by simp [storeCells]) (fun _=>rfl)
    obtain ⟨G',h1,h2,h3⟩:=newD (W':=W) hS hf0 hf1 m hm (fun k _=>.inr rfl) (Nat.le_refl _) ⟨rfl,rfl,rfl⟩ (e:=e) (n:=s) (d:=1) (xs:=[]) (v:=.slice A 0 0) (fp:=[]) (.inl ⟨A,rfl,rfl,rfl⟩) List.nodup_nil (fun k hk=>by cases hk)
    rw [hx]
    exact ⟨_,_,_,hrun,h1,h2,h3⟩
   ·have hle:(xs.length+ys.length) * tsz E (.st s)≤c * tsz E (.st s):=Nat.mul_le_mul_right _ hfit
    rw [Nat.add_mul] at hle
    have hrun0:=run_putC (P:=P) (o:=xs.length * tsz E (.st s)) (vs:=ds) hh (by rw [hyrow.1];omega) hyrow.ones
    have hrun:=append_room t u rty e i hu hun hi hsrc (base:=some ⟨loc,0,none⟩) (sLen:=xs.length) (sCap:=c) hfit (fun ad had=>by cases had;rw [hisz,add_lit,Nat.zero_add];exact hrun0) (fun h=>by cases h)
    have hput:putAt cur (xs.length * tsz E (.st s)) ds=(cs++ds)++cur.drop (xs.length * tsz E (.st s)+ds.length):=by
     unfold putAt;rw [hct]
    have hWo:∀k,k≠loc→(W.setRow loc (putAt cur (xs.length * tsz E (.st s)) ds).toArray).heap[k]? = W.heap[k]?:=fun k hk=>setRow_other W _ k _ hk
    obtain ⟨G',h1,h2,h3⟩:=newD (W':=W.setRow loc (putAt cur (xs.length * tsz E (.st s)) ds).toArray) hS hf0 hf1 m hm (fun k _=>by
      by_cases hk:k=loc
      ·subst hk;exact .inl hlo
      ·exact .inr (hWo k hk)) (by simp) setRow_same (e:=e) (n:=s) (d:=max d dy+1) (xs:=xs++ys) (v:=.slice (some ⟨loc,0,none⟩) (xs.length+ys.length) c) (fp:=loc::(fps++gps).flatten)
     (.inr ⟨loc,c,(putAt cur (xs.length * tsz E (.st s)) ds).toArray,fps++gps,by rw [hlen],rfl,h0,hh.put (by rw [hyrow.1];omega),by rw [hlen];exact hfit,hmax,by simp [putAt_length _ _ _ (show xs.length * tsz E (.st s)+ds.length≤cur.length by rw [hyrow.1];omega)];exact hcl,by
      show DeepR E _ (.st s) (xs++ys) (putAt cur (xs.length * tsz E (.st s)) ds) (fps++gps)
      have hr:=(hall.raise (Nat.le_refl _) (fun k hk=>hWo k (fun e=>hln (e▸hk)))).row (tail:=cur.drop (xs.length * tsz E (.st s)+ds.length))
      rw [← hput] at hr
      exact hr⟩)
     (List.nodup_cons.2 ⟨hln,hnd⟩) (fun k hk=>by
      rcases List.mem_cons.1 hk with rfl | hk
      ·exact .inr hlo
      ·exact .inr (hocc k hk))
    rw [hx]
    exact ⟨_,_,_,hrun,h1,h2,h3⟩
  ·have hold':Src P W i.size (.slice A xs.length c) xs.length cs:=by rw [hisz];exact hold
   rw [hx]
   obtain ⟨cap',hle,hmax,hrun⟩:=append_grows t u rty e i z hu hun hi hz hsrc hold' (by omega) hroom hbpos
   obtain ⟨G',h1,h2,h3⟩:=freshD (W':=W.drew.alloc (.cells (cs++ds++(Builtin.zeroCells z.cells (cap' - (xs.length+ys.length))).toList).toArray e)) (cap:=cap') (e:=e) hS hf0 hf1 m hm hall hnd hocc (by rw [hlen];exact hle) hmax (by
    rw [List.length_append,hall.1,zeroCells_length,hzs,hlen,← Nat.add_mul]
    exact Nat.mul_le_mul_right _ (by omega)) (.inr rfl)
   rw [hlen] at h3
   exact ⟨_,_,_,hrun,h1,h2,h3⟩
 split at h
 ·rename_i id hx
  have hx:=ev_sound hS hx
  obtain ⟨bx,hib,h⟩:=h
  dsimp only at h
  split at h
  rotate_left
  ·exact h.elim
  rename_i e1 t1 xs0 hidx
  have hb3:=RM.Out_bind h;clear h;obtain ⟨xs,l2,hcast1,h⟩:=hb3
  obtain ⟨rfl,rfl,rfl⟩:=castR_sound hcast1
  have hb':=RM.Out_bif h;clear h;obtain ⟨hnd2,h⟩:=hb'
  have hnd2:=nodupB_iff hnd2
  obtain ⟨hroom,h⟩:=h
  obtain rfl:=h.1
  obtain ⟨A,cap,cs,fps,d,hxv,hxle,hxrow,hxnd,hxo,hxsrc,hxloc⟩:=drow_src (P:=P) hS hib
  have hne:id≠jd:=by simpa using hnd2
  have hdis:∀k∈fps.flatten,k∉gps.flatten:=fun k h1 h2=>hne (hS.inj id jd _ _ k hib hjb (hxo k h1) (hyo k h2))
  refine core [id,jd] xs A cap cs fps d (fun j hj=>?_) (hx.2.1.trans hxv) hxle hxrow ?_ (fun k hk=>?_) hxsrc ?_ hroom
  ·rcases List.mem_cons.1 hj with rfl | hj
   ·exact ⟨_,hib,rfl⟩
   ·simp at hj;subst hj;exact ⟨_,hjb,rfl⟩
  ·rw [List.flatten_append]
   exact List.nodup_append.2 ⟨hxnd,hynd,fun k h1 k' h2 e=>hdis k h1 (e▸h2)⟩
  ·rw [List.flatten_append] at hk
   rcases List.mem_append.1 hk with hk | hk
   ·exact ⟨id,by simp,_,hib,hxo k hk⟩
   ·exact ⟨jd,by simp,_,hjb,hyo k hk⟩
  ·rcases hxloc with h | ⟨h0,hmax,hA,ho,hn,cur,k1,k2,k3⟩
   ·exact .inl h
   ·refine .inr ⟨G.loc id,h0,hmax,hA,⟨id,by simp,_,hib,ho⟩,?_,cur,k1,k2,k3⟩
    rw [List.flatten_append]
    intro hk
    rcases List.mem_append.1 hk with hk | hk
    ·exact hn hk
    ·exact hne (hS.inj id jd _ _ _ hib hjb ho (hyo _ hk))
 ·rename_i hx
  have hx:=ev_sound hS hx
  obtain ⟨hroom,h⟩:=h
  obtain rfl:=h.1
  obtain ⟨A,hv⟩:=hx
  have:=core [jd] [] A 0 [] [] 0 (fun j hj=>by simp at hj;subst hj;exact ⟨_,hjb,rfl⟩) hv (Nat.le_refl _) DeepC.nil (by simpa using hynd) (fun k hk=>⟨jd,by simp,_,hjb,hyo k (by simpa using hk)⟩) (Src.slice (by simp) (fun h=>absurd h (by simp)) (fun _=>rfl)) (.inl ⟨rfl,rfl⟩) (by simpa using hroom)
  simpa using this
 ·exact h.elim
theorem over_out {U:Up E} {α:Type} {m:RM E α}:∀ {l:List Nat} {x:α} {l':List Nat} {k:List Nat},RM.Out S.h (RM.over U m) l x l'→∃k',RM.Out (St.h { S with H:=U++S.H }) m k x k':=by
 induction m with
 | pure a=>rintro l x l' k ⟨rfl,rfl⟩;exact ⟨k,rfl,rfl⟩
 | fail=>intro l x l' k h;exact h.elim
 | rd id f ih=>
  intro l x l' k h
  unfold RM.over at h
  cases hl:lk U id with
  | none=>
   rw [hl] at h
   obtain ⟨b,hb,h⟩:=h
   obtain ⟨k',hk'⟩:=ih b (k:=id::k) h
   exact ⟨k',b,by rw [h_append,hl];exact hb,hk'⟩
  | some b=>
   rw [hl] at h
   cases b with
   | gone=>exact h.elim
   | _=>
    obtain ⟨k',hk'⟩:=ih _ (k:=id::k) h
    exact ⟨k',_,by rw [h_append,hl],hk'⟩
 | chk b f ih=>rintro l x l' k ⟨hb,h⟩;obtain ⟨k',hk'⟩:=ih (k:=k) h;exact ⟨k',hb,hk'⟩
 | call m f ih=>rintro l x l' k ⟨y,hy,h⟩;obtain ⟨k',hk'⟩:=ih y (k:=k) h;exact ⟨k',y,hy,hk'⟩
theorem toAts_length:∀(ts:List Ty) (h:HT E.S ts),(toAts E ts h).length=ts.length
 | [],_=>rfl
 | t::ts,h=>by simp [toAts,toAts_length ts h.2]
theorem seg_cell {cur:Array Value} {i sz c:Nat} {v:Value} (h:(seg cur.toList i sz)[c]? = some v) (hc:c<sz):cur[i * sz+c]? = some v:=by
 rw [seg_get,if_pos hc] at h
 simpa using h
theorem detach_sound (hS:Sim cx G S tm W) {fr id hid i c:Nat} {w:Value} (hnew:∀k,fr≤k→k<fr+3→lk S.H k=none) (hw:AtR (E:=E) G S.k W (.inn id hid i c) w) {l l':List Nat} {U:Up E} (h:RM.Out S.h (detach E fr id hid i c) l U l') :
  ∃G',Sim cx G' { S with H:=U++S.H } tm W∧Ext G S.k W G' (St.k { S with H:=U++S.H }) W∧AtR (E:=E) G' (St.k { S with H:=U++S.H }) W (.own fr) w∧(∀k,fr+3≤k→lk S.H k=none→lk (U++S.H) k=none)∧
   (∀e n xs hid' i' c',lk U id=some (.hole e n xs hid' i' c')→hid'=fr+2∧i'=i∧c'=c)∧G'.inh (fr+2) i c=w∧St.k { S with H:=U++S.H } (fr+2)∧St.k { S with H:=U++S.H } fr∧St.k { S with H:=U++S.H } id∧G'.hd fr=w:=by
 unfold detach at h
 obtain ⟨b,hb,h⟩:=h
 dsimp only at h
 split at h
 rotate_left
 ·exact h.elim
 rename_i e n xs hid'
 have hb':=RM.Out_bif h;clear h;obtain ⟨hh',h⟩:=hb'
 obtain rfl:=Nat.eq_of_beq_eq_true hh'
 obtain ⟨hil,h⟩:=h
 simp only [decide_eq_true_eq] at hil
 split at h
 rotate_left
 ·exact h.elim
 rename_i e' t' ys hcell
 obtain rfl:=h.1
 obtain ⟨_,hkh,hwv,hwsl⟩:=hw
 rw [el_get hil] at hcell
 obtain ⟨b0,b1,b2,b3,hrow⟩:=hS.blks id _ hb
 rcases hrow with ⟨A,hA,hnil,_⟩ | ⟨cap,cur,d,fps,hhd,hcap,hh,hlen,hmax,hcur,hfp,hnd,hr,hin⟩
 ·subst hnil;simp at hil
 have hilt:i<fps.length:=by rw [hr.1];exact hil
 have hci:c<tsz E (.st n):=by
  have:=(List.getElem?_eq_some_iff.1 hcell).1
  rw [toAts_length] at this
  exact this
 obtain ⟨v,f2,fh,k1,k2,k3,k4⟩:=DeepL.hole (hr.2 i hil) hcell
 have hvc:cur[i * tsz E (.st n)+c]? = some v:=seg_cell k1 hci
 have hvsl:∃A n m,v = .slice A n m:=by
  cases d with
  | zero=>exact k2.elim
  | succ d=>
   rcases k2 with ⟨A,hw,_⟩ | ⟨g,cap,cur,fps,hw,_⟩
   ·exact ⟨_,_,_,hw⟩
   ·exact ⟨_,_,_,hw⟩
 have hvw:v=w:=by
  obtain ⟨A,p,q,hs⟩:=hvsl
  have:=hin i c hil hci ⟨A,p,q,by rw [hvc,hs]⟩
  rw [hvc] at this
  rw [hwv];simpa using this
 subst hvw
 have hocc:∀k∈G.loc id::fps.flatten,Occ G id (.drow e (.st n) xs hid:Blk E) k:=fun k hk=>by
  rcases List.mem_cons.1 hk with rfl | hk
  ·exact .inl ⟨rfl,by rw [hhd];exact hcap⟩
  ·exact .inr (by rw [hfp];exact hk)
 obtain ⟨hnl,hnf⟩:=List.nodup_cons.1 hnd
 have hp1:=flatten_get hilt
 have hn1:=List.nodup_append.1 (hp1.nodup_iff.1 hnf)
 have hn2:=List.nodup_append.1 (k4.nodup_iff.1 hn1.1)
 have hm:∀j∈[id],∃b,S.h j=some b∧b.fz=false:=fun j hj=>by simp at hj;subst hj;exact ⟨_,hb,rfl⟩
 obtain ⟨s1,s2,s3⟩:=hS.release (W':=W) [id] hm (fun k _=>.inr rfl) (Nat.le_refl _) ⟨rfl,rfl,rfl⟩
 have free:∀k∈G.loc id::fps.flatten,Free cx G { S with H:=gones [id]++S.H } k:=fun k hk=>s3 k (.inr ⟨id,by simp,_,hb,hocc k hk⟩)
 have hf2m:∀k∈f2,k∈fps.flatten:=fun k hk=>hp1.mem_iff.2 (List.mem_append_left _ (k4.mem_iff.2 (List.mem_append_left _ hk)))
 have hfhm:∀k∈fh,k∈fps.flatten:=fun k hk=>hp1.mem_iff.2 (List.mem_append_left _ (k4.mem_iff.2 (List.mem_append_right _ hk)))
 have hsh:OwnA E W G.F true (.slice e' t') ys v f2:=by
  show RwA E W G.F (true && !t'.flat1 E) e' t' ys v f2
  cases hft:t'.flat1 E with
  | false=>exact ⟨hn2.1,d,k2⟩
  | true=>
   cases d with
   | zero=>exact k2.elim
   | succ d=>
    rcases k2 with ⟨A,h1,h2,h3⟩ | ⟨g,cap',cur',fps',h1,h2,h3,h4,h5,h6,h7,h8⟩
    ·exact .inl ⟨A,h1,h2,h3⟩
    ·have hall:∀(j:Nat) (hj:j<ys.length),RoE E (RoA E W G.F d) t' ys[j] ((cur'.toList.drop (j * tsz E t')).take (tsz E t')):=fun j hj=>RoE.flat (F:=fun _=>True) hft ((h8.2 j hj).ro (fun t x v fp hF h=>DeepA.ro hF h) (fun _ _=>trivial))
     have hnilf:fps'.flatten=[]:=by
      have:∀j (hj:j<ys.length),fps'.getD j []=[]:=fun j hj=>by
       have hd:=h8.2 j hj
       have aux:∀ {t:Ty} {x:Ty.D E.S t} {vs:List Value} {fp:List Nat},t.flat1 E=true→DeepE E (DeepA E W d) t x vs fp→fp=[]:=by
        have auxL:∀ {ts:List Ty} {x:HT E.S ts} {vs:List Value} {fp:List Nat},(ts.all fun | .slice _ _=>false | .rsl _ _=>false | _=>true)=true→DeepL E (DeepA E W d) ts x vs fp→fp=[]:=by
         intro ts
         induction ts with
         | nil=>intro x vs fp _ h;exact h.2
         | cons t ts ih=>
          rintro x vs fp hf ⟨v,r,f1,f2,_,rfl,ha,hr⟩
          simp only [List.all_cons,Bool.and_eq_true] at hf
          have h1:f1=[]:=by
           cases t with
           | slice e t=>cases hf.1
           | rsl e t=>cases hf.1
           | int k=>cases d<;>exact ha.2
           | bool=>cases d<;>exact ha.2
           | str=>cases d<;>exact ha.2
           | opq=>cases d<;>exact ha.2
           | st n=>cases d<;>exact ha.elim
           | arr k n=>cases d<;>exact ha.elim
           | pbx b n=>cases d<;>exact ha.elim
          rw [h1,ih hf.2 hr];rfl
        intro t x vs fp hf h
        cases t with
        | st n=>exact auxL hf h
        | slice e t=>cases hf
        | rsl e t=>cases hf
        | int k=>obtain ⟨v,_,h⟩:=h;cases d<;>exact h.2
        | bool=>obtain ⟨v,_,h⟩:=h;cases d<;>exact h.2
        | str=>obtain ⟨v,_,h⟩:=h;cases d<;>exact h.2
        | opq=>obtain ⟨v,_,h⟩:=h;cases d<;>exact h.2
        | arr k n=>obtain ⟨v,_,h⟩:=h;cases d<;>exact h.elim
        | pbx b n=>obtain ⟨v,_,h⟩:=h;cases d<;>exact h.elim
       exact aux hft hd
      rw [List.flatten_eq_nil_iff]
      intro l hl
      obtain ⟨j,hj,rfl⟩:=List.getElem_of_mem hl
      have:=this j (by rw [← h8.1];exact hj)
      rwa [List.getD_eq_getElem?_getD,List.getElem?_eq_getElem hj] at this
     rw [hnilf] at h2
     exact .inr ⟨g,cap',cur',d,h1,h2,h3,h4,h5,h6,h7,hall⟩
 have fresh:∀k,fr≤k→k<fr+3→lk (gones (E:=E) [id]++S.H) k=none:=fun k h1 h2=>fresh_gones hm (hnew k h1 h2)
 have hmk:(mkRow E true e' t' ys fr).2≤fr+2:=by
  unfold mkRow
  cases true && !t'.flat1 E<;>simp
 obtain ⟨G1,t1,t2,t3,t4,t5⟩:=mkRow_sound (S:={ S with H:=gones [id]++S.H }) s1 (dp:=true) (fr:=fr) hsh (fun k hk=>free k (List.mem_cons_of_mem _ (hf2m k hk))) (fun k h1 h2=>fresh k h1 (by omega))
 have hkfr:St.k { S with H:=(mkRow E true e' t' ys fr).1++(gones [id]++S.H) } fr:=t4.1
 have hf2n:lk ((mkRow E true e' t' ys fr).1++(gones [id]++S.H)) (fr+2)=none:=by
  rw [lk_append,mkRow_key _ _ _ _ _ _ (.inr hmk)]
  exact fresh (fr+2) (by omega) (by omega)
 obtain ⟨G2,u1,u2,u3,u4,u5,u6⟩:=t1.adoptHdr (fr:=fr+2) hf2n (fun _ _=>v) (fps.set i fh).flatten
 have hidne:∀k,fr≤k→k<fr+3→id≠k:=fun k h1 h2 e=>by
  have:=St.h_k hb
  unfold St.k at this
  rw [e,hnew k h1 h2] at this;cases this
 have hgone:St.h { S with H:=(fr+2,(.hdr:Blk E))::((mkRow E true e' t' ys fr).1++(gones [id]++S.H)) } id=none:=by
  unfold St.h
  simp only [lk_cons]
  rw [if_neg (fun e=>hidne (fr+2) (by omega) (by omega) e.symm),lk_append,mkRow_key _ _ _ _ _ _ (by
   by_cases h:id<fr
   ·exact .inl h
   ·refine .inr ?_
    have:=hidne id (by omega)
    omega),lk_append]
  simp [gones,lk_cons]
 have hid0:S.k id:=St.h_k hb
 have hE02:Ext G S.k W G2 (St.k { S with H:=(fr+2,(.hdr:Blk E))::((mkRow E true e' t' ys fr).1++(gones [id]++S.H)) }) W:=(s2.trans t2).trans u2
 have hperm:=flatten_set hilt fh
 have hrest:∀k,k∈(fps.set i []).flatten→k∈fps.flatten:=fun k hk=>hp1.mem_iff.2 (by simp [hk])
 have hmem:∀k,k∈(fps.set i fh).flatten→k∈fh∨k∈(fps.set i []).flatten:=fun k hk=>by
  rcases List.mem_append.1 (hperm.mem_iff.1 hk) with h | h
  ·exact .inl h
  ·exact .inr h
 have hsub:∀k,k∈(fps.set i fh).flatten→k∈fps.flatten:=fun k hk=>by
  rcases hmem k hk with h | h
  ·exact hfhm k h
  ·exact hrest k h
 have hnf2:∀k,k∈(fps.set i fh).flatten→k∉f2:=fun k hk h2=>by
  rcases hmem k hk with h | h
  ·exact hn2.2.2 k h2 k h rfl
  ·exact hn1.2.2 k (k4.mem_iff.2 (List.mem_append_left _ h2)) k h rfl
 have hndh:(fps.set i fh).flatten.Nodup:=hperm.nodup_iff.2 (List.nodup_append.2 ⟨hn2.2.1,hn1.2.1,fun k h1 k' h2 e=>hn1.2.2 k (k4.mem_iff.2 (List.mem_append_right _ h1)) k' h2 e⟩)
 have hblk:BlkR (E:=E) G2 (St.k { S with H:=(id,.hole e n xs (fr+2) i c)::(fr+2,(.hdr:Blk E))::((mkRow E true e' t' ys fr).1++(gones [id]++S.H)) }) W id (.hole e n xs (fr+2) i c):=by
  refine ⟨k_cons (S:={ S with H:=(fr+2,(.hdr:Blk E))::((mkRow E true e' t' ys fr).1++(gones [id]++S.H)) }) (by unfold St.k;simp [lk_cons]),by rw [hE02.ln id hid0];exact b1,by rw [hE02.sz id hid0];exact b2,hci,hil,cap,cur,d,fps.set i fh,by rw [hE02.hd id hid0,hE02.loc id hid0];exact hhd,hcap,by rw [hE02.loc id hid0];exact hh,hlen,hmax,hcur,u5,by
   rw [hE02.loc id hid0]
   exact List.nodup_cons.2 ⟨fun h=>hnl (hsub _ h),hndh⟩,by simp [hr.1],by rw [u4];exact hvc,fun j hj hne=>?_,?_⟩
  ·rw [List.getD_eq_getElem?_getD,List.getElem?_set_ne (fun e=>hne e.symm),← List.getD_eq_getElem?_getD]
   exact hr.2 j hj
  ·rw [List.getD_eq_getElem?_getD,List.getElem?_set_self hilt]
   exact k3
 have hocc2:∀k,Occ (E:=E) G2 id (.hole e n xs (fr+2) i c) k→k=G.loc id∨k∈(fps.set i fh).flatten:=fun k ho=>by
  rcases ho with h | h
  ·exact .inl (by rw [h,hE02.loc id hid0])
  ·exact .inr (by rw [← u5];exact h)
 have k:=u1.adopt (id:=id) hgone ext_self rfl hblk rfl (fun k ho=>u6 k (by
  rcases hocc2 k ho with rfl | h
  ·exact t5 _ (fun h=>hnl (hf2m _ h)) (free _ (by simp))
  ·exact t5 k (hnf2 k h) (free k (List.mem_cons_of_mem _ (hsub k h)))))
 have hEx:Ext G2 (St.k { S with H:=(fr+2,(.hdr:Blk E))::((mkRow E true e' t' ys fr).1++(gones [id]++S.H)) }) W G2 (St.k { S with H:=(id,.hole e n xs (fr+2) i c)::(fr+2,(.hdr:Blk E))::((mkRow E true e' t' ys fr).1++(gones [id]++S.H)) }) W:=ext_self
 have hH:((id,(.hole e n xs (fr+2) i c:Blk E))::(fr+2,.hdr)::((mkRow E true e' t' ys fr).1++[(id,.gone)]))++S.H=(id,.hole e n xs (fr+2) i c)::(fr+2,(.hdr:Blk E))::((mkRow E true e' t' ys fr).1++(gones [id]++S.H)):=by
  simp [gones]
 refine ⟨G2,by rw [hH];exact k,by rw [hH];exact hE02.trans hEx,by rw [hH];exact (t4.ext u2).ext hEx,fun q h1 h2=>?_,?_,by rw [u4],?_,?_,?_,?_⟩
 ·rw [hH,lk_cons,if_neg (fun e=>by subst e;have:=St.h_k hb;unfold St.k at this;rw [h2] at this;cases this),lk_cons,if_neg (by omega),lk_append,mkRow_key _ _ _ _ _ _ (.inr (by omega))]
  exact fresh_gones hm h2
 ·intro e1 n1 xs1 h1 i1 c1 hl
  simp only [lk_cons,if_true] at hl
  cases hl
  exact ⟨rfl,rfl,rfl⟩
 ·rw [hH]
  unfold St.k
  simp only [lk_cons]
  split<;>simp
 ·rw [hH];exact hEx.K _ (u2.K _ hkfr)
 ·rw [hH];unfold St.k;simp [lk_cons]
 ·rw [u2.hd fr hkfr];exact t4.2.1.symm
end Mir
namespace Mir
set_option linter.unusedVariables false
set_option linter.unusedSimpArgs false
open Go
variable {E:Env} {P:Program} {T:Tb} {cx:Cx} {G G':Gh} {S:St E} {tm:Array Value} {a:Act} {W W':World}
theorem attachK_sound (hS:Sim cx G S tm W) {id fr lim e n hid i c:Nat} {xs:List (E.S n)} {e':Nat} {t':Ty} {ys:List (Ty.D E.S t')} (hlim:lk S.H lim=none) (hb:S.h id=some (.hole e n xs hid i c)) (hne:id≠fr) {b:Blk E} (hbf:S.h fr=some b) (hbz:b.fz=false)
  {f2:List Nat} {d2:Nat} (hd2:DeepA E W d2 (.slice e' t') ys (G.hd fr) f2) (hhand:Hand G S [fr] f2) (hinh:G.inh hid i c=G.hd fr) {H:Nat→Option (Blk E)} {S0:St E} (hH:H=S0.h) {l l':List Nat} {u:Up E} (h:RM.Out H (attachK E id fr lim e n xs i c e' t' ys) l u l') :
  ∃G',Sim cx G' { S with H:=u++S.H } tm W∧Ext G S.k W G' (St.k { S with H:=u++S.H }) W:=by
 subst hH
 unfold attachK at h
 obtain ⟨x,l1,h1,h⟩:=RM.Out_bind h
 obtain rfl:=h.1
 unfold putSl at h1
 have hb1:=RM.Out_bind h1;clear h1;obtain ⟨h',l2,h1,h2⟩:=hb1
 obtain rfl:=h2.1
 obtain ⟨b0,b1,b2,hci,hil,cap,cur,d,fps,hhd,hcap,hh,hlen,hmax,hcur,hfp,hnd,hfl,hcell,k1,k2⟩:=hS.blks id _ hb
 rw [el_get hil] at h1
 have hilt:i<fps.length:=by rw [hfl];exact hil
 have hocc:∀k∈G.loc id::fps.flatten,Occ G id (.hole e n xs hid i c:Blk E) k:=fun k hk=>by
  rcases List.mem_cons.1 hk with rfl | hk
  ·exact .inl rfl
  ·exact .inr (by rw [hfp];exact hk)
 have hf2:f2.Nodup:=hhand.nodup (by simp)
 have hf2o:∀k∈f2,Occ G fr b k:=fun k hk=>by
  obtain ⟨j,hj,c,hc,ho⟩:=hhand.blks k hk
  simp at hj;subst hj
  rw [hbf] at hc;cases hc;exact ho
 have hdis:∀k∈f2,k∉G.loc id::fps.flatten:=fun k h1 h2=>hne (hS.inj id fr _ _ k hb hbf (hocc k h2) (hf2o k h1))
 obtain ⟨hnl,hnf⟩:=List.nodup_cons.1 hnd
 have hm:∀j∈[id,fr],∃b,S.h j=some b∧b.fz=false:=fun j hj=>by
  rcases List.mem_cons.1 hj with rfl | hj
  ·exact ⟨_,hb,rfl⟩
  ·simp at hj;subst hj;exact ⟨_,hbf,hbz⟩
 obtain ⟨s1,s2,s3⟩:=hS.release (W':=W) [id,fr] hm (fun k _=>.inr rfl) (Nat.le_refl _) ⟨rfl,rfl,rfl⟩
 have hvs:(seg cur.toList i (tsz E (.st n)))[c]? = some (G.hd fr):=by
  rw [seg_get,if_pos hci,← hinh];simpa using hcell
 obtain ⟨fp,j1,j2⟩:=DeepH.fill (hd2 |> DeepA.same d2 (max d d2) (Nat.le_max_right _ _) _ _ _ _ (fun _ _=>rfl)) (k2.raise (Nat.le_max_left _ _) (fun _ _=>rfl)) hvs h1
 have hperm:=flatten_set hilt fp
 have hp1:=flatten_get hilt
 have hn1:=List.nodup_append.1 (hp1.nodup_iff.1 hnf)
 have hmem:∀k,k∈(fps.set i fp).flatten→k∈f2∨k∈fps.flatten:=fun k hk=>by
  rcases List.mem_append.1 (hperm.mem_iff.1 hk) with h | h
  ·rcases List.mem_append.1 (j2.mem_iff.1 h) with h | h
   ·exact .inl h
   ·exact .inr (getD_mem h)
  ·exact .inr (hp1.mem_iff.2 (List.mem_append_right _ h))
 have hndp:(fps.set i fp).flatten.Nodup:=hperm.nodup_iff.2 (List.nodup_append.2 ⟨j2.nodup_iff.2 (List.nodup_append.2 ⟨hf2,hn1.1,fun k h1 k' h2 e=>hdis k h1 (List.mem_cons_of_mem _ (getD_mem (e▸h2)))⟩),hn1.2.1,fun k h1 k' h2 e=>by
  subst e
  rcases List.mem_append.1 (j2.mem_iff.1 h1) with h | h
  ·exact hdis k h (List.mem_cons_of_mem _ (hp1.mem_iff.2 (List.mem_append_right _ h2)))
  ·exact hn1.2.2 k h k h2 rfl⟩)
 have hA:DeepA E W (max d d2+1) (.slice e (.st n)) (xs.set i (E.shut n h')) (G.hd id) (G.loc id::(fps.set i fp).flatten):=by
  refine .inr ⟨G.loc id,cap,cur,fps.set i fp,by simpa using hhd,rfl,hcap,hh,by simpa using hlen,hmax,hcur,by simp [hfl],fun j hj=>?_⟩
  have hj':j<xs.length:=by simpa using hj
  by_cases hji:j=i
  ·subst hji
   simp only [List.getElem_set_self]
   rw [List.getD_eq_getElem?_getD,List.getElem?_set_self hilt]
   show DeepL E _ (E.fl n) (E.opn n (E.shut n h')) _ _
   rw [E.opn_shut]
   exact j1
  ·rw [List.getElem_set_ne (fun e=>hji e.symm),List.getD_eq_getElem?_getD,List.getElem?_set_ne (fun e=>hji e.symm),← List.getD_eq_getElem?_getD]
   exact (k1 j hj' hji).raise (Nat.le_max_left _ _) (fun _ _=>rfl)
 have hidk:=St.h_k hb
 have hlne:id≠lim:=fun e=>by unfold St.k at hidk;rw [e,hlim] at hidk;cases hidk
 obtain ⟨G',t1,t2,t3,t4,_⟩:=s1.adoptD (id:=id) (hid:=lim) (gones_h (by simp)) (fresh_gones hm hlim) hlne hA (List.nodup_cons.2 ⟨fun h=>by
   rcases hmem _ h with h | h
   ·exact hdis _ h (by simp)
   ·exact hnl h,hndp⟩) (fun k hk=>s3 k (by
   rcases List.mem_cons.1 hk with rfl | hk
   ·exact .inr ⟨id,by simp,_,hb,hocc _ (by simp)⟩
   ·rcases hmem k hk with h | h
    ·exact .inr ⟨fr,by simp,_,hbf,hf2o k h⟩
    ·exact .inr ⟨id,by simp,_,hb,hocc k (List.mem_cons_of_mem _ h)⟩)) (.inr ⟨rfl,by rw [b1];simp,b2,fun _=>⟨cap,by rw [hhd];simp⟩⟩)
 exact ⟨G',t1,s2.trans t2⟩
theorem attach_sound {R U:Up E} (hS:Sim cx G { S with H:=(R++U)++S.H } tm W) {id fr lim:Nat} (hne:id≠fr) (hlim:lk S.H lim=none) (hinh:∀e n xs hid i c,lk U id=some (.hole e n xs hid i c)→G.inh hid i c=G.hd fr) {l l':List Nat} {u:Up E} (h:RM.Out S.h (attach E R U id fr lim) l u l') :
  ∃G',Sim cx G' { S with H:=u++((R++U)++S.H) } tm W∧Ext G (St.k { S with H:=(R++U)++S.H }) W G' (St.k { S with H:=u++((R++U)++S.H) }) W:=by
 unfold attach at h
 have hb':=RM.Out_bif h;clear h;obtain ⟨hc,h⟩:=hb'
 simp only [Bool.and_eq_true,Option.isNone_iff_eq_none] at hc
 split at h
 rotate_left
 ·exact h.elim
 rename_i e n xs hid i c hhole
 have hb:St.h { S with H:=(R++U)++S.H } id=some (.hole e n xs hid i c):=by
  rw [h_append,lk_append,hc.2,hhole]
 have hl:lk ((R++U)++S.H) lim=none:=by rw [lk_append,hc.1];exact hlim
 have hi:=hinh _ _ _ _ _ _ hhole
 split at h
 ·rename_i e' t' ys hrow
  have hb':=RM.Out_bif h;clear h;obtain ⟨hfl,h⟩:=hb'
  have hbf:St.h { S with H:=(R++U)++S.H } fr=some (.row e' t' ys false):=by rw [h_append,hrow]
  obtain ⟨f2,h1,h2⟩:=row_own hS (fun _ h=>h) hbf
  obtain ⟨d2,h1⟩:=ShA.deep hfl h1
  exact attachK_sound hS hl hb hne hbf rfl h1 h2 hi rfl h
 ·rename_i e' t' ys hh hrow
  have hbf:St.h { S with H:=(R++U)++S.H } fr=some (.drow e' t' ys hh):=by rw [h_append,hrow]
  obtain ⟨f2,⟨_,d2,h1⟩,h2⟩:=drow_own hS hbf
  exact attachK_sound hS hl hb hne hbf rfl h1 h2 hi rfl h
 ·exact h.elim
theorem innIx_spec:∀ {ps:List Par} {vs:List (AV E)} {k j id hid i c:Nat},innIx ps vs k=some (j,id,hid,i,c)→k≤j∧vs[j - k]? = some (.c (.at (.inn id hid i c)))
 | [],_,_,_,_,_,_,_,h=>by simp [innIx] at h
 | p::ps,[],_,_,_,_,_,_,h=>by cases p<;>simp [innIx] at h
 | p::ps,v::vs,k,j,id,hid,i,c,h=>by
  have next:innIx ps vs (k+1)=some (j,id,hid,i,c)→k≤j∧(v::vs)[j - k]? = some (.c (.at (.inn id hid i c))):=fun h=>by
   obtain ⟨h1,h2⟩:=innIx_spec h
   refine ⟨by omega,?_⟩
   rw [show j - k=(j - (k+1))+1 by omega,List.getElem?_cons_succ]
   exact h2
  cases p with
  | «mut» dp t=>
   simp only [innIx] at h
   split at h
   ·cases h;exact ⟨Nat.le_refl _,by simp⟩
   ·exact next h
  | _=>exact next (by simpa [innIx] using h)
theorem AVsR.get {G:Gh} {K:Nat→Prop} {W:World}:∀ {xs:List (AV E)} {vs:List Value} {k:Nat} {x:AV E},AVsR G K W xs vs→xs[k]? = some x→∃v,AVR G K W x v∧∀(G':Gh) (K':Nat→Prop) (y:AV E),AVsR G' K' W xs vs→AVR G' K' W y v→AVsR G' K' W (xs.set k y) vs
 | [],_,_,_,_,h=>by simp at h
 | x::xs,_,0,y,⟨v,r,hv,ha,hr⟩,h=>by
  simp only [List.getElem?_cons_zero,Option.some.injEq] at h
  subst h hv
  refine ⟨v,ha,fun G' K' z hxs hz=>?_⟩
  obtain ⟨_,_,he,_,hr'⟩:=hxs
  cases he
  exact ⟨v,r,rfl,hz,hr'⟩
 | x::xs,_,k+1,y,⟨v,r,hv,ha,hr⟩,h=>by
  subst hv
  obtain ⟨w,h1,h2⟩:=AVsR.get hr (by simpa using h)
  refine ⟨w,h1,fun G' K' z hxs hz=>?_⟩
  obtain ⟨_,_,he,ha',hr'⟩:=hxs
  cases he
  exact ⟨v,r,rfl,ha',h2 G' K' z hr' hz⟩
theorem acallD_sound (hS:Sim cx G S tm W) {s:Spec E} {f:FuncId} (hf:Sound P E f s) {fr:Nat} {vs:List (AV E)} {ws:List Value} (ha:AVsR G S.k W vs ws) {l l':List Nat} {r:Res E} (h:RM.Out S.h (acallD s fr vs) l r l') (hnew:∀k,fr≤k→k<fr+STR→lk S.H k=none) :
  Calls P f ws.toArray W fun e W'=>∃v G',e = .returned v∧Sim cx G' { S with H:=r.2++S.H } tm W'∧Ext G S.k W G' (St.k { S with H:=r.2++S.H }) W'∧AVR G' (St.k { S with H:=r.2++S.H }) W' r.1 v:=by
 unfold acallD at h
 split at h
 ·exact acall_sound hS hf ha h hnew
 rename_i k id hid i c hix
 obtain ⟨U,l1,hU,h⟩:=RM.Out_bind h
 obtain ⟨q,l2,hq,h⟩:=RM.Out_bind h
 obtain ⟨u,l3,hu,h⟩:=RM.Out_bind h
 obtain rfl:=h.1
 obtain ⟨_,hget⟩:=innIx_spec hix
 rw [Nat.sub_zero] at hget
 obtain ⟨w,hw,hset⟩:=ha.get hget
 have hw:AtR (E:=E) G S.k W (.inn id hid i c) w:=hw
 obtain ⟨G1,s1,s2,s3,s4,s5,s6,s7,s8,s9,s10⟩:=detach_sound hS (fun q h1 h2=>hnew q h1 (by simp only [STR];omega)) hw hU
 have hargs:=hset G1 _ (.a (.own fr)) (ha.ext s2) s3
 obtain ⟨l4,hq'⟩:=over_out (U:=U) (k:=[]) hq
 have hc:=acall_sound s1 hf hargs hq' (fun q h1 h2=>s4 q h1 (hnew q (by omega) (by simp only [STR];omega)))
 refine hc.mono ?_
 rintro e W' ⟨v,G2,rfl,t1,t2,t3⟩
 have hidk:S.k id:=hw.1
 have hne:id≠fr:=fun e=>by unfold St.k at hidk;rw [e,hnew fr (Nat.le_refl _) (by simp [STR])] at hidk;cases hidk
 have hassoc:q.2++(U++S.H)=(q.2++U)++S.H:=(List.append_assoc _ _ _).symm
 have t1:Sim cx G2 { S with H:=(q.2++U)++S.H } tm W':=by rw [← hassoc];exact t1
 obtain ⟨G3,v1,v2⟩:=attach_sound t1 hne (hnew (fr+63) (by omega) (by simp [STR])) (fun e n xs hid' i' c' hl=>by
  obtain ⟨rfl,rfl,rfl⟩:=s5 _ _ _ _ _ _ hl
  rw [t2.inh _ s7,t2.hd _ s8,s6,s10]) hu
 have hassoc2:(u++(q.2++U))++S.H=u++((q.2++U)++S.H):=List.append_assoc _ _ _
 have t2':Ext G1 (St.k { S with H:=U++S.H }) W G2 (St.k { S with H:=(q.2++U)++S.H }) W':=by rw [← hassoc];exact t2
 have t3':AVR G2 (St.k { S with H:=(q.2++U)++S.H }) W' q.1 v:=by rw [← hassoc];exact t3
 refine ⟨v,G3,rfl,?_,?_,?_⟩
 ·rw [hassoc2];exact v1
 ·rw [hassoc2];exact (s2.trans t2').trans v2
 ·rw [hassoc2];exact t3'.ext v2
theorem rslAt_list {t:Ty} {x:At E} {l l':List Nat} {q:Up E×At E} (h:RM.Out S.h (rslAt t x) l q l'):FrzL S q.1∧∀(hS:Sim cx G S tm W) (F':Nat→Prop) (U:Up E),(∀k,G.F k→F' k)→(∀p∈q.1,(lk U p.1).isSome=true)→(∀id b,(lk U id).isSome=true→S.h id=some b→∀k,Occ G id b k→F' k)→∀v,AtR G S.k W x v→AtR { G with F:=F' } (St.k { S with H:=U++S.H }) W q.2 v:=by
 unfold rslAt at h
 split at h
 ·rename_i id
  obtain ⟨b,hb,h⟩:=h
  dsimp only at h
  split at h
  ·rename_i e t xs f
   obtain rfl:=h.1
   refine ⟨fun p hp=>by rw [List.mem_singleton] at hp;subst hp;exact ⟨_,_,_,rfl,.inl ⟨_,hb⟩⟩,fun hS F' U hF hU hf v hv=>?_⟩
   obtain ⟨_,rfl,_⟩:=hv
   obtain ⟨_,_,_,hB⟩:=hS.blks id _ hb
   rcases hB with ⟨A,hA,rfl⟩ | ⟨cap,cur,d,hhd,hc,hh,i1,i2,i3,hr⟩
   ·rw [hA];exact ⟨1,A,0,rfl,Nat.le_refl _,fun h=>absurd h (by simp)⟩
   ·rw [hhd]
    have hocc:F' (G.loc id):=hf id _ (hU _ (List.mem_singleton_self _)) hb _ ⟨rfl,by rw [hhd];exact hc⟩
    refine ⟨d+1,_,cap,rfl,i1,fun h0=>⟨_,rfl,hocc,fun i hi=>⟨_,(hr i hi).mono fun t x v=>RoA.more hF (fun _ _=>rfl) d d (Nat.le_refl _) t x v,fun j hj=>cell_seg hh hi i1 i3 j hj⟩⟩⟩
  ·exact h.elim
 ·obtain rfl:=h.1
  exact ⟨FrzL.nil,fun hS F' U hF _ _ v hv=>hv.ext (ext_F hF)⟩
theorem rslAts_list:∀ {ts:List Ty} {xs:List (At E)} {l l':List Nat} {q:Up E×List (At E)},RM.Out S.h (rslAts ts xs) l q l'→FrzL S q.1∧∀(hS:Sim cx G S tm W) (F':Nat→Prop) (U:Up E),(∀k,G.F k→F' k)→(∀p∈q.1,(lk U p.1).isSome=true)→(∀id b,(lk U id).isSome=true→S.h id=some b→∀k,Occ G id b k→F' k)→∀vs,AtsR G S.k W xs vs→AtsR { G with F:=F' } (St.k { S with H:=U++S.H }) W q.2 vs
 | t::ts,x::xs,l,l',q,h=>by
  obtain ⟨p,l1,h1,h⟩:=RM.Out_bind h
  obtain ⟨r,l2,h2,h⟩:=RM.Out_bind h
  obtain rfl:=h.1
  obtain ⟨a1,a2⟩:=rslAt_list (cx:=cx) (G:=G) (tm:=tm) (W:=W) h1
  obtain ⟨b1,b2⟩:=rslAts_list h2
  refine ⟨a1.app b1,fun hS F' U hF hU hf vs hv=>?_⟩
  obtain ⟨v,w,rfl,k1,k2⟩:=hv
  exact ⟨v,w,rfl,a2 hS F' U hF (fun p hp=>hU p (List.mem_append_left _ hp)) hf v k1,b2 hS F' U hF (fun p hp=>hU p (List.mem_append_right _ hp)) hf w k2⟩
 | [],xs,_,_,_,h=>by
  obtain rfl:=h.1
  exact ⟨FrzL.nil,fun hS F' U hF _ _ vs hv=>hv.ext (ext_F hF)⟩
 | _::_,[],_,_,_,h=>by
  obtain rfl:=h.1
  exact ⟨FrzL.nil,fun hS F' U hF _ _ vs hv=>hv.ext (ext_F hF)⟩
theorem rslArg_list {p:Par} {x:AV E} {l l':List Nat} {q:Up E×AV E} (h:RM.Out S.h (rslArg E p x) l q l'):FrzL S q.1∧∀(hS:Sim cx G S tm W) (F':Nat→Prop) (U:Up E),(∀k,G.F k→F' k)→(∀p∈q.1,(lk U p.1).isSome=true)→(∀id b,(lk U id).isSome=true→S.h id=some b→∀k,Occ G id b k→F' k)→∀v,AVR G S.k W x v→AVR { G with F:=F' } (St.k { S with H:=U++S.H }) W q.2 v:=by
 unfold rslArg at h
 split at h
 ·obtain ⟨r,l1,h1,h⟩:=RM.Out_bind h
  obtain rfl:=h.1
  obtain ⟨a1,a2⟩:=rslAts_list (cx:=cx) (G:=G) (tm:=tm) (W:=W) h1
  refine ⟨a1,fun hS F' U hF hU hf v hv=>?_⟩
  obtain ⟨vs,rfl,hv⟩:=hv
  exact ⟨vs,rfl,a2 hS F' U hF hU hf vs hv⟩
 ·obtain ⟨r,l1,h1,h⟩:=RM.Out_bind h
  obtain rfl:=h.1
  obtain ⟨a1,a2⟩:=rslAts_list (cx:=cx) (G:=G) (tm:=tm) (W:=W) h1
  refine ⟨a1,fun hS F' U hF hU hf v hv=>?_⟩
  obtain ⟨vs,rfl,hv⟩:=hv
  exact ⟨vs,rfl,a2 hS F' U hF hU hf vs hv⟩
 ·obtain rfl:=h.1
  exact ⟨FrzL.nil,fun hS F' U hF _ _ v hv=>hv.ext (ext_F hF)⟩
theorem rslArgs_list:∀ {ps:List Par} {xs:List (AV E)} {l l':List Nat} {q:Up E×List (AV E)},RM.Out S.h (rslArgs E ps xs) l q l'→FrzL S q.1∧∀(hS:Sim cx G S tm W) (F':Nat→Prop) (U:Up E),(∀k,G.F k→F' k)→(∀p∈q.1,(lk U p.1).isSome=true)→(∀id b,(lk U id).isSome=true→S.h id=some b→∀k,Occ G id b k→F' k)→∀vs,AVsR G S.k W xs vs→AVsR { G with F:=F' } (St.k { S with H:=U++S.H }) W q.2 vs
 | t::ts,x::xs,l,l',q,h=>by
  obtain ⟨p,l1,h1,h⟩:=RM.Out_bind h
  obtain ⟨r,l2,h2,h⟩:=RM.Out_bind h
  obtain rfl:=h.1
  obtain ⟨a1,a2⟩:=rslArg_list (cx:=cx) (G:=G) (tm:=tm) (W:=W) h1
  obtain ⟨b1,b2⟩:=rslArgs_list h2
  refine ⟨a1.app b1,fun hS F' U hF hU hf vs hv=>?_⟩
  obtain ⟨v,w,rfl,k1,k2⟩:=hv
  exact ⟨v,w,rfl,a2 hS F' U hF (fun p hp=>hU p (List.mem_append_left _ hp)) hf v k1,b2 hS F' U hF (fun p hp=>hU p (List.mem_append_right _ hp)) hf w k2⟩
 | [],xs,_,_,_,h=>by
  obtain rfl:=h.1
  exact ⟨FrzL.nil,fun hS F' U hF _ _ vs hv=>hv.ext (ext_F hF)⟩
 | _::_,[],_,_,_,h=>by
  obtain rfl:=h.1
  exact ⟨FrzL.nil,fun hS F' U hF _ _ vs hv=>hv.ext (ext_F hF)⟩
theorem lk_self {α:Type}:∀(U:List (Nat×α)) (p:Nat×α),p∈U→(lk U p.1).isSome=true
 | (j,b)::r,p,hp=>by
  rw [lk_cons]
  split
  ·rfl
  ·rename_i hne
   rcases List.mem_cons.1 hp with rfl | hp
   ·exact absurd rfl hne
   ·exact lk_self r p hp
theorem acallR_sound (hS:Sim cx G S tm W) {s:Spec E} {f:FuncId} (hf:Sound P E f s) {fr:Nat} {vs:List (AV E)} {ws:List Value} (ha:AVsR G S.k W vs ws) {l l':List Nat} {r:Res E} (h:RM.Out S.h (acallR s fr vs) l r l') (hnew:∀k,fr≤k→k<fr+STR→lk S.H k=none) :
  Calls P f ws.toArray W fun e W'=>∃v G',e = .returned v∧Sim cx G' { S with H:=r.2++S.H } tm W'∧Ext G S.k W G' (St.k { S with H:=r.2++S.H }) W'∧AVR G' (St.k { S with H:=r.2++S.H }) W' r.1 v:=by
 unfold acallR at h
 obtain ⟨q,l1,hq,h⟩:=RM.Out_bind h
 obtain ⟨hfr,hargs⟩:=rslArgs_list (cx:=cx) (G:=G) (tm:=tm) (W:=W) hq
 split at h
 ·exact acallD_sound hS hf ha h hnew
 rename_i p U hpU
 obtain ⟨c,l2,hc,h⟩:=RM.Out_bind h
 obtain rfl:=h.1
 rw [hpU] at hfr
 obtain ⟨F',s1,s2,s3⟩:=frz_all hS hfr
 have hE:Ext G S.k W { G with F:=F' } (St.k { S with H:=(p::U)++S.H }) W:=ext_F s2
 have ha':=hargs hS F' (p::U) s2 (fun x hx=>lk_self _ x (by rw [hpU] at hx;exact hx)) s3 ws ha
 obtain ⟨l3,hc'⟩:=over_out (U:=p::U) (k:=[]) hc
 have hnew':∀k,fr≤k→k<fr+STR→lk ((p::U)++S.H) k=none:=by
  intro k h1 h2
  rw [lk_append]
  cases hl:lk (p::U) k with
  | none=>exact hnew k h1 h2
  | some b=>
   obtain ⟨_,_,_,_,hb⟩:=hfr.keys k b hl
   have hn:=hnew k h1 h2
   rcases hb with ⟨f,hb⟩ | ⟨hid,hb⟩<;>(unfold St.h at hb;rw [hn] at hb;cases hb)
 refine (acallD_sound s1 hf ha' hc' hnew').mono ?_
 rintro e W' ⟨v,G2,rfl,t1,t2,t3⟩
 have hassoc:(c.2++(p::U))++S.H=c.2++((p::U)++S.H):=List.append_assoc _ _ _
 refine ⟨v,G2,rfl,?_,?_,?_⟩
 ·rw [hassoc];exact t1
 ·rw [hassoc];exact hE.trans t2
 ·rw [hassoc];exact t3
theorem dop_sound (hT:T.OK P) (hS:Sim cx G S a.tmps W) {fr:Nat} (hf:lk S.H fr=none) (hf1:lk S.H (fr+1)=none) {o:Oper} {l l':List Nat} {r:Res E} (h:RM.Out S.h (dop T fr (lk S.ρ) o.op) l r l') :
  ∃v W' G',((execOp a.eval o).run P W = .ok (.value v) W'∨((execOp a.eval o).run P W = .ok .skip W'∧v=undef))∧Sim cx G' { S with H:=r.2++S.H } a.tmps W'∧
   Ext G S.k W G' (St.k { S with H:=r.2++S.H }) W'∧AVR G' (St.k { S with H:=r.2++S.H }) W' r.1 v:=by
 have fin:∀ {m:Sem Value},(∀v W',m.run P W = .ok v W'→(execOp a.eval o).run P W = .ok (.value v) W')→Ends P cx G S a W m r→∃v W' G',((execOp a.eval o).run P W = .ok (.value v) W'∨((execOp a.eval o).run P W = .ok .skip W'∧v=undef))∧Sim cx G' { S with H:=r.2++S.H } a.tmps W'∧
   Ext G S.k W G' (St.k { S with H:=r.2++S.H }) W'∧AVR G' (St.k { S with H:=r.2++S.H }) W' r.1 v:=by
  rintro m hm ⟨v,W',G',h1,h2⟩
  exact ⟨v,W',G',.inl (hm v W' h1),h2⟩
 have plain:∀ {l},RM.Out S.h (aop T fr (lk S.ρ) o.op) l r l'→∃v W' G',((execOp a.eval o).run P W = .ok (.value v) W'∨((execOp a.eval o).run P W = .ok .skip W'∧v=undef))∧Sim cx G' { S with H:=r.2++S.H } a.tmps W'∧
   Ext G S.k W G' (St.k { S with H:=r.2++S.H }) W'∧AVR G' (St.k { S with H:=r.2++S.H }) W' r.1 v:=fun h=>aop_sound hT hS hf h
 have harr:∀ {α:Type} (xs:Array α) (l:List α),xs.toList=l→xs=l.toArray:=fun xs l h=>by rw [← h]
 unfold dop at h
 split at h
 ·rename_i t x i ho
  rw [ho] at plain
  split at h
  ·rename_i id hx
   obtain ⟨b,hb,h⟩:=h
   dsimp only at h
   split at h
   ·exact fin (fun v W' hr=>by simp [execOp,ho,hr]) (dIndexAddr_sound hT hS hx hb h)
   ·exact plain h
  ·exact plain h
 ·rename_i t x ho
  rw [ho] at plain
  split at h
  ·rename_i id i off hx
   obtain ⟨b,hb,h⟩:=h
   dsimp only at h
   split at h
   ·exact fin (fun v W' hr=>by simp [execOp,ho,hr]) (dLoad_sound hT hS hx hb h)
   ·exact plain h
  ·exact plain h
 ·rename_i t x y ho
  rw [ho] at plain
  split at h
  ·rename_i id i off hx
   obtain ⟨b,hb,h⟩:=h
   dsimp only at h
   split at h
   ·obtain ⟨v,W',G',h1,h2⟩:=dStore_sound hT hS hf hx hb h
    refine ⟨v,W',G',.inr ?_,h2⟩
    simp only [Sem.run_bind] at h1
    simp only [execOp,ho,Sem.run_bind]
    revert h1
    cases (Instr.storeAt t (a.eval x) (a.eval y)).run P W with
    | ok u w=>intro h1;simp at h1;obtain ⟨h1,rfl⟩:=h1;exact ⟨by simp,h1.symm⟩
    | halt _ _=>intro h1;simp at h1
   ·exact plain h
  ·exact plain h
 ·rename_i t lo co ho
  rw [ho] at plain
  split at h
  ·rename_i e s helem
   cases hc:T.deep && !(Ty.st s).flat1 E with
   | true=>rw [hc] at h;exact fin (fun v W' hr=>by simp [execOp,ho,hr]) (dMake_sound hT hS hf hf1 helem h)
   | false=>rw [hc] at h;exact plain h
  ·exact plain h
 ·rename_i t n ps ho
  rw [ho] at plain
  split at h
  ·rename_i e s helem
   cases hc:T.deep && !(Ty.st s).flat1 E with
   | true=>rw [hc] at h;exact fin (fun v W' hr=>by simp only [execOp,ho,Sem.run_bind,hr];simp) (dBuild_sound hT hS hf hf1 helem h)
   | false=>rw [hc] at h;exact plain h
  ·exact plain h
 ·rename_i c ho
  rw [ho] at plain
  obtain ⟨callee,args,argTypes⟩:=c
  dsimp only at h
  split at h
  ·split at h
   ·rename_i x hxs
    split at h
    ·rename_i id hx
     obtain ⟨b,hb,h⟩:=h
     dsimp only at h
     split at h
     ·split at h
      ·rename_i t hts
       split at h
       ·rename_i e hu
        obtain rfl:=harr _ _ hxs
        obtain rfl:=harr _ _ hts
        rw [one_sound h]
        rw [one_sound h] at fin
        exact fin (fun v W' hr=>by simp [execOp,ho,resolve,invoke,builtin,hr]) (dLen_sound (ty0:=o.type) hT hS hx hb hu)
       ·exact h.elim
      ·exact h.elim
     ·exact plain h
    ·exact plain h
   ·exact plain h
  ·split at h
   ·rename_i t u hts
    split at h
    ·rename_i e s helem
     cases hc:T.deep && !(Ty.st s).flat1 E with
     | true=>
      rw [hc] at h
      simp only [cond_true] at h
      split at h
      ·rename_i x y hxs
       obtain rfl:=harr _ _ hxs
       obtain rfl:=harr _ _ hts
       exact fin (fun v W' hr=>by simp [execOp,ho,resolve,invoke,builtin,hr]) (dAppend_sound (rty:=o.type) hT hS hf hf1 helem h)
      ·exact h.elim
     | false=>rw [hc] at h;exact plain h
    ·exact plain h
   ·exact plain h
  ·exact plain h
 ·exact plain h
end Mir
namespace Mir
set_option linter.unusedVariables false
set_option linter.unusedSimpArgs false
open Go
variable {E:Env} {P:Program} {T:Tb} {Γ:Ctx E} {cx:Cx} {G G':Gh} {S:St E} {tm:Array Value} {a:Act} {W W':World}
def GamOK (P:Program) (Γ:Ctx E):Prop:=∀f cl s,Γ f cl=some s→Sound P E f s
theorem avs_sound {A:Act} {G:Gh} {K:Nat→Prop} {W:World} {ρ:Nat→Option (AV E)} (hev:∀x v,evO ρ x=some v→AVR G K W v (A.eval x)):∀ {xs:List Operand} {vs:List (AV E)},avs (xs.map (evO ρ))=some vs→AVsR G K W vs (xs.map A.eval)
 | [],_,h=>by cases h;rfl
 | x::xs,vs,h=>by
  simp only [List.map_cons] at h
  cases hx:evO ρ x with
  | none=>rw [hx] at h;cases h
  | some v=>
   rw [hx] at h
   obtain ⟨r,h1,h2⟩:=Option.map_eq_some_iff.1 h
   subst h2
   exact ⟨_,_,rfl,hev x v hx,avs_sound hev h1⟩
theorem AVsR.app {G:Gh} {K:Nat→Prop} {W:World}:∀ {xs:List (AV E)} {ys:List (Cv E)} {vs ws:List Value},AVsR G K W xs vs→CvsR G K W ys ws→AVsR G K W (xs++ys.map .c) (vs++ws)
 | [],[],_,_,h,k=>by rw [AVsR] at h;rw [CvsR] at k;subst h k;rfl
 | [],y::ys,vs,_,h,⟨w,r,hw,ha,hr⟩=>by
  rw [AVsR] at h;subst h hw
  exact ⟨w,r,rfl,ha,AVsR.app (xs:=[]) (vs:=[]) rfl hr⟩
 | x::xs,ys,_,_,⟨v,r,hv,ha,hr⟩,k=>by subst hv;exact ⟨v,_,rfl,ha,hr.app k⟩
theorem aopC_sound (hT:T.OK P) (hΓ:GamOK P Γ) (hS:Sim cx G S a.tmps W) {fr:Nat} (hnew:∀k,fr≤k→k<fr+STR→lk S.H k=none) {o:Oper} {l l':List Nat} {r:Res E} (h:RM.Out S.h (aopC T Γ fr (lk S.ρ) o.op) l r l')
  {K:Act→World→Prop} {Q:Exit→Act→World→Prop} (hK:∀v W' G',Sim cx G' { S with H:=r.2++S.H } a.tmps W'→AVR G' (St.k { S with H:=r.2++S.H }) W' r.1 v→K (a.put o.dst v) W'):o.wp P a W K Q:=by
 have plain:RM.Out S.h (dop T fr (lk S.ρ) o.op) l r l'→o.wp P a W K Q:=by
  intro h
  obtain ⟨v,W',G',h1,h2,h3,h4⟩:=dop_sound hT hS (hnew fr (Nat.le_refl _) (by simp [STR])) (hnew (fr+1) (by omega) (by simp [STR])) h
  unfold Oper.wp
  rcases h1 with h1 | ⟨h1,rfl⟩
  ·rw [h1];exact hK v W' G' h2 h4
  ·rw [h1];exact hK _ W' G' h2 h4
 unfold aopC at h
 split at h
 ·rename_i c hop
  split at h
  ·rename_i f hcal
   split at h
   ·rename_i g caps vs hf hvs
    split at h
    ·rename_i s hs
     obtain ⟨ws,hw,hcaps⟩:=ev_sound hS hf
     have hargs:=avs_sound (A:=a) (G:=G) (K:=S.k) (W:=W) (fun x v hx=>ev_sound hS hx) hvs
     have hc:=acallR_sound hS (hΓ _ _ _ hs) (hargs.app hcaps) h hnew
     unfold Oper.wp
     have hrun:(execOp a.eval o).run P W = .ok (.enter g (c.args.toList.map a.eval++ws).toArray) W:=by
      have:=(hΓ _ _ _ hs).1 (c.args.map a.eval++ws.toArray) W
      have e:(c.args.toList.map a.eval++ws).toArray=c.args.map a.eval++ws.toArray:=by
       simp
      rw [e]
      simp only [execOp,hop,resolve,hcal,hw,Deferred.ofValue]
      simpa [invoke] using this
     rw [hrun]
     refine hc.mono ?_
     rintro e W' ⟨v,G',rfl,h1,_,h2⟩
     exact hK v W' G' h1 h2
    ·exact h.elim
   ·exact h.elim
  ·rw [hop] at plain;exact plain h
 ·exact plain h
theorem Sim.setρ (hS:Sim cx G S tm W) {d:Nat} {x:AV E} {v:Value} (hd:d<S.n) (hv:AVR G S.k W x v):Sim cx G { S with ρ:=(d,x)::S.ρ } (tm.setIfInBounds d v) W:=by
 refine ⟨by simpa using hS.sz,fun s y h=>?_,hS.blks,hS.inj,hS.sepF,hS.sep,hS.own,hS.fr,hS.frm,hS.ff⟩
 simp only [lk_cons] at h
 have hsz:d<tm.size:=by rw [hS.sz];exact hd
 by_cases he:d=s
 ·subst he
  rw [if_pos rfl] at h
  cases h
  have e:(tm.setIfInBounds d v).getD d undef=v:=by simp [Array.getD,hsz]
  rw [e]
  exact hv
 ·rw [if_neg he] at h
  have:=hS.tmps s y h
  rw [Array.getD_eq_getD_getElem?] at this ⊢
  rw [Array.getElem?_setIfInBounds_ne he]
  exact this
structure Inv (cx:Cx) (A:Array Value) (nx:Nat) (S:St E) (a:Act) (W:World):Prop where
 sim:∃G,Sim cx G S a.tmps W
 nx:∀k,(lk S.H k).isSome=true→k<nx
 defers:a.defers=[]
 pin:∀s∈S.pin,a.tmps.getD s undef=A.getD s undef
theorem Inv.fresh {A:Array Value} {nx fr:Nat} (h:Inv cx A nx S a W) (hf:nx≤fr):∀k,fr≤k→k<fr+STR→lk S.H k=none:=by
 intro k h1 _
 cases hl:lk S.H k with
 | none=>rfl
 | some b=>have:=h.nx k (by rw [hl];rfl);omega
theorem any_beq {l:List Nat} {d:Nat} (h:l.any (Nat.beq d)=false):∀s∈l,s≠d:=by
 intro s hs e
 subst e
 have:l.any (Nat.beq s)=true:=List.any_eq_true.2 ⟨s,hs,Nat.beq_refl s⟩
 rw [h] at this;cases this
theorem pin_put {A:Array Value} {a:Act} {d:Nat} {v:Value} {l:List Nat} (h:∀s∈l,a.tmps.getD s undef=A.getD s undef) (hd:∀s∈l,s≠d):∀s∈l,(a.tmps.setIfInBounds d v).getD s undef=A.getD s undef:=by
 intro s hs
 rw [← h s hs,Array.getD_eq_getD_getElem?,Array.getD_eq_getD_getElem?,Array.getElem?_setIfInBounds_ne (Ne.symm (hd s hs))]
theorem putK_sound {R:Type} {A:Array Value} {nx:Nat} {o:Option Nat} {x:AV E} {v:Value} {K:St E→Option R} {r:R} (hS:Sim cx G S a.tmps W) (hnx:∀k,(lk S.H k).isSome=true→k<nx) (hdf:a.defers=[]) (hpin:∀s∈S.pin,a.tmps.getD s undef=A.getD s undef)
  (hv:AVR G S.k W x v) (h:putK S o x K=some r):∃S',K S'=some r∧Inv cx A nx S' (a.put o v) W:=by
 unfold putK at h
 cases o with
 | none=>exact ⟨S,h,⟨G,hS⟩,hnx,hdf,hpin⟩
 | some d=>
  dsimp only at h
  cases hc:(Nat.blt d S.n && !S.pin.any (Nat.beq d)) with
  | false=>rw [hc] at h;cases h
  | true=>
   rw [hc] at h
   simp only [Bool.and_eq_true,Bool.not_eq_true'] at hc
   have hd:d<S.n:=Nat.le_of_ble_eq_true hc.1
   exact ⟨_,h,⟨G,hS.setρ hd hv⟩,hnx,hdf,pin_put hpin (any_beq hc.2)⟩
theorem yielded_of {all:Array Oper} {tm:Array Value} {j d:Nat} (hj:(all[j]?).bind (·.dst)=some d):yielded all tm j=match tm.getD d undef with | .bool b=>some b | _=>none:=by
 unfold yielded
 rw [hj]
 simp only [Option.bind_some]
 rw [Array.getD_eq_getD_getElem?]
 cases h:tm[d]? with
 | none=>rfl
 | some v=>cases v<;>rfl
variable {R:Type}
theorem runOp_sound (hT:T.OK P) (hΓ:GamOK P Γ) {A:Array Value} {nx i:Nat} (hI:Inv cx A (nx+STR * i) S a W) {o:Oper} {l:List Step} {K:St E→List Step→Option R} {r:R} (h:runOp T Γ i o nx S l K=some r)
  {N:Act→World→Prop} {Q:Exit→Act→World→Prop} (hN:∀S' l' a' W',K S' l'=some r→Inv cx A (nx+STR * (i+1)) S' a' W'→N a' W'):o.wp P a W N Q:=by
 unfold runOp at h
 obtain ⟨x,rds,h1,h2⟩:=RM.run_out h
 cases hc:(x.2.map (·.1)).all fun k=>rds.any (Nat.beq k)||(Nat.ble (nx+STR * i) k&&Nat.blt k (nx+STR * i+STR)) with
 | false=>rw [hc] at h2;cases h2
 | true=>
  rw [hc,cond_true] at h2
  obtain ⟨G,hS⟩:=hI.sim
  refine aopC_sound hT hΓ hS (hI.fresh (Nat.le_refl _)) h1 fun v W' G' hS' hv=>?_
  have hnx:∀k,(lk (x.2++S.H) k).isSome=true→k<nx+STR * (i+1):=by
   intro k hk
   rw [lk_append] at hk
   have e:nx+STR * (i+1)=nx+STR * i+STR:=by rw [Nat.mul_add];omega
   rw [e]
   split at hk
   ·rename_i b hl
    have:=List.all_eq_true.1 hc k (List.mem_map.2 ⟨_,lk_mem hl,rfl⟩)
    simp only [Bool.or_eq_true,Bool.and_eq_true] at this
    rcases this with hr | hr
    ·obtain ⟨k',hk',hb⟩:=List.any_eq_true.1 hr
     obtain rfl:=Nat.eq_of_beq_eq_true hb
     have:∃b,S.h k=some b:=by
      have key:∀ {α:Type} {m:RM E α} {l:List Nat} {x:α} {l':List Nat},RM.Out S.h m l x l'→∀i∈l',i∈l∨∃b,S.h i=some b:=by
       intro α m
       induction m with
       | pure a=>rintro l x l' ⟨rfl,rfl⟩ i hi;exact .inl hi
       | fail=>intro l x l' h;exact h.elim
       | rd id k ih=>
        rintro l x l' ⟨b,hb,h⟩ i hi
        rcases ih b h i hi with h | h
        ·rcases List.mem_cons.1 h with rfl | h
         ·exact .inr ⟨b,hb⟩
         ·exact .inl h
        ·exact .inr h
       | chk b k ih=>rintro l x l' ⟨hb,h⟩ i hi;exact ih h i hi
       | call m k ih=>rintro l x l' ⟨b,hb,h⟩ i hi;exact ih b h i hi
      rcases key h1 k hk' with h | h
      ·cases h
      ·exact h
     obtain ⟨b,hb⟩:=this
     have:=hI.nx k (St.h_k hb)
     omega
    ·have:=Nat.le_of_ble_eq_true hr.2
     omega
   ·have:=hI.nx k hk;omega
  obtain ⟨S',h3,h4⟩:=putK_sound (A:=A) hS' hnx hI.defers hI.pin hv h2
  exact hN S' _ _ W' h3 h4
theorem skipOp_sound {A:Array Value} {nx:Nat} (hI:Inv cx A nx S a W) {o:Oper} {l:List Step} {K:St E→List Step→Option R} {r:R} (h:skipOp o S l K=some r)
  {N:Act→World→Prop} (hN:∀S' l' a' W',K S' l'=some r→Inv cx A nx S' a' W'→N a' W'):N (a.put o.dst undef) W:=by
 obtain ⟨G,hS⟩:=hI.sim
 obtain ⟨S',h3,h4⟩:=putK_sound (A:=A) (x:=.a .undef) (v:=undef) hS hI.nx hI.defers hI.pin rfl h
 exact hN S' _ _ W h3 h4
theorem Inv.mono {A:Array Value} {n m:Nat} (h:Inv cx A n S a W) (hm:n≤m):Inv cx A m S a W:=⟨h.sim,fun k hk=>Nat.lt_of_lt_of_le (h.nx k hk) hm,h.defers,h.pin⟩
theorem Inv.refine {A:Array Value} {n d:Nat} {x y:AV E} (h:Inv cx A n S a W) (hl:lk S.ρ d=some x) (hxy:x=y):Inv cx A n { S with ρ:=(d,y)::S.ρ } a W:=by
 obtain ⟨G,hS⟩:=h.sim
 refine ⟨⟨G,hS.congr (fun s=>?_) (fun _=>rfl) rfl⟩,h.nx,h.defers,h.pin⟩
 show lk ((d,y)::S.ρ) s=_
 rw [lk_cons]
 split
 ·rename_i e;subst e;rw [hl,hxy]
 ·rfl
theorem runOps_sound (hT:T.OK P) (hΓ:GamOK P Γ) {all:Array Oper} {A:Array Value} {nx:Nat} {Q:Exit→Act→World→Prop} {r:R} {K:St E→List Step→Option R}:∀(ops:List Oper) (i:Nat) (S:St E) (l:List Step) (a:Act) (W:World),Inv cx A (nx+STR * i) S a W→runOps T Γ all nx ops i S l K=some r→
  (∀S' l' a' W',K S' l'=some r→Inv cx A (nx+STR * (i+ops.length)) S' a' W'→Q .normal a' W')→wpList P all Q ops a W
 | [],i,S,l,a,W,hI,h,hK=>hK S l a W h hI
 | o::rest,i,S,l,a,W,hI,h,hK=>by
  have hnext:∀S' l' a' W',runOps T Γ all nx rest (i+1) S' l' K=some r→Inv cx A (nx+STR * (i+1)) S' a' W'→wpList P all Q rest a' W':=by
   intro S' l' a' W' h hI
   refine runOps_sound hT hΓ rest (i+1) S' l' a' W' hI h fun S2 l2 a2 W2 h2 hI2=>hK S2 l2 a2 W2 h2 ?_
   rw [show i+(o::rest).length=i+1+rest.length by simp;omega]
   exact hI2
  have hmono:nx+STR * i≤nx+STR * (i+1):=by rw [Nat.mul_add];omega
  unfold runOps at h
  cases hg:o.guard with
  | none=>
   rw [hg] at h
   have hw:Region.wanted o (yielded all a.tmps)=true:=by simp [Region.wanted,hg]
   simp only [wpList,hw,if_true]
   exact .inl (runOp_sound hT hΓ hI h hnext)
  | some gw=>
   obtain ⟨j,want⟩:=gw
   rw [hg] at h
   dsimp only at h
   cases hd:(all[j]?).bind (·.dst) with
   | none=>rw [hd] at h;cases h
   | some d=>
    rw [hd] at h
    dsimp only at h
    have hy:=yielded_of (all:=all) (tm:=a.tmps) hd
    split at h
    ·rename_i b hl
     obtain ⟨G,hS⟩:=hI.sim
     have hv:a.tmps.getD d undef = .bool b:=hS.tmps d _ hl
     rw [hv] at hy
     dsimp only at hy
     cases hdn:Nat.blt d S.n with
     | false=>rw [hdn] at h;cases h
     | true=>
      rw [hdn] at h
      cases b<;>cases want<;>simp only [cond_true,cond_false] at h
      ·have hw:Region.wanted o (yielded all a.tmps)=true:=by simp [Region.wanted,hg,hy]
       simp only [wpList,hw,if_true]
       exact .inl (runOp_sound hT hΓ (hI.refine hl rfl) h hnext)
      ·have hw:Region.wanted o (yielded all a.tmps)=false:=by simp [Region.wanted,hg,hy]
       simp only [wpList,hw,Bool.false_eq_true,if_false]
       exact skipOp_sound ((hI.refine hl rfl).mono hmono) h hnext
      ·have hw:Region.wanted o (yielded all a.tmps)=false:=by simp [Region.wanted,hg,hy]
       simp only [wpList,hw,Bool.false_eq_true,if_false]
       exact skipOp_sound ((hI.refine hl rfl).mono hmono) h hnext
      ·have hw:Region.wanted o (yielded all a.tmps)=true:=by simp [Region.wanted,hg,hy]
       simp only [wpList,hw,if_true]
       exact .inl (runOp_sound hT hΓ (hI.refine hl rfl) h hnext)
    ·rename_i hl
     obtain ⟨G,hS⟩:=hI.sim
     have hv:a.tmps.getD d undef=undef:=hS.tmps d _ hl
     rw [hv] at hy
     have hw:Region.wanted o (yielded all a.tmps)=false:=by simp [Region.wanted,hg,hy,undef]
     simp only [wpList,hw,Bool.false_eq_true,if_false]
     exact skipOp_sound (hI.mono hmono) h hnext
    ·cases h
end Mir
namespace Mir
set_option linter.unusedVariables false
set_option linter.unusedSimpArgs false
open Go
variable {E:Env} {P:Program} {T:Tb} {Γ:Ctx E} {cx:Cx} {G G':Gh} {S:St E} {tm:Array Value} {a:Act} {W W':World}
theorem aop_congr {fr:Nat} {ρ ρ':Nat→Option (AV E)} {op:Op} (h:∀x∈op.operands,evO ρ x=evO ρ' x):aop T fr ρ op=aop T fr ρ' op:=by
 have pairs:∀ps:Array (Nat×Operand),(∀x∈ps.map (·.2),evO ρ x=evO ρ' x)→(ps.toList.map fun p=>(p.1,evO ρ p.2))=(ps.toList.map fun p=>(p.1,evO ρ' p.2)):=fun ps hp=>
  List.map_congr_left fun p hm=>by rw [hp p.2 (Array.mem_map.2 ⟨p,by simpa using hm,rfl⟩)]
 have lists:∀xs:Array Operand,(∀x∈xs,evO ρ x=evO ρ' x)→xs.toList.map (evO ρ)=xs.toList.map (evO ρ'):=fun xs hp=>
  List.map_congr_left fun p hm=>hp p (by simpa using hm)
 have opts:∀(x:Option Operand),(∀y∈x.toArray,evO ρ y=evO ρ' y)→x.map (evO ρ)=x.map (evO ρ'):=fun x hx=>by
  cases x with
  | none=>rfl
  | some y=>rw [Option.map_some,Option.map_some,hx y (by simp)]
 cases op<;>simp only [Op.operands] at h<;>(try simp only [aop])
 case makeMap t r=>cases r<;>rfl
 case build t ps=>rw [pairs ps fun x hx=>h x (by simpa using hx)]
 case buildSlice t n ps=>rw [pairs ps fun x hx=>h x (by simpa using hx)]
 case makeFunc fn first captured=>rw [lists first fun x hx=>h x (by simp [hx]),lists captured fun x hx=>h x (by simp [hx])]
 case slice t x lo hi mx=>
  rw [h x (by simp),opts lo fun y hy=>h y (by simp at hy ⊢;simp [hy]),opts hi fun y hy=>h y (by simp at hy ⊢;simp [hy]),opts mx fun y hy=>h y (by simp at hy ⊢;simp [hy])]
 case call c=>
  have hargs:∀x∈c.args.toList,evO ρ x=evO ρ' x:=fun x hx=>h x (by simp [Call.operands];right;simpa using hx)
  split<;>try rfl
  all_goals (split<;>try rfl)
  all_goals (rename_i hxs;first | rw [hxs] at hargs | (rename_i h1 _;rw [h1] at hargs) | (rename_i h1;rw [h1] at hargs))
  all_goals simp at hargs
  all_goals simp [hargs]
 all_goals first | rfl | (simp at h;simp [h];done)
theorem dop_congr {fr:Nat} {ρ ρ':Nat→Option (AV E)} {op:Op} (h:∀x∈op.operands,evO ρ x=evO ρ' x):dop T fr ρ op=dop T fr ρ' op:=by
 have ha:=aop_congr (T:=T) (fr:=fr) h
 cases op<;>simp only [Op.operands] at h
 case indexAddr t x i=>simp only [dop];rw [h x (by simp),h i (by simp),ha]
 case load t x=>simp only [dop];rw [h x (by simp),ha]
 case store t x v=>simp only [dop];rw [h x (by simp),h v (by simp),ha]
 case makeSlice t lo co=>simp only [dop];rw [h lo (by simp),h co (by simp),ha]
 case buildSlice t n ps=>
  have pairs:(ps.toList.map fun p=>(p.1,evO ρ p.2))=(ps.toList.map fun p=>(p.1,evO ρ' p.2)):=
   List.map_congr_left fun p hm=>by rw [h p.2 (by simpa using ⟨p.1,by simpa using hm⟩)]
  simp only [dop];rw [pairs,ha]
 case call c=>
  have hargs:∀x∈c.args.toList,evO ρ x=evO ρ' x:=fun x hx=>h x (by simp [Call.operands];right;simpa using hx)
  simp only [dop]
  split
  ·split
   ·rename_i x hxs
    rw [hargs x (by rw [hxs];simp),ha]
   ·exact ha
  ·split
   ·split
    ·rename_i t u hts e s helem
     cases T.deep && !(Ty.st s).flat1 E with
     | true=>
      simp only [cond_true]
      split
      ·rename_i x y hxs
       rw [hargs x (by rw [hxs];simp),hargs y (by rw [hxs];simp)]
      ·rfl
     | false=>exact ha
    ·exact ha
   ·exact ha
  ·exact ha
 all_goals exact ha
theorem aopC_congr {fr:Nat} {ρ ρ':Nat→Option (AV E)} {op:Op} (h:∀x∈op.operands,evO ρ x=evO ρ' x):aopC T Γ fr ρ op=aopC T Γ fr ρ' op:=by
 have ha:=dop_congr (T:=T) (fr:=fr) h
 cases op
 case call c=>
  simp only [Op.operands] at h
  have lists:∀xs:Array Operand,(∀x∈xs,evO ρ x=evO ρ' x)→xs.toList.map (evO ρ)=xs.toList.map (evO ρ'):=fun xs hp=>
   List.map_congr_left fun p hm=>hp p (by simpa using hm)
  have hargs:∀x∈c.args.toList,evO ρ x=evO ρ' x:=fun x hx=>h x (by simp [Call.operands];right;simpa using hx)
  simp only [aopC]
  split
  ·rename_i f hf
   rw [h f (by simp [Call.operands,hf]),lists c.args fun x hx=>hargs x (by simpa using hx)]
  ·exact ha
 all_goals exact ha
theorem RM.Out_mono {α:Type} {H:Nat→Option (Blk E)} {m:RM E α}:∀ {l:List Nat} {x:α} {l':List Nat},RM.Out H m l x l'→∀i∈l,i∈l':=by
 induction m with
 | pure a=>rintro l x l' ⟨rfl,rfl⟩ i hi;exact hi
 | fail=>intro l x l' h;exact h.elim
 | rd id k ih=>rintro l x l' ⟨b,hb,h⟩ i hi;exact ih b h i (List.mem_cons_of_mem _ hi)
 | chk b k ih=>rintro l x l' ⟨hb,h⟩ i hi;exact ih h i hi
 | call m k ih=>rintro l x l' ⟨b,hb,h⟩ i hi;exact ih b h i hi
theorem RM.Out_local {α:Type} {H H':Nat→Option (Blk E)} {m:RM E α}:∀ {l:List Nat} {x:α} {l':List Nat},RM.Out H m l x l'→(∀i∈l',H' i=H i)→RM.Out H' m l x l':=by
 induction m with
 | pure a=>rintro l x l' h _;exact h
 | fail=>intro l x l' h;exact h.elim
 | rd id k ih=>rintro l x l' ⟨b,hb,h⟩ hl;exact ⟨b,by rw [hl id (RM.Out_mono h id (List.mem_cons_self ..))];exact hb,ih b h hl⟩
 | chk b k ih=>rintro l x l' ⟨hb,h⟩ hl;exact ⟨hb,ih h hl⟩
 | call m k ih=>rintro l x l' ⟨b,hb,h⟩ hl;exact ⟨b,hb,ih b h hl⟩
theorem RM.Out_live {α:Type} {H:Nat→Option (Blk E)} {m:RM E α}:∀ {l:List Nat} {x:α} {l':List Nat},RM.Out H m l x l'→∀i∈l',i∈l∨∃b,H i=some b:=by
 induction m with
 | pure a=>rintro l x l' ⟨rfl,rfl⟩ i hi;exact .inl hi
 | fail=>intro l x l' h;exact h.elim
 | rd id k ih=>
  rintro l x l' ⟨b,hb,h⟩ i hi
  rcases ih b h i hi with h | h
  ·rcases List.mem_cons.1 h with rfl | h
   ·exact .inr ⟨b,hb⟩
   ·exact .inl h
  ·exact .inr h
 | chk b k ih=>rintro l x l' ⟨hb,h⟩ i hi;exact ih h i hi
 | call m k ih=>rintro l x l' ⟨b,hb,h⟩ i hi;exact ih b h i hi
structure Rc (E:Env) where
 d:Option Nat
 v:AV E
 u:Up E
 rs:List Nat
 ex:Bool
def slots:List (Rc E)→List (Nat×AV E)
 | []=>[]
 | r::L=>match r.d with | some d=>(d,r.v)::slots L | none=>slots L
def heaps:List (Rc E)→Up E
 | []=>[]
 | r::L=>r.u++heaps L
def St.app (S:St E) (L:List (Rc E)):St E:={ S with ρ:=slots L++S.ρ,H:=heaps L++S.H }
def sub (X:Nat→Bool) (R:Nat→Rc E):Nat→List (Rc E)
 | 0=>[]
 | n+1=>bif X n then R n::sub X R n else sub X R n
abbrev pre (R:Nat→Rc E) (n:Nat):List (Rc E):=sub (fun _=>true) R n
def stepsOf (R:Nat→Rc E):Nat→List Step
 | 0=>[]
 | n+1=>bif (R n).ex then ⟨n,(R n).u.map (·.1),(R n).rs⟩::stepsOf R n else stepsOf R n
theorem sub_congr {X:Nat→Bool} {R R':Nat→Rc E}:∀ {n:Nat},(∀i,i<n→R i=R' i)→sub X R n=sub X R' n
 | 0,_=>rfl
 | n+1,h=>by simp only [sub];rw [h n (Nat.lt_succ_self _),sub_congr fun i hi=>h i (Nat.lt_succ_of_lt hi)]
theorem steps_congr {R R':Nat→Rc E}:∀ {n:Nat},(∀i,i<n→R i=R' i)→stepsOf R n=stepsOf R' n
 | 0,_=>rfl
 | n+1,h=>by simp only [stepsOf];rw [h n (Nat.lt_succ_self _),steps_congr fun i hi=>h i (Nat.lt_succ_of_lt hi)]
section
variable (T:Tb) (Γ:Ctx E) (all:Array Oper) (nx:Nat) (S0:St E)
def GuardOK (ρ:Nat→Option (AV E)) (o:Oper) (r:Rc E):Prop:=
 (r.ex=true∧(o.guard=none∨∃j want d,o.guard=some (j,want)∧(all[j]?).bind (·.dst)=some d∧ρ d=some (.bool want)))∨
 (r.ex=false∧r.v = .a .undef∧r.u=[]∧∃j want d,o.guard=some (j,want)∧(all[j]?).bind (·.dst)=some d∧(ρ d=some (.bool (!want))∨ρ d=some (.a .undef)))
structure RecOK (S:St E) (i:Nat) (o:Oper) (r:Rc E):Prop where
 d:r.d=o.dst
 dst:∀d,o.dst=some d→d<S0.n∧∀s∈S0.pin,s≠d
 guard:GuardOK all (lk S.ρ) o r
 out:r.ex=true→RM.Out S.h (aopC T Γ (nx+STR * i) (lk S.ρ) o.op) [] (r.v,r.u) r.rs
 keys:∀p∈r.u,p.1∈r.rs∨(nx+STR * i≤p.1∧p.1<nx+STR * i+STR)
end
structure Like (S S':St E):Prop where
 ρ:∀s,lk S.ρ s=lk S'.ρ s
 H:S.H=S'.H
 n:S.n=S'.n
 pin:S.pin=S'.pin
 nx:S.nx=S'.nx
theorem Like.fρ {S S':St E} (h:Like S S'):lk S.ρ=lk S'.ρ:=funext h.ρ
theorem Like.fh {S S':St E} (h:Like S S'):S.h=S'.h:=by funext id;unfold St.h;rw [h.H]
theorem app_cons (S0:St E) (r:Rc E) (L:List (Rc E)):(∀s,lk (S0.app (r::L)).ρ s=if r.d=some s then some r.v else lk (S0.app L).ρ s)∧(S0.app (r::L)).H=r.u++(S0.app L).H:=by
 constructor
 ·intro s
  unfold St.app
  simp only [slots]
  cases hd:r.d with
  | none=>simp
  | some d=>
   simp only [List.cons_append,lk_cons,Option.some.injEq]
 ·simp [St.app,heaps]
variable {R:Type}
theorem put_like {S0 S S2:St E} {L:List (Rc E)} {o:Oper} {r:Rc E} {K:St E→Option R} {x:R} (hl:Like S (S0.app L)) (hd:r.d=o.dst) (hS2:S2 = { S with H:=r.u++S.H }) (h:putK S2 o.dst r.v K=some x) :
  (∀d,o.dst=some d→d<S0.n∧∀s∈S0.pin,s≠d)∧∃S',K S'=some x∧Like S' (S0.app (r::L)):=by
 subst hS2
 obtain ⟨a1,a2⟩:=app_cons S0 r L
 have hn:S.n=S0.n:=hl.n
 have hp:S.pin=S0.pin:=hl.pin
 unfold putK at h
 cases ho:o.dst with
 | none=>
  rw [ho] at h
  refine ⟨fun d h=>(by cases h),_,h,⟨fun s=>?_,?_,hl.n,hl.pin,hl.nx⟩⟩
  ·rw [a1 s,hd,ho,if_neg (by simp)];exact hl.ρ s
  ·rw [a2];show r.u++S.H=_;rw [hl.H]
 | some d=>
  rw [ho] at h
  dsimp only at h
  cases hc:(Nat.blt d S.n && !S.pin.any (Nat.beq d)) with
  | false=>rw [hc] at h;cases h
  | true=>
   rw [hc,cond_true] at h
   simp only [Bool.and_eq_true,Bool.not_eq_true'] at hc
   refine ⟨fun d' h=>?_,_,h,⟨fun s=>?_,?_,hl.n,hl.pin,hl.nx⟩⟩
   ·cases h
    exact ⟨by rw [← hn];exact Nat.le_of_ble_eq_true hc.1,by rw [← hp];exact any_beq hc.2⟩
   ·rw [a1 s,hd,ho]
    show lk ((d,r.v)::S.ρ) s=_
    rw [lk_cons]
    simp only [Option.some.injEq]
    split
    ·rfl
    ·exact hl.ρ s
   ·rw [a2];show r.u++S.H=_;rw [hl.H]
theorem trace {all:Array Oper} {nx:Nat} {S0:St E} {K:St E→List Step→Option R} {x:R}:∀(ops:List Oper) (i:Nat) (S:St E) (R0:Nat→Rc E),Like S (S0.app (pre R0 i))→runOps T Γ all nx ops i S (stepsOf R0 i) K=some x→
  ∃R' S',(∀j,j<i→R' j=R0 j)∧(∀j o,ops[j]? = some o→RecOK T Γ all nx S0 (S0.app (pre R' (i+j))) (i+j) o (R' (i+j)))∧Like S' (S0.app (pre R' (i+ops.length)))∧K S' (stepsOf R' (i+ops.length))=some x
 | [],i,S,R0,hl,h=>⟨R0,S,fun _ _=>rfl,fun j o h=>by simp at h,hl,h⟩
 | o::rest,i,S,R0,hl,h=>by
  have fin:∀(r:Rc E) (S':St E),r.d=o.dst→(∀d,o.dst=some d→d<S0.n∧∀s∈S0.pin,s≠d)→GuardOK all (lk S.ρ) o r→(r.ex=true→RM.Out S.h (aopC T Γ (nx+STR * i) (lk S.ρ) o.op) [] (r.v,r.u) r.rs)→(∀p∈r.u,p.1∈r.rs∨(nx+STR * i≤p.1∧p.1<nx+STR * i+STR))→
    Like S' (S0.app (r::pre R0 i))→runOps T Γ all nx rest (i+1) S' (bif r.ex then ⟨i,r.u.map (·.1),r.rs⟩::stepsOf R0 i else stepsOf R0 i) K=some x→
    ∃R' S',(∀j,j<i→R' j=R0 j)∧(∀j o',(o::rest)[j]? = some o'→RecOK T Γ all nx S0 (S0.app (pre R' (i+j))) (i+j) o' (R' (i+j)))∧Like S' (S0.app (pre R' (i+(o::rest).length)))∧K S' (stepsOf R' (i+(o::rest).length))=some x:=by
   intro r S' h1 h2 h3 h4 h5 h6 h7
   let R1:Nat→Rc E:=fun j=>if j=i then r else R0 j
   have e1:∀j,j<i→R1 j=R0 j:=fun j hj=>if_neg (by omega)
   have e2:R1 i=r:=if_pos rfl
   have e3:pre R1 (i+1)=r::pre R0 i:=by
    show (bif true then R1 i::sub _ R1 i else _)=_
    rw [cond_true,e2,sub_congr e1]
   have e4:stepsOf R1 (i+1)=(bif r.ex then ⟨i,r.u.map (·.1),r.rs⟩::stepsOf R0 i else stepsOf R0 i):=by
    simp only [stepsOf]
    rw [e2,steps_congr e1]
   obtain ⟨R',S2,i1,i2,i3,i4⟩:=trace rest (i+1) S' R1 (by rw [e3];exact h6) (by rw [e4];exact h7)
   have e5:∀j,j<i→R' j=R0 j:=fun j hj=>(i1 j (by omega)).trans (e1 j hj)
   have e6:R' i=r:=(i1 i (by omega)).trans e2
   have hlen:i+1+rest.length=i+(o::rest).length:=by simp;omega
   rw [hlen] at i3 i4
   refine ⟨R',S2,e5,fun j o' hj=>?_,i3,i4⟩
   cases j with
   | zero=>
    simp only [List.getElem?_cons_zero,Option.some.injEq] at hj
    subst hj
    rw [Nat.add_zero,e6,show pre R' i=pre R0 i from sub_congr e5]
    exact ⟨h1,h2,by rw [← hl.fρ];exact h3,by rw [← hl.fρ,← hl.fh];exact h4,h5⟩
   | succ j=>
    have:=i2 j o' (by simpa using hj)
    rw [show i+(j+1)=i+1+j by omega]
    exact this
  have exec:∀(S1:St E),Like S1 (S0.app (pre R0 i))→(o.guard=none∨∃j want d,o.guard=some (j,want)∧(all[j]?).bind (·.dst)=some d∧lk S.ρ d=some (.bool want))→runOp T Γ i o nx S1 (stepsOf R0 i) (fun S l=>runOps T Γ all nx rest (i+1) S l K)=some x→
    ∃R' S',(∀j,j<i→R' j=R0 j)∧(∀j o',(o::rest)[j]? = some o'→RecOK T Γ all nx S0 (S0.app (pre R' (i+j))) (i+j) o' (R' (i+j)))∧Like S' (S0.app (pre R' (i+(o::rest).length)))∧K S' (stepsOf R' (i+(o::rest).length))=some x:=by
   intro S1 hl1 hg h
   unfold runOp at h
   obtain ⟨y,rds,h1,h2⟩:=RM.run_out h
   cases hc:(y.2.map (·.1)).all fun k=>rds.any (Nat.beq k)||(Nat.ble (nx+STR * i) k&&Nat.blt k (nx+STR * i+STR)) with
   | false=>rw [hc] at h2;cases h2
   | true=>
    rw [hc,cond_true] at h2
    obtain ⟨h3,S',h4,h5⟩:=put_like (r:=⟨o.dst,y.1,y.2,rds,true⟩) hl1 rfl rfl h2
    refine fin ⟨o.dst,y.1,y.2,rds,true⟩ S' rfl h3 (.inl ⟨rfl,hg⟩) (fun _=>?_) (fun p hp=>?_) h5 h4
    ·rw [hl.fρ,hl.fh,← hl1.fρ,← hl1.fh];exact h1
    ·have:=List.all_eq_true.1 hc p.1 (List.mem_map.2 ⟨p,hp,rfl⟩)
     simp only [Bool.or_eq_true,Bool.and_eq_true] at this
     rcases this with h | h
     ·obtain ⟨k',hk',hb⟩:=List.any_eq_true.1 h
      obtain rfl:=Nat.eq_of_beq_eq_true hb
      exact .inl hk'
     ·exact .inr ⟨Nat.le_of_ble_eq_true h.1,Nat.le_of_ble_eq_true h.2⟩
  have skip:∀(S1:St E),Like S1 (S0.app (pre R0 i))→(∃j want d,o.guard=some (j,want)∧(all[j]?).bind (·.dst)=some d∧(lk S.ρ d=some (.bool (!want))∨lk S.ρ d=some (.a .undef)))→skipOp o S1 (stepsOf R0 i) (fun S l=>runOps T Γ all nx rest (i+1) S l K)=some x→
    ∃R' S',(∀j,j<i→R' j=R0 j)∧(∀j o',(o::rest)[j]? = some o'→RecOK T Γ all nx S0 (S0.app (pre R' (i+j))) (i+j) o' (R' (i+j)))∧Like S' (S0.app (pre R' (i+(o::rest).length)))∧K S' (stepsOf R' (i+(o::rest).length))=some x:=by
   intro S1 hl1 hg h
   unfold skipOp at h
   obtain ⟨h3,S',h4,h5⟩:=put_like (r:=⟨o.dst,.a .undef,[],[],false⟩) hl1 rfl rfl h
   exact fin ⟨o.dst,.a .undef,[],[],false⟩ S' rfl h3 (.inr ⟨rfl,rfl,rfl,hg⟩) (fun h=>by cases h) (fun p hp=>by cases hp) h5 h4
  have refined:∀ {d:Nat} {b:AV E},lk S.ρ d=some b→Like { S with ρ:=(d,b)::S.ρ } (S0.app (pre R0 i)):=by
   intro d b hb
   refine ⟨fun s=>?_,hl.H,hl.n,hl.pin,hl.nx⟩
   show lk ((d,b)::S.ρ) s=_
   rw [lk_cons]
   split
   ·rename_i e;subst e;rw [← hb];exact hl.ρ d
   ·exact hl.ρ s
  unfold runOps at h
  cases hg:o.guard with
  | none=>rw [hg] at h;exact exec S hl (.inl hg) h
  | some gw=>
   obtain ⟨j,want⟩:=gw
   rw [hg] at h
   dsimp only at h
   cases hd:(all[j]?).bind (·.dst) with
   | none=>rw [hd] at h;cases h
   | some d=>
    rw [hd] at h
    dsimp only at h
    split at h
    ·rename_i b hlk
     cases hdn:Nat.blt d S.n with
     | false=>rw [hdn] at h;cases h
     | true=>
      rw [hdn] at h
      cases b<;>cases want<;>simp only [cond_true,cond_false] at h
      ·exact exec _ (refined hlk) (.inr ⟨j,_,d,hg,hd,hlk⟩) h
      ·exact skip _ (refined hlk) ⟨j,_,d,hg,hd,.inl hlk⟩ h
      ·exact skip _ (refined hlk) ⟨j,_,d,hg,hd,.inl hlk⟩ h
      ·exact exec _ (refined hlk) (.inr ⟨j,_,d,hg,hd,hlk⟩) h
    ·rename_i hlk
     exact skip S hl ⟨j,_,d,hg,hd,.inr hlk⟩ h
    ·cases h
end Mir
namespace Mir
set_option linter.unusedVariables false
set_option linter.unusedSimpArgs false
open Go
variable {E:Env} {P:Program} {T:Tb} {Γ:Ctx E} {cx:Cx} {G G':Gh} {S:St E} {tm:Array Value} {a:Act} {W W':World}
def keys (r:Rc E):List Nat:=r.u.map (·.1)
theorem lk_none_of {u:Up E} {k:Nat} (h:k∉u.map (·.1)):lk u k=none:=by
 cases hl:lk u k with
 | none=>rfl
 | some b=>exact absurd (List.mem_map.2 ⟨_,lk_mem hl,rfl⟩) h
variable {R:Nat→Rc E} {S0:St E} {X X':Nat→Bool}
theorem slot_congr {s:Nat}:∀ {n:Nat},(∀j,j<n→(R j).d=some s→X j=X' j)→lk (S0.app (sub X R n)).ρ s=lk (S0.app (sub X' R n)).ρ s
 | 0,_=>rfl
 | n+1,h=>by
  have ih:=slot_congr (n:=n) fun j hj=>h j (Nat.lt_succ_of_lt hj)
  have hn:=h n (Nat.lt_succ_self _)
  simp only [sub]
  by_cases hd:(R n).d=some s
  ·rw [← hn hd]
   cases X n with
   | true=>rw [cond_true,cond_true,(app_cons S0 _ _).1,(app_cons S0 _ _).1,if_pos hd,if_pos hd]
   | false=>exact ih
  ·have e:∀(b:Bool) (L:List (Rc E)),lk (S0.app (bif b then R n::L else L)).ρ s=lk (S0.app L).ρ s:=by
    intro b L
    cases b with
    | true=>rw [cond_true,(app_cons S0 _ _).1,if_neg hd]
    | false=>rfl
   rw [e,e];exact ih
theorem heap_congr {k:Nat}:∀ {n:Nat},(∀j,j<n→k∈keys (R j)→X j=X' j)→lk (S0.app (sub X R n)).H k=lk (S0.app (sub X' R n)).H k
 | 0,_=>rfl
 | n+1,h=>by
  have ih:=heap_congr (n:=n) fun j hj=>h j (Nat.lt_succ_of_lt hj)
  have hn:=h n (Nat.lt_succ_self _)
  simp only [sub]
  by_cases hd:k∈keys (R n)
  ·rw [← hn hd]
   cases X n with
   | true=>rw [cond_true,cond_true,(app_cons S0 _ _).2,(app_cons S0 _ _).2,lk_append,lk_append,ih]
   | false=>exact ih
  ·have e:∀(b:Bool) (L:List (Rc E)),lk (S0.app (bif b then R n::L else L)).H k=lk (S0.app L).H k:=by
    intro b L
    cases b with
    | true=>rw [cond_true,(app_cons S0 _ _).2,lk_append,lk_none_of hd]
    | false=>rfl
   rw [e,e];exact ih
theorem slot_top {s i:Nat} (hs:(R i).d=some s) (hi:X i=true):∀ {n:Nat},i<n→(∀j,i<j→j<n→X j=true→(R j).d≠some s)→lk (S0.app (sub X R n)).ρ s=some (R i).v
 | 0,h,_=>absurd h (Nat.not_lt_zero _)
 | n+1,h,hj=>by
  simp only [sub]
  by_cases e:i=n
  ·subst e;rw [hi,cond_true,(app_cons S0 _ _).1,if_pos hs]
  ·have ih:=slot_top hs hi (n:=n) (by omega) fun j h1 h2=>hj j h1 (by omega)
   cases hx:X n with
   | true=>rw [cond_true,(app_cons S0 _ _).1,if_neg (hj n (by omega) (by omega) hx)];exact ih
   | false=>exact ih
theorem heap_top {k i:Nat} {b:Blk E} (hs:lk (R i).u k=some b) (hi:X i=true):∀ {n:Nat},i<n→(∀j,i<j→j<n→X j=true→k∉keys (R j))→lk (S0.app (sub X R n)).H k=some b
 | 0,h,_=>absurd h (Nat.not_lt_zero _)
 | n+1,h,hj=>by
  simp only [sub]
  by_cases e:i=n
  ·subst e;rw [hi,cond_true,(app_cons S0 _ _).2,lk_append,hs]
  ·have ih:=heap_top hs hi (n:=n) (by omega) fun j h1 h2=>hj j h1 (by omega)
   cases hx:X n with
   | true=>rw [cond_true,(app_cons S0 _ _).2,lk_append,lk_none_of (hj n (by omega) (by omega) hx)];exact ih
   | false=>exact ih
theorem sub_lt {i:Nat}:∀ {n:Nat},i≤n→sub (fun j=>decide (j<i)) R n=pre R i
 | 0, h => by obtain rfl : i = 0 := by omega
              rfl
 | n+1,h=>by
  by_cases e:i=n+1
  ·subst e
   have:∀m,m≤n+1→sub (fun j=>decide (j<n+1)) R m=pre R m:=by
    intro m
    induction m with
    | zero=>intro _;rfl
    | succ m ih=>intro hm;simp only [sub];rw [ih (by omega),decide_eq_true (show m<n+1 by omega)]
   exact this (n+1) (Nat.le_refl _)
  ·simp only [sub]
   rw [decide_eq_false (show ¬ n<i by omega),cond_false]
   exact sub_lt (by omega)
theorem heap_live {k:Nat}:∀ {n:Nat},(lk (S0.app (sub X R n)).H k).isSome=true→(lk S0.H k).isSome=true∨∃j,j<n∧X j=true∧k∈keys (R j)
 | 0,h=>.inl h
 | n+1,h=>by
  simp only [sub] at h
  cases hx:X n with
  | true=>
   rw [hx,cond_true,(app_cons S0 _ _).2,lk_append] at h
   split at h
   ·rename_i b hl
    exact .inr ⟨n,Nat.lt_succ_self _,hx,List.mem_map.2 ⟨_,lk_mem hl,rfl⟩⟩
   ·rcases heap_live h with h | ⟨j,h1,h2,h3⟩
    ·exact .inl h
    ·exact .inr ⟨j,by omega,h2,h3⟩
  | false=>
   rw [hx,cond_false] at h
   rcases heap_live h with h | ⟨j,h1,h2,h3⟩
   ·exact .inl h
   ·exact .inr ⟨j,by omega,h2,h3⟩
theorem befBits_spec {acc:List Nat} {o:Oper} {j:Nat} (h:Nat.testBit (befBits acc o) j=true):∃e∈o.after,Region.binds .any e=true∧(e.on=j∨Nat.testBit (acc.getD e.on 0) j=true):=by
 have key:∀(l:List Edge) (s:Nat),Nat.testBit (l.foldl (fun s e=>bif Region.binds .any e then (s ||| 2 ^ e.on) ||| acc.getD e.on 0 else s) s) j=true→Nat.testBit s j=true∨∃e∈l,Region.binds .any e=true∧(e.on=j∨Nat.testBit (acc.getD e.on 0) j=true):=by
  intro l
  induction l with
  | nil=>intro s h;exact .inl h
  | cons e l ih=>
   intro s h
   rcases ih _ h with h | ⟨e',h1,h2⟩
   ·dsimp only at h
    cases hb:Region.binds .any e with
    | false=>rw [hb] at h;exact .inl h
    | true=>
     rw [hb,cond_true,Nat.testBit_or,Nat.testBit_or,Bool.or_eq_true,Bool.or_eq_true] at h
     rcases h with (h | h) | h
     ·exact .inl h
     ·exact .inr ⟨e,List.mem_cons_self ..,hb,.inl (by rw [Nat.testBit_two_pow] at h;simpa using h)⟩
     ·exact .inr ⟨e,List.mem_cons_self ..,hb,.inr h⟩
   ·exact .inr ⟨e',List.mem_cons_of_mem _ h1,h2⟩
 rcases key _ 0 h with h | ⟨e,h1,h2⟩
 ·simp at h
 ·exact ⟨e,by simpa using h1,h2⟩
theorem befGo_spec:∀(ops:List Oper) (acc:List Nat) (all:List Oper),all.drop acc.length=ops→(∀i o j,i<acc.length→all[i]? = some o→Nat.testBit (acc.getD i 0) j=true→∃e∈o.after,Region.binds .any e=true∧(e.on=j∨(e.on<i∧Nat.testBit (acc.getD e.on 0) j=true)))→
  ∀i o j,all[i]? = some o→Nat.testBit ((befGo ops acc).getD i 0) j=true→∃e∈o.after,Region.binds .any e=true∧(e.on=j∨(e.on<i∧Nat.testBit ((befGo ops acc).getD e.on 0) j=true))
 | [],acc,all,hd,hacc,i,o,j,hi,h=>by
  by_cases hl:i<acc.length
  ·exact hacc i o j hl hi h
  ·have:(all.drop acc.length)[i - acc.length]? = some o:=by rw [List.getElem?_drop,show acc.length+(i - acc.length)=i by omega];exact hi
   rw [hd] at this;simp at this
 | o1::ops,acc,all,hd,hacc,i,o,j,hi,h=>by
  refine befGo_spec ops (acc++[befBits acc o1]) all ?_ ?_ i o j hi h
  ·rw [List.length_append,List.length_singleton,← List.drop_drop,hd];rfl
  ·intro i o j hl hi h
   rw [List.length_append,List.length_singleton] at hl
   have get:∀k,k<acc.length→(acc++[befBits acc o1]).getD k 0=acc.getD k 0:=fun k hk=>by
    simp [List.getD_eq_getElem?_getD,List.getElem?_append_left hk]
   by_cases hl':i<acc.length
   ·rw [get i hl'] at h
    obtain ⟨e,h1,h2,h3⟩:=hacc i o j hl' hi h
    refine ⟨e,h1,h2,h3.imp id fun ⟨h3,h4⟩=>⟨h3,by rw [get e.on (by omega)];exact h4⟩⟩
   ·obtain rfl:i=acc.length:=by omega
    have ho:o=o1:=by
     have:(all.drop acc.length)[0]? = some o:=by rw [List.getElem?_drop];exact hi
     rw [hd] at this;simpa using this.symm
    subst ho
    have hget:(acc++[befBits acc o]).getD acc.length 0=befBits acc o:=by simp [List.getD_eq_getElem?_getD]
    rw [hget] at h
    obtain ⟨e,h1,h2,h3⟩:=befBits_spec h
    refine ⟨e,h1,h2,h3.imp id fun h4=>?_⟩
    have hlt:e.on<acc.length:=by
     by_cases hlt:e.on<acc.length
     ·exact hlt
     ·rw [List.getD_eq_getElem?_getD,List.getElem?_eq_none (by omega)] at h4;simp at h4
    exact ⟨hlt,by rw [get _ hlt];exact h4⟩
theorem befores_spec {all:Array Oper} {i:Nat} {o:Oper} {j:Nat} (hi:all[i]? = some o) (h:Nat.testBit ((befores all.toList).getD i 0) j=true):∃e∈o.after,Region.binds .any e=true∧(e.on=j∨(e.on<i∧Nat.testBit ((befores all.toList).getD e.on 0) j=true)):=
 befGo_spec all.toList [] all.toList rfl (fun i o j h=>absurd h (Nat.not_lt_zero _)) i o j (by simpa using hi) h
def Down (all:Array Oper) (X:Nat→Bool):Prop:=∀i o,all[i]? = some o→X i=true→∀e∈o.after,Region.binds .any e=true→X e.on=true
theorem Down.bef {all:Array Oper} (hX:Down all X) (hsz:∀i,X i=true→i<all.size):∀(i:Nat) (o:Oper),all[i]? = some o→(∀e∈o.after,Region.binds .any e=true→X e.on=true)→∀j,Nat.testBit ((befores all.toList).getD i 0) j=true→X j=true:=by
 intro i
 induction i using Nat.strongRecOn with
 | _ i ih=>
  intro o hi he j h
  obtain ⟨e,h1,h2,h3⟩:=befores_spec hi h
  rcases h3 with rfl | ⟨h3,h4⟩
  ·exact he e h1 h2
  ·have hx:=he e h1 h2
   have hlt:=hsz _ hx
   exact ih e.on h3 all[e.on] (by simp [hlt]) (fun e' h5 h6=>hX e.on _ (by simp [hlt]) hx e' h5 h6) j h4
theorem edgesOK_spec:∀ {l:List Oper} {i:Nat},edgesOK l i=true→∀j o,l[j]? = some o→∀e∈o.after,Region.binds .any e=true→e.on<i+j
 | [],_,_,_,_,h=>by simp at h
 | o::l,i,h,j,o',hj=>by
  simp only [edgesOK,Bool.and_eq_true,List.all_eq_true] at h
  cases j with
  | zero=>
   simp only [List.getElem?_cons_zero,Option.some.injEq] at hj
   subst hj
   intro e he hb
   have:=h.1 e (by simpa using he)
   rw [hb] at this
   have:=Nat.le_of_ble_eq_true (show Nat.ble (e.on+1) i=true by simpa [Nat.blt] using this)
   omega
  | succ j=>
   intro e he hb
   have:=edgesOK_spec h.2 j o' (by simpa using hj) e he hb
   omega
theorem indepSteps_spec {b:List Nat}:∀ {n:Nat},indepSteps b (stepsOf R n)=true→∀i j,j<i→i<n→(R i).ex=true→(R j).ex=true→sepSteps b ⟨i,keys (R i),(R i).rs⟩ ⟨j,keys (R j),(R j).rs⟩=true
 | 0,_,_,_,_,h,_,_=>absurd h (Nat.not_lt_zero _)
 | n+1,h,i,j,hji,hin,hi,hj=>by
  have mem:∀ {m:Nat} {j:Nat},j<m→(R j).ex=true→(⟨j,keys (R j),(R j).rs⟩:Step)∈stepsOf R m:=by
   intro m
   induction m with
   | zero=>intro j h;exact absurd h (Nat.not_lt_zero _)
   | succ m ih=>
    intro j hjm hj
    simp only [stepsOf]
    by_cases e:j=m
    ·subst e;rw [hj];exact List.mem_cons_self ..
    ·have:=ih (show j<m by omega) hj
     cases (R m).ex with
     | true=>exact List.mem_cons_of_mem _ this
     | false=>exact this
  simp only [stepsOf] at h
  by_cases e:i=n
  ·subst e
   rw [hi,cond_true] at h
   simp only [indepSteps,Bool.and_eq_true,List.all_eq_true] at h
   exact h.1 _ (mem hji hj)
  ·have h':indepSteps b (stepsOf R n)=true:=by
    cases hx:(R n).ex with
    | true=>rw [hx,cond_true] at h;simp only [indepSteps,Bool.and_eq_true] at h;exact h.2
    | false=>rw [hx] at h;exact h
   exact indepSteps_spec h' i j hji (by omega) hi hj
theorem meets_of {a b:List Nat} {k:Nat} (h1:k∈a) (h2:k∈b):meets a b=true:=List.any_eq_true.2 ⟨k,h1,List.any_eq_true.2 ⟨k,h2,Nat.beq_refl k⟩⟩
theorem indepNames_spec {all:Array Oper} {b:List Nat} (h:indepNames all b=true) {i j:Nat} {x y:Oper} (hji:j<i) (hi:all[i]? = some x) (hj:all[j]? = some y):Nat.testBit (b.getD i 0) j=true∨x.apart all y=true:=by
 have hlt:i<all.size:=by
  by_cases h:i<all.size
  ·exact h
  ·rw [Array.getElem?_eq_none (by omega)] at hi;cases hi
 have:=List.all_eq_true.1 (List.all_eq_true.1 h i (List.mem_range.2 hlt)) j (List.mem_range.2 hji)
 rw [hi,hj] at this
 simpa using this
end Mir
namespace Mir
set_option linter.unusedVariables false
set_option linter.unusedSimpArgs false
open Go
variable {E:Env} {P:Program} {T:Tb} {Γ:Ctx E} {cx:Cx} {G G':Gh} {S:St E} {tm:Array Value} {a:Act} {W W':World}
variable {R:Nat→Rc E} {S0:St E} {X X':Nat→Bool}
structure Traced (T:Tb) (Γ:Ctx E) (all:Array Oper) (nx:Nat) (S0:St E) (R:Nat→Rc E):Prop where
 recs:∀i o,all[i]? = some o→RecOK T Γ all nx S0 (S0.app (pre R i)) i o (R i)
 steps:indepSteps (befores all.toList) (stepsOf R all.size)=true
 names:indepNames all (befores all.toList)=true
 edges:edgesOK all.toList 0=true
 low:∀k,(lk S0.H k).isSome=true→k<nx
section
variable {all:Array Oper} {nx:Nat} (hR:Traced T Γ all nx S0 R)
include hR
theorem Traced.ex {j k:Nat} (hj:j<all.size) (hk:k∈keys (R j)):(R j).ex=true:=by
 have:=(hR.recs j all[j] (by simp [hj])).guard
 rcases this with h | ⟨_,_,h,_⟩
 ·exact h.1
 ·unfold keys at hk;rw [h] at hk;cases hk
theorem Traced.born:∀(j k:Nat),j<all.size→k∈keys (R j)→k<nx∨∃i,i≤j∧nx+STR * i≤k∧k<nx+STR * i+STR∧k∈keys (R i):=by
 intro j
 induction j using Nat.strongRecOn with
 | _ j ih=>
  intro k hj hk
  have hrec:=hR.recs j all[j] (by simp [hj])
  obtain ⟨p,hp,rfl⟩:=List.mem_map.1 hk
  rcases hrec.keys p hp with h | h
  ·have hout:=hrec.out (hR.ex hj hk)
   rcases RM.Out_live hout p.1 h with h | ⟨b,hb⟩
   ·cases h
   ·have:(lk (S0.app (pre R j)).H p.1).isSome=true:=St.h_k hb
    rcases heap_live this with h | ⟨j',h1,_,h2⟩
    ·exact .inl (hR.low _ h)
    ·rcases ih j' h1 p.1 (by omega) h2 with h | ⟨i,h3,h4⟩
     ·exact .inl h
     ·exact .inr ⟨i,by omega,h4⟩
  ·exact .inr ⟨j,Nat.le_refl _,h.1,h.2,hk⟩
variable (hX:Down all X) (hsz:∀i,X i=true→i<all.size)
include hX hsz
theorem Traced.before {i j:Nat} {o:Oper} (hi:all[i]? = some o) (hiX:(∀e∈o.after,Region.binds .any e=true→X e.on=true)) (hji:j<i) (hj:X j=false) {k:Nat} (h1:k∈keys (R j)) (h2:k∈(R i).rs∨k∈keys (R i)) (hex:(R i).ex=true):False:=by
 have hlt:i<all.size:=by
  by_cases h:i<all.size
  ·exact h
  ·rw [Array.getElem?_eq_none (by omega)] at hi;cases hi
 have:=indepSteps_spec hR.steps i j hji hlt hex (hR.ex (by omega) h1)
 unfold sepSteps at this
 simp only [Bool.or_eq_true,Bool.and_eq_true,Bool.not_eq_true'] at this
 rcases this with h | ⟨⟨h3,h4⟩,h5⟩
 ·have:=hX.bef hsz i o hi hiX j h
  rw [hj] at this;cases this
 ·rcases h2 with h2 | h2
  ·rw [meets_of h2 h1] at h5;cases h5
  ·rw [meets_of h2 h1] at h3;cases h3
theorem Traced.behind {i j:Nat} (hij:i<j) (hjn:j<all.size) (hi:X i=false) (hj:X j=true) {k:Nat} (h1:k∈keys (R j)) (h2:k∈(R i).rs∨k∈keys (R i)) (hex:(R i).ex=true):False:=by
 have:=indepSteps_spec hR.steps j i hij hjn (hR.ex hjn h1) hex
 unfold sepSteps at this
 simp only [Bool.or_eq_true,Bool.and_eq_true,Bool.not_eq_true'] at this
 rcases this with h | ⟨⟨h3,h4⟩,h5⟩
 ·have:=hX.bef hsz j all[j] (by simp [hjn]) (fun e he hb=>hX j _ (by simp [hjn]) hj e he hb) i h
  rw [hi] at this;cases this
 ·rcases h2 with h2 | h2
  ·rw [meets_of h1 h2] at h4;cases h4
  ·rw [meets_of h1 h2] at h3;cases h3
theorem Traced.slot {i:Nat} {o:Oper} (hi:all[i]? = some o) (hiX:(∀e∈o.after,Region.binds .any e=true→X e.on=true)) (hin:X i=false) {s:Nat} (hs:s∈o.looksAt all∨o.dst=some s) :
  ∀j,j<all.size→j≠i→(R j).d=some s→X j=decide (j<i):=by
 intro j hj hne hd
 have hjo:all[j]? = some all[j]:=by simp [hj]
 rw [(hR.recs j _ hjo).d] at hd
 by_cases hlt:j<i
 ·rw [decide_eq_true hlt]
  cases hx:X j with
  | true=>rfl
  | false=>
   exfalso
   rcases indepNames_spec hR.names hlt hi hjo with h | h
   ·have:=hX.bef hsz i o hi hiX j h
    rw [hx] at this;cases this
   ·obtain ⟨h1,h2,h3⟩:=Oper.apart_spec h
    rcases hs with hs | hs
    ·exact h3 s hd hs
    ·exact h2 s hs hd
 ·rw [decide_eq_false hlt]
  cases hx:X j with
  | false=>rfl
  | true=>
   exfalso
   rcases indepNames_spec hR.names (show i<j by omega) hjo hi with h | h
   ·have:=hX.bef hsz j _ hjo (fun e he hb=>hX j _ hjo hx e he hb) i h
    rw [hin] at this;cases this
   ·obtain ⟨h1,h2,h3⟩:=Oper.apart_spec h
    rcases hs with hs | hs
    ·exact h1 s hd hs
    ·exact h2 s hd hs
end
structure AnyInv (cx:Cx) (A:Array Value) (all:Array Oper) (S0:St E) (R:Nat→Rc E) (X:Nat→Bool) (a:Act) (W:World):Prop where
 sim:∃G,Sim cx G (S0.app (sub X R all.size)) a.tmps W
 defers:a.defers=[]
 pin:∀s∈S0.pin,a.tmps.getD s undef=A.getD s undef
theorem any_step (hT:T.OK P) (hΓ:GamOK P Γ) {A:Array Value} {all:Array Oper} {nx:Nat} (hR:Traced T Γ all nx S0 R) (hX:Down all X) (hsz:∀i,X i=true→i<all.size) {i:Nat} {o:Oper} (hi:all[i]? = some o)
  (hiX:(∀e∈o.after,Region.binds .any e=true→X e.on=true)) (hin:X i=false) (hX':∀j,X' j=if j=i then true else X j) (hI:AnyInv cx A all S0 R X a W)
  {K:Act→World→Prop} {Q:Exit→Act→World→Prop} (hK:∀a' W',AnyInv cx A all S0 R X' a' W'→K a' W'):wpOp P all Q i K a W:=by
 have hlt:i<all.size:=by
  by_cases h:i<all.size
  ·exact h
  ·rw [Array.getElem?_eq_none (by omega)] at hi;cases hi
 have hrec:=hR.recs i o hi
 obtain ⟨G,hS⟩:=hI.sim
 have hpre:pre R i=sub (fun j=>decide (j<i)) R all.size:=(sub_lt (Nat.le_of_lt hlt)).symm
 have hslot:∀s∈o.looksAt all,lk (S0.app (sub X R all.size)).ρ s=lk (S0.app (pre R i)).ρ s:=by
  intro s hs
  rw [hpre]
  refine slot_congr fun j hj hd=>?_
  by_cases hne:j=i
  ·subst hne;rw [hin,decide_eq_false (Nat.lt_irrefl _)]
  ·exact hR.slot hX hsz hi hiX hin (.inl hs) j hj hne hd
 have hheap:∀k,(k∈(R i).rs∨k∈keys (R i))→(R i).ex=true→∀j,j<all.size→k∈keys (R j)→j≠i→X j=decide (j<i):=by
  intro k hk hex j hj hkj hne
  by_cases hji:j<i
  ·rw [decide_eq_true hji]
   cases hx:X j with
   | true=>rfl
   | false=>exact (hR.before hX hsz hi hiX hji hx hkj hk hex).elim
  ·rw [decide_eq_false hji]
   cases hx:X j with
   | false=>rfl
   | true=>exact (hR.behind hX hsz (show i<j by omega) hj hin hx hkj hk hex).elim
 have hb:∀k∈(R i).rs,(R i).ex=true→(S0.app (sub X R all.size)).h k=(S0.app (pre R i)).h k:=by
  intro k hk hex
  unfold St.h
  rw [hpre,heap_congr (X':=fun j=>decide (j<i))]
  intro j hj hkj
  by_cases hne:j=i
  ·subst hne;rw [hin,decide_eq_false (Nat.lt_irrefl _)]
  ·exact hheap k (.inl hk) hex j hj hkj hne
 have hput:∀ {S1:St E} {G1:Gh} {v:Value} {W1:World},Sim cx G1 S1 a.tmps W1→(∀s,lk S1.ρ s=lk (S0.app (sub X R all.size)).ρ s)→S1.n=S0.n→(S1.H=(R i).u++(S0.app (sub X R all.size)).H)→AVR G1 S1.k W1 (R i).v v→((R i).u≠[]→(R i).ex=true)→AnyInv cx A all S0 R X' (a.put o.dst v) W1:=by
  intro S1 G1 v W1 hS1 hρ hn hH hv hex
  have hXi:X' i=true:=by rw [hX',if_pos rfl]
  have hXj:∀j,j≠i→X' j=X j:=fun j hj=>by rw [hX',if_neg hj]
  have hHeq:∀k,lk (S0.app (sub X' R all.size)).H k=lk ((R i).u++(S0.app (sub X R all.size)).H) k:=by
   intro k
   rw [lk_append]
   split
   ·rename_i b hl
    have hki:k∈keys (R i):=List.mem_map.2 ⟨_,lk_mem hl,rfl⟩
    refine heap_top hl hXi hlt fun j h1 h2 h3 h4=>?_
    have:=hheap k (.inr hki) (hex (fun h=>by rw [h] at hl;cases hl)) j h2 h4 (by omega)
    rw [hXj j (by omega)] at h3
    rw [h3,decide_eq_false (by omega)] at this
    cases this
   ·rename_i hl
    refine heap_congr fun j hj hk=>?_
    by_cases hne:j=i
    ·subst hne
     obtain ⟨p,hp,rfl⟩:=List.mem_map.1 hk
     have:=mem_lk (b:=p.2) hp
     rw [hl] at this;cases this
    ·exact hXj j hne
  cases hd:o.dst with
  | none=>
   refine ⟨⟨G1,hS1.congr (fun s=>?_) (fun k=>by rw [hHeq,hH]) hn.symm⟩,hI.defers,hI.pin⟩
   rw [hρ]
   refine slot_congr fun j hj hdj=>?_
   by_cases hne:j=i
   ·subst hne;rw [hrec.d,hd] at hdj;cases hdj
   ·exact hXj j hne
  | some d=>
   obtain ⟨hdn,hdp⟩:=hrec.dst d hd
   have h2:=hS1.setρ (d:=d) (by rw [hn];exact hdn) hv
   refine ⟨⟨G1,h2.congr (fun s=>?_) (fun k=>by rw [hHeq];show _=lk S1.H k;rw [hH]) hn.symm⟩,hI.defers,pin_put hI.pin hdp⟩
   show _=lk ((d,(R i).v)::S1.ρ) s
   rw [lk_cons]
   split
   ·rename_i e
    subst e
    refine slot_top (by rw [hrec.d,hd]) hXi hlt fun j h1 h3 h4 h5=>?_
    have:=hR.slot hX hsz hi hiX hin (.inr hd) j h3 (by omega) h5
    rw [hXj j (by omega)] at h4
    rw [h4,decide_eq_false (by omega)] at this
    cases this
   ·rename_i hne
    rw [hρ]
    refine slot_congr fun j hj hdj=>?_
    by_cases hne':j=i
    ·subst hne';rw [hrec.d,hd] at hdj;cases hdj;exact absurd rfl hne
    ·exact hXj j hne'
 have gslot:∀j want d,o.guard=some (j,want)→(all[j]?).bind (·.dst)=some d→d∈o.looksAt all:=by
  intro j want d hg hd
  unfold Oper.looksAt
  rw [hg]
  simp [hd]
 unfold wpOp
 rw [hi]
 dsimp only
 rcases hrec.guard with ⟨hex,hg⟩ | ⟨hex,hv,hu,j,want,d,hg,hd,hρ⟩
 ·have hw:Region.wanted o (yielded all a.tmps)=true:=by
   rcases hg with hg | ⟨j,want,d,hg,hd,hρ⟩
   ·simp [Region.wanted,hg]
   ·have hl:lk (S0.app (sub X R all.size)).ρ d=some (.bool want):=by rw [hslot d (gslot j want d hg hd)];exact hρ
    have hv:a.tmps.getD d undef = .bool want:=hS.tmps d _ hl
    have hy:=yielded_of (all:=all) (tm:=a.tmps) hd
    rw [hv] at hy
    simp [Region.wanted,hg,hy]
  rw [if_pos hw]
  refine .inl ?_
  have hout:=hrec.out hex
  have hcg:aopC T Γ (nx+STR * i) (lk (S0.app (pre R i)).ρ) o.op=aopC T Γ (nx+STR * i) (lk (S0.app (sub X R all.size)).ρ) o.op:=by
   refine aopC_congr fun x hx=>?_
   cases x with
   | tmp t=>exact (hslot t (List.mem_append_left _ (List.mem_filterMap.2 ⟨.tmp t,by simpa using hx,rfl⟩))).symm
   | _=>rfl
  rw [hcg] at hout
  have hout:=RM.Out_local hout (fun k hk=>hb k hk hex)
  refine aopC_sound hT hΓ hS (fun k h1 h2=>?_) hout fun v W' G' hS' hv=>hK _ _ (hput (S1:={ S0.app (sub X R all.size) with H:=(R i).u++(S0.app (sub X R all.size)).H }) hS' (fun s=>rfl) rfl rfl hv fun _=>hex)
  cases hl:lk (S0.app (sub X R all.size)).H k with
  | none=>rfl
  | some b=>
   exfalso
   rcases heap_live (R:=R) (X:=X) (S0:=S0) (n:=all.size) (k:=k) (by rw [hl];rfl) with h | ⟨j,h3,h4,h5⟩
   ·have:=hR.low k h;omega
   ·rcases hR.born j k h3 h5 with h | ⟨i',h6,h7,h8,h9⟩
    ·omega
    ·have:i'=i:=by
      rcases Nat.lt_trichotomy i' i with h | h | h
      ·have:STR * (i'+1)≤STR * i:=Nat.mul_le_mul_left _ h
       rw [Nat.mul_add] at this;omega
      ·exact h
      ·have:STR * (i+1)≤STR * i':=Nat.mul_le_mul_left _ h
       rw [Nat.mul_add] at this;omega
     subst this
     have hne:j≠i':=fun e=>by subst e;rw [hin] at h4;cases h4
     have:=hheap k (.inr h9) hex j h3 h5 hne
     rw [h4,decide_eq_false (by omega)] at this
     cases this
 ·have hl:lk (S0.app (sub X R all.size)).ρ d=lk (S0.app (pre R i)).ρ d:=hslot d (gslot j want d hg hd)
  have hy:=yielded_of (all:=all) (tm:=a.tmps) hd
  have hw:Region.wanted o (yielded all a.tmps)=false:=by
   rcases hρ with hρ | hρ
   ·have hv:a.tmps.getD d undef = .bool (!want):=hS.tmps d _ (hl.trans hρ)
    rw [hv] at hy
    cases want<;>simp [Region.wanted,hg,hy]
   ·have hv:a.tmps.getD d undef=undef:=hS.tmps d _ (hl.trans hρ)
    rw [hv] at hy
    simp [Region.wanted,hg,hy,undef]
  rw [hw]
  simp only [Bool.false_eq_true,if_false]
  exact hK _ _ (hput (v:=undef) hS (fun _=>rfl) rfl (by rw [hu];rfl) (by rw [hv];rfl) (fun h=>absurd hu h))
theorem any_sound (hT:T.OK P) (hΓ:GamOK P Γ) {A:Array Value} {all:Array Oper} {nx:Nat} (hR:Traced T Γ all nx S0 R) {Q:Exit→Act→World→Prop} (hQ:∀a W,AnyInv cx A all S0 R (fun _=>true) a W→Q .normal a W) :
  ∀(fuel:Nat) (listed:Array Bool) (a:Act) (W:World),listed.size=all.size→(List.range all.size).countP (fun i=>!listed.getD i false)≤fuel→Down all (fun i=>listed.getD i false)→AnyInv cx A all S0 R (fun i=>listed.getD i false) a W→wpAny P .any all Q fuel listed a W:=by
 have done:∀(listed:Array Bool) (a:Act) (W:World),listed.size=all.size→(∀i,i<all.size→listed.getD i false=true)→AnyInv cx A all S0 R (fun i=>listed.getD i false) a W→Q .normal a W:=by
  intro listed a W hs hall hI
  have e:sub (fun i=>listed.getD i false) R all.size=pre R all.size:=by
   have:∀n,n≤all.size→sub (fun i=>listed.getD i false) R n=pre R n:=by
    intro n
    induction n with
    | zero=>intro _;rfl
    | succ n ih=>intro hn;simp only [sub];rw [ih (by omega),hall n (by omega)]
   exact this _ (Nat.le_refl _)
  obtain ⟨⟨G,hS⟩,h2,h3⟩:=hI
  rw [e] at hS
  exact hQ a W ⟨⟨G,hS⟩,h2,h3⟩
 have rdy:∀(listed:Array Bool),listed.size=all.size→Region.ready .any all listed=[]→∀i,i<all.size→listed.getD i false=true:=by
  intro listed hs hr i
  induction i using Nat.strongRecOn with
  | _ i ih=>
   intro hi
   cases hx:listed.getD i false with
   | true=>rfl
   | false=>
    exfalso
    have:i∈Region.ready .any all listed:=mem_ready.2 ⟨by simp [hs,hi] at hx ⊢;exact hx,all[i],by simp [hi],fun e he hb=>by
     have:=edgesOK_spec hR.edges i all[i] (by simp [hi]) e he hb
     exact ih e.on (by omega) (by omega)⟩
    rw [hr] at this;cases this
 intro fuel
 induction fuel with
 | zero=>
  intro listed a W hs hc hD hI
  have hall:∀i,i<all.size→listed.getD i false=true:=by
   intro i hi
   have:=List.countP_eq_zero.1 (Nat.le_zero.1 hc) i (List.mem_range.2 hi)
   simpa using this
  refine ⟨?_,done listed a W hs hall hI⟩
  cases hr:Region.ready .any all listed with
  | nil=>rfl
  | cons j r=>
   exfalso
   obtain ⟨h1,o,ho,_⟩:=mem_ready.1 (show j∈Region.ready .any all listed by rw [hr];exact List.mem_cons_self ..)
   have hj:j<all.size:=by
    by_cases h:j<all.size
    ·exact h
    ·rw [Array.getElem?_eq_none (by omega)] at ho;cases ho
   have:=hall j hj
   simp [hs,hj] at h1 this
   rw [this] at h1;cases h1
 | succ fuel ih=>
  intro listed a W hs hc hD hI
  refine ⟨fun hr=>done listed a W hs (rdy listed hs hr) hI,fun i hi=>?_⟩
  obtain ⟨h1,o,ho,hafter⟩:=mem_ready.1 hi
  have hil:i<all.size:=by
   by_cases h:i<all.size
   ·exact h
   ·rw [Array.getElem?_eq_none (by omega)] at ho;cases ho
  have hin:listed.getD i false=false:=by simp [hs,hil] at h1 ⊢;exact h1
  have hset:∀j,(listed.setIfInBounds i true).getD j false=if j=i then true else listed.getD j false:=by
   intro j
   by_cases e:j=i
   ·subst e;simp [hs,hil]
   ·rw [if_neg e];exact getD_set_ne false (Ne.symm e)
  refine any_step hT hΓ hR hD (fun j hj=>?_) ho hafter hin hset hI fun a' W' hI'=>ih _ a' W' (by simpa using hs) ?_ ?_ hI'
  ·by_cases h:j<all.size
   ·exact h
   ·simp [hs,h] at hj
  ·have:(List.range all.size).countP (fun j=>!(listed.setIfInBounds i true).getD j false)<(List.range all.size).countP (fun j=>!listed.getD j false):=by
    have gen:∀(l:List Nat),i∈l→l.countP (fun j=>!(listed.setIfInBounds i true).getD j false)<l.countP (fun j=>!listed.getD j false):=by
     have le:∀(l:List Nat),l.countP (fun j=>!(listed.setIfInBounds i true).getD j false)≤l.countP (fun j=>!listed.getD j false):=by
      intro l
      refine List.countP_mono_left fun j _ hj=>?_
      rw [hset] at hj
      split at hj
      ·cases hj
      ·exact hj
     intro l
     induction l with
     | nil=>intro h;cases h
     | cons j l ih=>
      intro h
      by_cases e:j=i
      ·subst e
       rw [List.countP_cons_of_neg (by rw [hset,if_pos rfl];simp),List.countP_cons_of_pos (by rw [hin];rfl)]
       exact Nat.lt_succ_of_le (le l)
      ·have:=ih ((List.mem_cons.1 h).resolve_left (Ne.symm e))
       simp only [List.countP_cons]
       rw [hset,if_neg e]
       omega
    exact gen _ (List.mem_range.2 hil)
   omega
  ·intro j o' hj hx e he hb
   dsimp only at hx ⊢
   rw [hset] at hx ⊢
   split
   ·rfl
   ·split at hx
    ·rename_i h2;subst h2
     rw [ho] at hj;cases hj
     exact hafter e he hb
    ·exact hD j o' hj hx e he hb
end Mir
namespace Mir
set_option linter.unusedVariables false
set_option linter.unusedSimpArgs false
open Go
variable {E:Env} {P:Program} {T:Tb} {Γ:Ctx E} {cx:Cx} {G G':Gh} {S:St E} {tm:Array Value} {a:Act} {W W':World}
theorem Sim.drew (hS:Sim cx G S tm W):Sim cx G S tm { W with drawn:=W.drawn+1 }:=by
 have hE:Ext G S.k W G (St.k { S with H:=[]++S.H }) { W with drawn:=W.drawn+1 }:=⟨fun _ _=>rfl,fun _ _=>rfl,fun _ _=>rfl,fun _ _=>rfl,fun _ _=>rfl,fun _ _=>rfl,fun _ h=>h,fun _ h=>h,fun _ _=>rfl⟩
 exact hS.upd [] hE ⟨hS.frm.os,hS.frm.tape,hS.frm.output,hS.frm.size,hS.frm.block⟩ (Nat.le_refl _) (fun id b h=>by cases h) (fun _ _ _ _ _ _=>rfl) (fun id b k h=>by cases h) (fun i j bi bj k h=>by cases h) (fun k h=>.inl h) (fun id b k h=>by cases h)
theorem sub_none {R:Nat→Rc E} {X:Nat→Bool}:∀ {n:Nat},(∀i,i<n→X i=false)→sub X R n=[]
 | 0,_=>rfl
 | n+1,h=>by simp only [sub];rw [h n (Nat.lt_succ_self _),cond_false];exact sub_none fun i hi=>h i (Nat.lt_succ_of_lt hi)
variable {R:Type}
theorem runRegion_sound (hT:T.OK P) (hΓ:GamOK P Γ) (hmix:P.follows .mixedOrders=true) {A:Array Value} {id:Nat} {ops:Array Oper} {draw:Bool} {K:St E→Option R} {x:R} (h:runRegion T Γ ops draw S K=some x) (hI:Inv cx A S.nx S a W)
  {Q:Exit→Act→World→Prop} (hK:∀S' a' W',K S'=some x→Inv cx A S'.nx S' a' W'→Q .normal a' W'):(Code.region id ops draw).wp P Q a W:=by
 unfold runRegion at h
 cases draw with
 | false=>
  refine wp_region_list ?_
  refine runOps_sound (A:=A) hT hΓ ops.toList 0 S [] a W hI h fun S' l' a' W' h' hI'=>?_
  simp only [Bool.not_false,Bool.true_or,cond_true] at h'
  refine hK _ a' W' h' ⟨?_,?_,hI'.defers,hI'.pin⟩
  ·obtain ⟨G,hS⟩:=hI'.sim
   exact ⟨G,hS.congr (fun _=>rfl) (fun _=>rfl) rfl⟩
  ·intro k hk
   have:=hI'.nx k hk
   simpa using this
 | true=>
  let R0:Nat→Rc E:=fun _=>⟨none,.a .undef,[],[],false⟩
  have happ:Like S (S.app (pre R0 0)):=⟨fun _=>rfl,rfl,rfl,rfl,rfl⟩
  obtain ⟨R',S',_,hrec,hl,hk⟩:=trace ops.toList 0 S R0 happ h
  simp only [Nat.zero_add,Array.length_toList] at hrec hl hk
  simp only [Bool.not_true,Bool.false_or] at hk
  cases hind:indep ops (stepsOf R' ops.size) with
  | false=>rw [hind] at hk;cases hk
  | true=>
   rw [hind,cond_true] at hk
   unfold indep at hind
   simp only [Bool.and_eq_true] at hind
   have hR:Traced T Γ ops S.nx S R':=⟨fun i o hi=>hrec i o (by simpa using hi),hind.1.1,hind.1.2,hind.2,hI.nx⟩
   refine wp_region_any hmix ?_
   refine any_sound (cx:=cx) (A:=A) hT hΓ hR ?_ ops.size (Array.replicate ops.size false) a _ (by simp) ?_ ?_ ?_
   ·intro a' W' hA
    obtain ⟨⟨G,hS⟩,h2,h3⟩:=hA
    refine hK _ a' W' hk ⟨⟨G,hS.congr (fun s=>hl.ρ s) (fun k=>by show lk S'.H k=_;rw [hl.H]) hl.n⟩,?_,h2,?_⟩
    ·intro k hk
     have hk:(lk (S.app (pre R' ops.size)).H k).isSome=true:=by rw [← hl.H];exact hk
     show k<S.nx+STR * ops.size
     rcases heap_live hk with h | ⟨j,h1,_,h3⟩
     ·have:=hI.nx k h;omega
     ·rcases hR.born j k h1 h3 with h | ⟨i,h4,h5,h6,_⟩
      ·omega
      ·have:STR * (i+1)≤STR * ops.size:=Nat.mul_le_mul_left _ (by omega)
       rw [Nat.mul_add] at this
       omega
    ·intro s hs
     exact h3 s (by have:S'.pin=S.pin:=hl.pin;rw [← this];exact hs)
   ·have:=List.countP_le_length (p:=fun i=>!(Array.replicate ops.size false).getD i false) (l:=List.range ops.size)
    simpa using this
   ·intro i o hi hx
    exfalso
    revert hx
    simp only [Array.getD]
    split<;>simp
   ·obtain ⟨G,hS⟩:=hI.sim
    refine ⟨⟨G,?_⟩,hI.defers,hI.pin⟩
    rw [sub_none fun i hi=>by simp [hi]]
    exact hS.drew.congr (fun _=>rfl) (fun _=>rfl) rfl
theorem posOf_spec:∀ {m:List Nat} {id n j:Nat},posOf m id n=some j→∃q,j=n+q∧m[q]? = some id
 | [],_,_,_,h=>by cases h
 | i::m,id,n,j,h=>by
  unfold posOf at h
  cases hb:Nat.beq i id with
  | true=>
   rw [hb,cond_true] at h
   cases h
   exact ⟨0,rfl,by simp [Nat.eq_of_beq_eq_true hb]⟩
  | false=>
   rw [hb,cond_false] at h
   obtain ⟨q,h1,h2⟩:=posOf_spec h
   exact ⟨q+1,by omega,by simpa using h2⟩
theorem heapOf_spec {h:Nat→Option (Blk E)} {m:List Nat}:∀ {l:List Nat} {j i:Nat} {b':Blk E},lk (heapOf h m l j) i=some b'→∃q id b,i=j+q∧l[q]? = some id∧h id=some b∧b'=renBlk m b
 | [],_,_,_,hl=>by cases hl
 | id::l,j,i,b',hl=>by
  have step:∀ {b'},lk (heapOf h m l (j+1)) i=some b'→∃q id' b,i=j+q∧(id::l)[q]? = some id'∧h id'=some b∧b'=renBlk m b:=by
   intro b' hl
   obtain ⟨q,id',b,h1,h2,h3⟩:=heapOf_spec hl
   exact ⟨q+1,id',b,by omega,by simpa using h2,h3⟩
  unfold heapOf at hl
  split at hl
  ·rename_i b hb
   rw [lk_cons] at hl
   split at hl
   ·rename_i e
    cases hl
    exact ⟨0,id,b,by omega,rfl,hb,rfl⟩
   ·exact step hl
  ·exact step hl
theorem heapOf_get {h:Nat→Option (Blk E)} {m:List Nat}:∀ {l:List Nat} {j q id:Nat} {b:Blk E},l[q]? = some id→h id=some b→lk (heapOf h m l j) (j+q)=some (renBlk m b)
 | [],_,_,_,_,hq,_=>by simp at hq
 | id'::l,j,q,id,b,hq,hb=>by
  cases q with
  | zero=>
   simp only [List.getElem?_cons_zero,Option.some.injEq] at hq
   subst hq
   unfold heapOf
   rw [hb]
   dsimp only
   rw [lk_cons,if_pos (Nat.add_zero j).symm]
  | succ q=>
   have ih:=heapOf_get (m:=m) (j:=j+1) (show l[q]? = some id by simpa using hq) hb
   rw [show j+1+q=j+(q+1) by omega] at ih
   unfold heapOf
   split
   ·rw [lk_cons,if_neg (by omega)];exact ih
   ·exact ih
theorem pick_spec {ρ:List (Nat×AV E)}:∀ {l:List Nat} {s:Nat} {v:AV E},lk (pick ρ l) s=some v→lk ρ s=some v
 | [],_,_,h=>by cases h
 | t::l,s,v,h=>by
  unfold pick at h
  split at h
  ·rename_i w hw
   rw [lk_cons] at h
   split at h
   ·rename_i e;subst e;cases h;exact hw
   ·exact pick_spec h
  ·exact pick_spec h
theorem lk_map {α β:Type} (f:α→β):∀ {l:List (Nat×α)} {s:Nat},lk (l.map fun p=>(p.1,f p.2)) s=(lk l s).map f
 | [],_=>rfl
 | (j,b)::l,s=>by
  simp only [List.map_cons,lk_cons]
  split
  ·rfl
  ·exact lk_map f
section
variable {m:List Nat} {K K':Nat→Prop} (hK:∀(j id:Nat),m[j]? = some id→K' j)
 (hloc:∀(j id:Nat),m[j]? = some id→G'.loc j=G.loc id) (hhd:∀(j id:Nat),m[j]? = some id→G'.hd j=G.hd id) (hln:∀(j id:Nat),m[j]? = some id→G'.ln j=G.ln id) (hsz:∀(j id:Nat),m[j]? = some id→G'.sz j=G.sz id) (hF:G'.F=G.F)
include hK hloc hhd hln hsz hF
theorem renAt_sound {x:At E} {v:Value} (h:AtR G K W x v):AtR G' K' W (renAt m x) v:=by
 cases x with
 | own id=>
  simp only [renAt]
  split
  ·rename_i j hj
   obtain ⟨q,h1,h2⟩:=posOf_spec hj
   obtain rfl:j=q:=by omega
   exact ⟨hK _ _ h2,by rw [hhd _ _ h2];exact h.2.1,h.2.2⟩
  ·trivial
 | sub id o l=>
  simp only [renAt]
  split
  ·rename_i j hj
   obtain ⟨q,h1,h2⟩:=posOf_spec hj
   obtain rfl:j=q:=by omega
   refine ⟨hK _ _ h2,by rw [hln _ _ h2];exact h.2.1,?_⟩
   rw [hloc _ _ h2,hsz _ _ h2,hhd _ _ h2]
   exact h.2.2
  ·trivial
 | ptr id o=>
  simp only [renAt]
  split
  ·rename_i j hj
   obtain ⟨q,h1,h2⟩:=posOf_spec hj
   obtain rfl:j=q:=by omega
   exact ⟨hK _ _ h2,by rw [hloc _ _ h2];exact h.2⟩
  ·trivial
 | eptr id i o=>
  simp only [renAt]
  split
  ·rename_i j hj
   obtain ⟨q,h1,h2⟩:=posOf_spec hj
   obtain rfl:j=q:=by omega
   exact ⟨hK _ _ h2,by rw [hln _ _ h2];exact h.2.1,by rw [hloc _ _ h2,hsz _ _ h2];exact h.2.2⟩
  ·trivial
 | ro e t xs=>obtain ⟨d,h⟩:=h;exact ⟨d,by rw [hF];exact h⟩
 | mp id=>
  simp only [renAt]
  split
  ·rename_i j hj
   obtain ⟨q,h1,h2⟩:=posOf_spec hj
   obtain rfl:j=q:=by omega
   exact ⟨hK _ _ h2,by rw [hloc _ _ h2];exact h.2⟩
  ·trivial
 | inn id hid i c=>trivial
 | _=>exact h
theorem renAts_sound:∀ {xs:List (At E)} {vs:List Value},AtsR G K W xs vs→AtsR G' K' W (xs.map (renAt m)) vs
 | [],_,h=>h
 | _::_,_,⟨v,r,hv,ha,hr⟩=>⟨v,r,hv,renAt_sound hK hloc hhd hln hsz hF ha,renAts_sound hr⟩
theorem renCv_sound {x:Cv E} {v:Value} (h:CvR G K W x v):CvR G' K' W (renCv m x) v:=by
 cases x with
 | «at» x=>exact renAt_sound hK hloc hhd hln hsz hF h
 | agg xs=>obtain ⟨vs,hv,h⟩:=h;exact ⟨vs,hv,renAts_sound hK hloc hhd hln hsz hF h⟩
 | arr k n xs=>exact h
theorem renCvs_sound:∀ {xs:List (Cv E)} {vs:List Value},CvsR G K W xs vs→CvsR G' K' W (xs.map (renCv m)) vs
 | [],_,h=>h
 | _::_,_,⟨v,r,hv,ha,hr⟩=>⟨v,r,hv,renCv_sound hK hloc hhd hln hsz hF ha,renCvs_sound hr⟩
theorem renAV_sound {x:AV E} {v:Value} (h:AVR G K W x v):AVR G' K' W (renAV m x) v:=by
 cases x with
 | c x=>exact renCv_sound hK hloc hhd hln hsz hF h
 | rp xs=>obtain ⟨a,vs,hv,h,h2,h3⟩:=h;exact ⟨a,vs,hv,renAts_sound hK hloc hhd hln hsz hF h,by rw [hF];exact h2,h3⟩
 | tup vs=>obtain ⟨ws,hv,h⟩:=h;exact ⟨ws,hv,renCvs_sound hK hloc hhd hln hsz hF h⟩
 | clo f vs=>obtain ⟨ws,hv,h⟩:=h;exact ⟨ws,hv,renCvs_sound hK hloc hhd hln hsz hF h⟩
end
theorem no_gone {S:St E} {id:Nat} (h:S.h id=some .gone):False:=by
 unfold St.h at h
 cases hl:lk S.H id with
 | none=>rw [hl] at h;cases h
 | some b=>rw [hl] at h;cases b<;>cases h
theorem norm_sound {A:Array Value} {nx:Nat} (hI:Inv cx A nx S a W) (live:List Nat):Inv cx A (S.norm live).nx (S.norm live) a W:=by
 obtain ⟨G,hS⟩:=hI.sim
 unfold St.norm
 dsimp only
 generalize hm:reach S.h 1000 (List.flatMap (fun p=>idsAV p.2) (pick S.ρ live)) []=m
 cases hc:(nodupB m&&m.all fun id=>(S.h id).isSome) with
 | false=>
  rw [cond_false]
  exact ⟨⟨G,⟨hS.sz,fun s v h=>(by cases h),fun id b h=>(by cases h),fun i j bi bj k h=>(by cases h),fun id b k h=>(by cases h),fun id b k h=>(by cases h),fun id b k h=>(by cases h),hS.fr,hS.frm,hS.ff⟩⟩,fun k h=>(by cases h),hI.defers,hI.pin⟩
 | true=>
  rw [cond_true]
  simp only [Bool.and_eq_true,List.all_eq_true] at hc
  have hnd:=nodupB_iff hc.1
  let G':Gh:={ loc:=fun j=>G.loc (m.getD j 0),hd:=fun j=>G.hd (m.getD j 0),ln:=fun j=>G.ln (m.getD j 0),sz:=fun j=>G.sz (m.getD j 0),inh:=fun j=>G.inh (m.getD j 0),fp:=fun j=>G.fp (m.getD j 0),F:=G.F }
  have get:∀(j id:Nat),m[j]? = some id→m.getD j 0=id:=fun j id h=>by rw [List.getD_eq_getElem?_getD,h];rfl
  let S':St E:={ ρ:=(pick S.ρ live).map fun p=>(p.1,renAV m p.2),H:=heapOf S.h m m 0,nx:=m.length,n:=S.n,pin:=S.pin }
  have hK:∀(j id:Nat),m[j]? = some id→S'.k j:=by
   intro j id h
   obtain ⟨b,hb⟩:=Option.isSome_iff_exists.1 (hc.2 id (List.mem_of_getElem? h))
   have:=heapOf_get (m:=m) (j:=0) h hb
   rw [Nat.zero_add] at this
   show (lk (heapOf S.h m m 0) j).isSome=true
   rw [this];rfl
  have hh:∀j b',S'.h j=some b'→∃id b,m[j]? = some id∧S.h id=some b∧b'=renBlk m b:=by
   intro j b' h
   have hl:lk (heapOf S.h m m 0) j=some b':=by
    unfold St.h at h
    show lk S'.H j=some b'
    cases hl:lk S'.H j with
    | none=>rw [hl] at h;cases h
    | some c=>rw [hl] at h;cases c<;>first | exact h | cases h
   obtain ⟨q,id,b,h1,h2,h3,h4⟩:=heapOf_spec hl
   obtain rfl:j=q:=by omega
   exact ⟨id,b,h2,h3,h4⟩
  have hloc:∀(j id:Nat),m[j]? = some id→G'.loc j=G.loc id:=fun j id h=>congrArg G.loc (get j id h)
  have hhd:∀(j id:Nat),m[j]? = some id→G'.hd j=G.hd id:=fun j id h=>congrArg G.hd (get j id h)
  have hln:∀(j id:Nat),m[j]? = some id→G'.ln j=G.ln id:=fun j id h=>congrArg G.ln (get j id h)
  have hsz:∀(j id:Nat),m[j]? = some id→G'.sz j=G.sz id:=fun j id h=>congrArg G.sz (get j id h)
  have hfpe:∀(j id:Nat),m[j]? = some id→G'.fp j=G.fp id:=fun j id h=>congrArg G.fp (get j id h)
  have hinh:∀(j id:Nat),m[j]? = some id→G'.inh j=G.inh id:=fun j id h=>congrArg G.inh (get j id h)
  have hocc:∀ {j id:Nat} {b:Blk E} {k:Nat},m[j]? = some id→Occ G' j (renBlk m b) k→Occ G id b k:=by
   intro j id b k h ho
   cases b with
   | gone=>exact ho
   | box t xs=>exact (show k=G'.loc j from ho).trans (hloc j id h)
   | arr t q n xs=>exact (show k=G'.loc j from ho).trans (hloc j id h)
   | row e t xs f=>exact ⟨ho.1.trans (hloc j id h),by have:=ho.2;rw [hhd j id h] at this;exact this⟩
   | hdr=>exact ho
   | rbx xs=>exact ho
   | mp k' t' es=>exact (show k=G'.loc j from ho).trans (hloc j id h)
   | hole e n xs hid i c=>exact ho.elim
   | drow e t xs hid=>
    simp only [renBlk] at ho
    split at ho
    ·rename_i j' hj'
     obtain ⟨q,e1,e2⟩:=posOf_spec hj'
     obtain rfl:j'=q:=by omega
     rcases ho with ho | ho
     ·exact .inl ⟨ho.1.trans (hloc j id h),by have:=ho.2;rw [hhd j id h] at this;exact this⟩
     ·exact .inr (by rw [← hfpe j' hid e2];exact ho)
    ·exact ho.elim
  have hfz:∀ {b:Blk E},(renBlk m b).fz=b.fz:=fun {b}=>by
   cases b with
   | drow e t xs hid=>
    simp only [renBlk]
    split<;>rfl
   | _=>rfl
  refine ⟨⟨G',?_,?_,?_,?_,?_,?_,?_,hS.fr,hS.frm,hS.ff⟩,?_,hI.defers,hI.pin⟩
  ·exact hS.sz
  ·intro s v h
   have h:lk ((pick S.ρ live).map fun p=>(p.1,renAV m p.2)) s=some v:=h
   rw [lk_map] at h
   obtain ⟨w,hw,rfl⟩:=Option.map_eq_some_iff.1 h
   exact renAV_sound hK hloc hhd hln hsz rfl (hS.tmps s w (pick_spec hw))
  ·intro j b' h
   obtain ⟨id,b,h1,h2,rfl⟩:=hh j b' h
   have hb:=hS.blks id b h2
   cases b with
   | gone=>exact hb
   | box t xs=>
    obtain ⟨vs,h3,h4⟩:=hb
    exact ⟨vs,by rw [hloc j id h1];exact h3,renAts_sound hK hloc hhd hln hsz rfl h4⟩
   | arr t q n xs=>
    obtain ⟨h3,h4,h5,h6⟩:=hb
    exact ⟨h3,by rw [hln j id h1];exact h4,by rw [hsz j id h1];exact h5,by rw [hloc j id h1];exact h6⟩
   | row e t xs f=>
    obtain ⟨h3,h4,h5,h6⟩:=hb
    refine ⟨by rw [hln j id h1];exact h3,by rw [hsz j id h1];exact h4,h5,?_⟩
    rw [hhd j id h1,hloc j id h1]
    exact h6
   | hdr=>trivial
   | hole e n xs hid i c=>exact absurd h (fun h=>no_gone h)
   | mp k' t' es=>
    obtain ⟨l,clock,h3,h4,h5⟩:=hb
    exact ⟨l,clock,by rw [hloc j id h1];exact h3,h4,h5⟩
   | rbx xs=>
    obtain ⟨vs,h3,h4,h5⟩:=hb
    exact ⟨vs,renAts_sound hK hloc hhd hln hsz rfl h3,by rw [hloc j id h1];exact h4,by rw [hloc j id h1];exact h5⟩
   | drow e t xs hid=>
    obtain ⟨h0,h3,h4,h5,h6⟩:=hb
    simp only [renBlk] at h ⊢
    split
    ·rename_i j' hj'
     obtain ⟨q,e1,e2⟩:=posOf_spec hj'
     obtain rfl:j'=q:=by omega
     refine ⟨hK _ _ e2,by rw [hln j id h1];exact h3,by rw [hsz j id h1];exact h4,h5,?_⟩
     rw [hhd j id h1,hloc j id h1,hfpe j' hid e2,hinh j' hid e2]
     exact h6
    ·rename_i hj'
     rw [hj'] at h
     exact (no_gone h).elim
  ·intro i j bi bj k hi hj hoi hoj
   obtain ⟨id,b,h1,h2,rfl⟩:=hh i bi hi
   obtain ⟨id',c,h3,h4,rfl⟩:=hh j bj hj
   have:=hS.inj id id' b c k h2 h4 (hocc h1 hoi) (hocc h3 hoj)
   subst this
   have hi':i<m.length:=by
    by_cases h:i<m.length
    ·exact h
    ·rw [List.getElem?_eq_none (by omega)] at h1;cases h1
   exact (List.getElem?_inj hi' hnd).1 (h1.trans h3.symm)
  ·intro j b' k h ho hf
   obtain ⟨id,b,h1,h2,rfl⟩:=hh j b' h
   exact hS.sepF id b k h2 (hocc h1 ho) (hfz▸hf)
  ·intro j b' k h ho hf
   obtain ⟨id,b,h1,h2,rfl⟩:=hh j b' h
   exact hS.sep id b k h2 (hocc h1 ho) (hfz▸hf)
  ·intro j b' k h ho hf
   obtain ⟨id,b,h1,h2,rfl⟩:=hh j b' h
   exact hS.own id b k h2 (hocc h1 ho) (hfz▸hf)
  ·intro k hk
   obtain ⟨b,hb⟩:=Option.isSome_iff_exists.1 hk
   obtain ⟨q,id,c,h1,h2,_⟩:=heapOf_spec hb
   obtain rfl:k=q:=by omega
   show k<m.length
   by_cases h:k<m.length
   ·exact h
   ·rw [List.getElem?_eq_none (by omega)] at h2;cases h2
end Mir
namespace Mir
set_option linter.unusedVariables false
set_option linter.unusedSimpArgs false
open Go
variable {E:Env} {P:Program} {T:Tb} {Γ:Ctx E} {cx:Cx} {G G':Gh} {S:St E} {tm:Array Value} {a:Act} {W W':World}
variable {R:Type}
def Ex.to:Ex→Exit
 | .norm=>.normal
 | .exit id=>.exit id
 | .ret=>.ret
def KOK (cx:Cx) (A:Array Value) (K:KT E R) (x:R) (Q:Exit→Act→World→Prop):Prop:=∀ex S a W,K ex S=some x→Inv cx A S.nx S a W→Q ex.to a W
def OrcOK (P:Program) (cx:Cx) (A:Array Value) (o:Orc E R):Prop:=∀c K S x a W Q,o c K S=some x→Inv cx A S.nx S a W→KOK cx A K x Q→c.wp P Q a W
theorem refine_sound {A:Array Value} {n:Nat} (hI:Inv cx A n S a W) {c:Operand} {b:Bool} (h:evO (lk S.ρ) c=some (.bool b)):Inv cx A n (S.refine c b) a W:=by
 cases c with
 | tmp t=>exact hI.refine h rfl
 | _=>exact hI
theorem amb_some {p q:Bool} {u v:Option R} {x:R} (h:amb p q u v=some x):(p=true→u=some x)∧(q=true→v=some x)∧(p=true∨q=true):=by
 unfold amb at h
 cases p<;>cases q<;>simp only [cond_true,cond_false] at h
 ·cases h
 ·exact ⟨fun h=>(by cases h),fun _=>h,.inr rfl⟩
 ·exact ⟨fun _=>h,fun h=>(by cases h),.inl rfl⟩
 ·split at h
  ·rename_i he;exact ⟨fun _=>h,fun _=>by rw [← he];exact h,.inl rfl⟩
  ·cases h
theorem refine_unk {A:Array Value} {n:Nat} (hI:Inv cx A n S a W) {c:Operand} {b:Bool} (hb:a.eval c = .bool b):Inv cx A n (S.refine c b) a W:=by
 cases c with
 | tmp t=>
  obtain ⟨G,hS⟩:=hI.sim
  refine ⟨⟨G,⟨hS.sz,fun s v h=>?_,hS.blks,hS.inj,hS.sepF,hS.sep,hS.own,hS.fr,hS.frm,hS.ff⟩⟩,hI.nx,hI.defers,hI.pin⟩
  have h:lk ((t,AV.bool b)::S.ρ) s=some v:=h
  rw [lk_cons] at h
  split at h
  ·cases h;subst_vars;exact hb
  ·exact hS.tmps s v h
 | _=>exact hI
theorem runA_sound (hT:T.OK P) (hΓ:GamOK P Γ) (hmix:P.follows .mixedOrders=true) {loops cuts:Live} {A:Array Value} {o:Orc E R} (ho:OrcOK P cx A o):∀(c:Code) (S:St E) (K:KT E R) (x:R) (a:Act) (W:World) (Q:Exit→Act→World→Prop),runA T Γ loops cuts o c S K=some x→Inv cx A S.nx S a W→KOK cx A K x Q→c.wp P Q a W:=by
 intro c
 induction c with
 | skip=>intro S K x a W Q h hI hK;exact wp_skip (hK .norm S a W h hI)
 | region id ops draw=>intro S K x a W Q h hI hK;exact runRegion_sound hT hΓ hmix h hI fun S' a' W' h' hI'=>hK .norm S' a' W' h' hI'
 | seq c1 c2 ih1 ih2=>
  intro S K x a W Q h hI hK
  refine wp_seq (ih1 S _ x a W _ h hI ?_)
  intro ex S' a' W' h' hI'
  cases ex with
  | norm=>
   simp only [kseq] at h'
   show c2.wp P Q a' W'
   split at h'
   ·exact ho c2 K _ x a' W' Q h' (norm_sound hI' _) hK
   ·exact ih2 S' K x a' W' Q h' hI' hK
  | exit id=>exact hK (.exit id) S' a' W' h' hI'
  | ret=>exact hK .ret S' a' W' h' hI'
 | cond c c1 c2 ih1 ih2=>
  intro S K x a W Q h hI hK
  unfold runA at h
  split at h
  ·rename_i b hb
   obtain ⟨G,hS⟩:=hI.sim
   have hv:a.eval c = .bool b:=ev_sound hS hb
   cases b with
   | true=>exact wp_cond_true hv (ih1 _ K x a W Q h (show Inv cx A (S.refine c true).nx _ a W from by
     have:=refine_sound hI hb
     cases c<;>exact this) hK)
   | false=>exact wp_cond_false hv (ih2 _ K x a W Q h (show Inv cx A (S.refine c false).nx _ a W from by
     have:=refine_sound hI hb
     cases c<;>exact this) hK)
  ·rename_i p q hb
   obtain ⟨G,hS⟩:=hI.sim
   obtain ⟨b,hv,hp,hq⟩:=ev_sound hS hb
   obtain ⟨h1,h2,_⟩:=amb_some h
   cases b with
   | true=>exact wp_cond_true hv (ih1 _ K x a W Q (h1 (hp rfl)) (show Inv cx A (S.refine c true).nx _ a W from by
     have:=refine_unk hI hv
     cases c<;>exact this) hK)
   | false=>exact wp_cond_false hv (ih2 _ K x a W Q (h2 (hq rfl)) (show Inv cx A (S.refine c false).nx _ a W from by
     have:=refine_unk hI hv
     cases c<;>exact this) hK)
  ·cases h
 | block id c ih=>
  intro S K x a W Q h hI hK
  refine wp_block (ih S _ x a W _ h hI ?_)
  intro ex S' a' W' h' hI'
  cases ex with
  | norm=>exact hK .norm S' a' W' h' hI'
  | exit j=>
   simp only [kblock] at h'
   show Exit.inBlock id Q (.exit j) a' W'
   simp only [Exit.inBlock]
   cases hb:Nat.beq j id with
   | true=>rw [hb,cond_true] at h';rw [if_pos (Nat.eq_of_beq_eq_true hb)];exact hK .norm S' a' W' h' hI'
   | false=>
    rw [hb,cond_false] at h'
    rw [if_neg (fun e=>by subst e;rw [Nat.beq_refl j] at hb;cases hb)]
    exact hK (.exit j) S' a' W' h' hI'
  | ret=>exact hK .ret S' a' W' h' hI'
 | loop c ih=>
  intro S K x a W Q h hI hK
  unfold runA at h
  split at h
  ·exact ho _ K _ x a W Q h (norm_sound hI _) hK
  ·cases h
 | exit id=>intro S K x a W Q h hI hK;exact wp_exit (hK (.exit id) S a W h hI)
 | ret=>intro S K x a W Q h hI hK;exact wp_ret (hK .ret S a W h hI)
 | _=>intro S K x a W Q h hI hK;cases h
theorem iter_sound {A:Array Value} {b:Code} {K:KT E R} {x:R} {Q:Exit→Act→World→Prop} (hK:KOK cx A K x Q) {step:(St E→Option R)→St E→Option R}
  (hstep:∀(rec:St E→Option R) (N:Act→World→Prop),(∀S a W,rec S=some x→Inv cx A S.nx S a W→N a W)→∀S a W,step rec S=some x→Inv cx A S.nx S a W→b.wp P (Exit.then N Q) a W) :
  ∀(n:Nat) (S:St E) (a:Act) (W:World),iter step n S=some x→Inv cx A S.nx S a W→Code.rounds P b Q n a W
 | 0,_,_,_,h,_=>by cases h
 | n+1,S,a,W,h,hI=>hstep (iter step n) (Code.rounds P b Q n) (fun S a W h hI=>iter_sound hK hstep n S a W h hI) S a W h hI
theorem orc_sound (hT:T.OK P) (hΓ:GamOK P Γ) (hmix:P.follows .mixedOrders=true) {loops cuts:Live} {A:Array Value} (k:Nat):∀d,OrcOK P cx A (orc (R:=R) T Γ loops cuts k d):=by
 intro d
 induction d with
 | zero=>intro c K S x a W Q h;cases h
 | succ d ih=>
  intro c K S x a W Q h hI hK
  have plain:runA T Γ loops cuts (orc T Γ loops cuts k d) c S K=some x→c.wp P Q a W:=fun h=>runA_sound hT hΓ hmix ih c S K x a W Q h hI hK
  cases c with
  | loop b=>
   unfold orc at h
   split at h
   ·rename_i live _
    refine wp_loop_rounds k (iter_sound hK ?_ k S a W h hI)
    intro rec N hN S a W h hI
    refine runA_sound hT hΓ hmix ih b S _ x a W _ h hI ?_
    intro ex S' a' W' h' hI'
    cases ex with
    | norm=>exact hN _ a' W' h' (norm_sound hI' _)
    | exit id=>exact hK (.exit id) S' a' W' h' hI'
    | ret=>exact hK .ret S' a' W' h' hI'
   ·cases h
  | _=>exact plain h
theorem Sim.adoptRbx (hS:Sim cx G S tm W) {id:Nat} (hf:lk S.H id=none) {g:Nat} {cells:List (At E)} {vs:List Value} (hc:AtsR G S.k W cells vs) (hF:0<vs.length→G.F g) (hh:∀(j:Nat) (hj:j<vs.length),W.cell? ⟨g,j,none⟩=some vs[j]) :
  ∃G',Sim cx G' { S with H:=(id,.rbx cells)::S.H } tm W∧Ext G S.k W G' (St.k { S with H:=(id,(.rbx cells:Blk E))::S.H }) W∧G'.F=G.F∧AtR (E:=E) G' (St.k { S with H:=(id,.rbx cells)::S.H }) W (.ptr id 0) (.pointer (some ⟨g,0,none⟩))∧∀k,Free cx G S k→Free cx G' { S with H:=(id,.rbx cells)::S.H } k:=by
 have hn:S.h id=none:=by unfold St.h;rw [hf]
 have hE:Ext G S.k W (G.add id g undef 0 0) (St.k { S with H:=(id,(.rbx cells:Blk E))::S.H }) W:=Gh.add_ext (not_k hf) (fun i hi=>k_cons hi) fun _ _=>rfl
 have hl:(G.add id g undef 0 0).loc id=g:=updf_same _ _ _
 exact ⟨_,hS.adopt hn hE rfl ⟨vs,AtsR.ext hE hc,by rw [hl];exact hF,by rw [hl];exact hh⟩ rfl (fun k hk=>hk.elim),hE,rfl,⟨k_cons_self,by rw [hl]⟩,fun k hk=>hk.cons hS hE rfl fun h=>h.elim⟩
theorem entryCap_le (c:Cap) (x:c.I E) (id:Nat):id<(entryCap E c x id).2:=by cases c<;>simp [entryCap]
theorem entryCap_key (c:Cap) (x:c.I E) (id k:Nat) (h:k<id∨(entryCap E c x id).2≤k):lk (entryCap E c x id).1 k=none:=by
 cases c with
 | rb t=>simp only [entryCap,lk_cons] at h ⊢;rw [if_neg (by omega)];rfl
 | rpp t=>simp only [entryCap,lk_cons] at h ⊢;rw [if_neg (by omega),if_neg (by omega)];rfl
theorem RoP.adopt (hS:Sim cx G S tm W) {t:Ty} {x:Ty.D E.S t} {v:Value} {id:Nat} (h:RoP E W G.F t x v) (hf:lk S.H id=none) :
  ∃G',Sim cx G' { S with H:=(id,.rbx (toCv E t x).cells)::S.H } tm W∧Ext G S.k W G' (St.k { S with H:=(id,(.rbx (toCv E t x).cells:Blk E))::S.H }) W∧G'.F=G.F∧AtR (E:=E) G' (St.k { S with H:=(id,.rbx (toCv E t x).cells)::S.H }) W (.ptr id 0) v∧∀k,Free cx G S k→Free cx G' { S with H:=(id,.rbx (toCv E t x).cells)::S.H } k:=by
 obtain ⟨g,vs,d,rfl,h1,h2,h3⟩:=h
 exact hS.adoptRbx hf (toCv_cells (fun _ h=>h) h1) h2 h3
theorem entryCap_sound (hS:Sim cx G S tm W) {c:Cap} {x:c.I E} {v:Value} {id:Nat} (h:CapP E W G.F c x v) (hnew:∀k,id≤k→k<(entryCap E c x id).2→lk S.H k=none) :
  ∃G',Sim cx G' { S with H:=(entryCap E c x id).1++S.H } tm W∧Ext G S.k W G' (St.k { S with H:=(entryCap E c x id).1++S.H }) W∧G'.F=G.F∧AtR (E:=E) G' (St.k { S with H:=(entryCap E c x id).1++S.H }) W (.ptr id 0) v∧∀k,Free cx G S k→Free cx G' { S with H:=(entryCap E c x id).1++S.H } k:=by
 cases c with
 | rb t=>exact RoP.adopt hS h (hnew id (Nat.le_refl _) (entryCap_le _ _ _))
 | rpp t=>
  obtain ⟨g,w,rfl,hg,hw,hr⟩:=h
  obtain ⟨G1,i1,i2,i3,i4,i5⟩:=RoP.adopt hS hr (hnew (id+1) (Nat.le_succ _) (by simp [entryCap]))
  obtain ⟨G2,j1,j2,j3,j4,j5⟩:=i1.adoptRbx (id:=id) (g:=g) (cells:=[.ptr (id+1) 0]) (vs:=[w]) (by
    show lk ((id+1,_)::S.H) id=none
    rw [lk_cons,if_neg (by omega)];exact hnew id (Nat.le_refl _) (entryCap_le _ _ _)) ⟨w,[],rfl,i4,rfl⟩ (fun _=>by rw [i3];exact hg) (fun j hj=>by
    have:j=0:=by simp at hj;omega
    subst this;exact hw)
  exact ⟨G2,j1,i2.trans j2,j3.trans i3,j4,fun k hk=>j5 k (i5 k hk)⟩
theorem entryCaps_le:∀(cs:List Cap) (x:CT E cs) (id:Nat),id≤(entryCaps E cs x id).2.2
 | [],_,_=>Nat.le_refl _
 | c::cs,x,id=>Nat.le_trans (Nat.le_of_lt (entryCap_le c x.1 id)) (entryCaps_le cs x.2 _)
theorem entryCaps_key:∀(cs:List Cap) (x:CT E cs) (id k:Nat),(k<id∨(entryCaps E cs x id).2.2≤k)→lk (entryCaps E cs x id).2.1 k=none
 | [],_,_,_,_=>rfl
 | c::cs,x,id,k,h=>by
  have h1:=entryCap_le c x.1 id
  have h2:=entryCaps_le cs x.2 (entryCap E c x.1 id).2
  simp only [entryCaps] at h ⊢
  rw [lk_append,entryCap_key c x.1 id k (by omega)]
  exact entryCaps_key cs x.2 _ k (by omega)
theorem entryCaps_sound:∀ {cs:List Cap} {x:CT E cs} {vs:List Value} {id:Nat} {S:St E} (hS:Sim cx G S tm W),CapPs E W G.F cs x vs→(∀k,id≤k→k<(entryCaps E cs x id).2.2→lk S.H k=none)→
  ∃G',Sim cx G' { S with H:=(entryCaps E cs x id).2.1++S.H } tm W∧Ext G S.k W G' (St.k { S with H:=(entryCaps E cs x id).2.1++S.H }) W∧G'.F=G.F∧CvsR G' (St.k { S with H:=(entryCaps E cs x id).2.1++S.H }) W (entryCaps E cs x id).1 vs∧∀k,Free cx G S k→Free cx G' { S with H:=(entryCaps E cs x id).2.1++S.H } k
 | [],_,vs,_,S,hS,h,_=>⟨G,hS,Ext.refl _ _ _,rfl,h,fun _ h=>h⟩
 | c::cs,x,vs,id,S,hS,⟨v,r,hv,hc,hr⟩,hnew=>by
  have le1:=entryCap_le c x.1 id
  have le2:=entryCaps_le cs x.2 (entryCap E c x.1 id).2
  simp only [entryCaps] at hnew ⊢
  obtain ⟨G1,i1,i2,i3,i4,i5⟩:=entryCaps_sound (id:=(entryCap E c x.1 id).2) hS hr (fun k h1 h2=>hnew k (by omega) h2)
  obtain ⟨G2,j1,j2,j3,j4,j5⟩:=entryCap_sound (id:=id) i1 (c:=c) (x:=x.1) (v:=v) (by rw [i3];exact hc) (fun k h1 h2=>by
   show lk (_++S.H) k=none
   rw [lk_append,entryCaps_key cs x.2 _ k (by omega)];exact hnew k h1 (by omega))
  rw [app3]
  exact ⟨G2,j1,i2.trans j2,j3.trans i3,⟨v,r,hv,j4,CvsR.ext j2 i4⟩,fun k hk=>j5 k (i5 k hk)⟩
theorem entryP_le (p:Par) (x:p.I E) (id:Nat):id≤(entryP E p x id).2.2:=by
 cases p with
 | val t=>exact Nat.le_refl _
 | «mut» dp t=>exact newCv_le dp t x id
 | mov dp t=>exact newCv_le dp t x id
 | box dp b n=>exact Nat.le_trans (Nat.le_succ _) (newAts_le dp _ _ (id+1))
 | movb dp b n=>exact Nat.le_trans (Nat.le_succ _) (newAts_le dp _ _ (id+1))
 | clo f caps=>exact entryCaps_le caps x id
 | cap c=>exact Nat.le_of_lt (entryCap_le c x id)
theorem entryP_key (p:Par) (x:p.I E) (id k:Nat) (h:k<id∨(entryP E p x id).2.2≤k):lk (entryP E p x id).2.1 k=none:=by
 cases p with
 | val t=>rfl
 | «mut» dp t=>exact newCv_key dp t x id k h
 | mov dp t=>exact newCv_key dp t x id k h
 | box dp b n=>exact boxEnt_key dp b n x id k h
 | movb dp b n=>exact boxEnt_key dp b n x id k h
 | clo f caps=>exact entryCaps_key caps x id k h
 | cap c=>exact entryCap_key c x id k h
theorem entryP_sound (hS:Sim cx G S tm W) {p:Par} {x:p.I E} {v:Value} {fp:List Nat} {id:Nat} (h:InP E W G.F p x v fp) (hnd:fp.Nodup) (hfree:∀b∈fp,Free cx G S b) (hnew:∀k,id≤k→k<(entryP E p x id).2.2→lk S.H k=none) :
  ∃G',Sim cx G' { S with H:=(entryP E p x id).2.1++S.H } tm W∧Ext G S.k W G' (St.k { S with H:=(entryP E p x id).2.1++S.H }) W∧G'.F=G.F∧AVR G' (St.k { S with H:=(entryP E p x id).2.1++S.H }) W (entryP E p x id).1 v∧∀k,k∉fp→Free cx G S k→Free cx G' { S with H:=(entryP E p x id).2.1++S.H } k:=by
 cases p with
 | val t=>exact ⟨G,hS,Ext.refl _ _ _,rfl,roCv_sound (fun _ h=>h) h.1,fun _ _ h=>h⟩
 | «mut» dp t=>exact newCv_sound hS h hnd hfree hnew
 | mov dp t=>exact newCv_sound hS h hnd hfree hnew
 | box dp b n=>exact boxEnt_sound hS h hnd hfree hnew
 | movb dp b n=>exact boxEnt_sound hS h hnd hfree hnew
 | clo f caps=>
  obtain ⟨⟨ws,rfl,hc⟩,rfl⟩:=h
  obtain ⟨G1,i1,i2,i3,i4,i5⟩:=entryCaps_sound hS hc hnew
  exact ⟨G1,i1,i2,i3,⟨ws,rfl,i4⟩,fun k _ hk=>i5 k hk⟩
 | cap c=>
  obtain ⟨hc,rfl⟩:=h
  obtain ⟨G1,i1,i2,i3,i4,i5⟩:=entryCap_sound hS hc hnew
  exact ⟨G1,i1,i2,i3,i4,fun k _ hk=>i5 k hk⟩
theorem entry_le:∀(ps:List Par) (x:IT E ps) (s id:Nat),id≤(entry E ps x s id).2.2
 | [],_,_,_=>Nat.le_refl _
 | p::ps,x,s,id=>Nat.le_trans (entryP_le p x.1 id) (entry_le ps x.2 (s+1) _)
theorem entry_key:∀(ps:List Par) (x:IT E ps) (s id k:Nat),(k<id∨(entry E ps x s id).2.2≤k)→lk (entry E ps x s id).2.1 k=none
 | [],_,_,_,_,_=>rfl
 | p::ps,x,s,id,k,h=>by
  have h1:=entryP_le p x.1 id
  have h2:=entry_le ps x.2 (s+1) (entryP E p x.1 id).2.2
  simp only [entry] at h ⊢
  rw [lk_append,entryP_key p x.1 id k (by omega)]
  exact entry_key ps x.2 (s+1) _ k (by omega)
theorem entry_sound:∀ {ps:List Par} {x:IT E ps} {ws:List Value} {fp:List Nat} {s id:Nat} {S:St E},(hS:Sim cx G S tm W)→InPs E W G.F ps x ws fp→fp.Nodup→(∀b∈fp,Free cx G S b)→(∀k,id≤k→k<(entry E ps x s id).2.2→lk S.H k=none)→
  ∃G',Sim cx G' { S with H:=(entry E ps x s id).2.1++S.H } tm W∧Ext G S.k W G' (St.k { S with H:=(entry E ps x s id).2.1++S.H }) W∧G'.F=G.F∧(∀k,k∉fp→Free cx G S k→Free cx G' { S with H:=(entry E ps x s id).2.1++S.H } k)∧
   ∀t v,lk (entry E ps x s id).1 t=some v→s≤t∧∃w,ws[t - s]? = some w∧AVR G' (St.k { S with H:=(entry E ps x s id).2.1++S.H }) W v w
 | [],_,_,_,_,_,S,hS,_,_,_,_=>⟨G,hS,Ext.refl _ _ _,rfl,fun _ _ h=>h,fun _ _ h=>by cases h⟩
 | p::ps,x,ws,fp,s,id,S,hS,⟨w,r,f1,f2,hw,hf,h1,hr⟩,hnd,hfree,hnew=>by
  subst hw hf
  obtain ⟨hn1,hn2,hdis⟩:=List.nodup_append.1 hnd
  have le1:=entryP_le p x.1 id
  have le2:=entry_le ps x.2 (s+1) (entryP E p x.1 id).2.2
  simp only [entry] at hnew ⊢
  obtain ⟨G1,i1,i2,i3,i4,i5⟩:=entry_sound (s:=s+1) (id:=(entryP E p x.1 id).2.2) hS hr hn2 (fun b hb=>hfree b (by simp [hb])) (fun k h1 h2=>hnew k (by omega) h2)
  obtain ⟨G2,j1,j2,j3,j4,j5⟩:=entryP_sound (id:=id) i1 (p:=p) (x:=x.1) (v:=w) (by rw [i3];exact h1) hn1 (fun b hb=>i4 b (fun h2=>hdis b hb b h2 rfl) (hfree b (by simp [hb]))) (fun k h1 h2=>by
   show lk (_++S.H) k=none
   rw [lk_append,entry_key ps x.2 (s+1) _ k (by omega)];exact hnew k h1 (by omega))
  rw [app3]
  refine ⟨G2,j1,i2.trans j2,j3.trans i3,fun k hk hf=>j5 k (fun h=>hk (by simp [h])) (i4 k (fun h=>hk (by simp [h])) hf),fun t' v h=>?_⟩
  simp only [lk_cons] at h
  split at h
  ·rename_i e;subst e;cases h
   exact ⟨Nat.le_refl _,w,by simp,j4⟩
  ·obtain ⟨h1,w',h2,h3⟩:=i5 t' v h
   exact ⟨by omega,w',by rw [show t' - s=t' - (s+1)+1 by omega];simpa using h2,h3.ext j2⟩
end Mir
namespace Mir
set_option linter.unusedVariables false
set_option linter.unusedSimpArgs false
open Go
variable {E:Env} {P:Program} {T:Tb} {Γ:Ctx E} {cx:Cx} {G G':Gh} {S:St E} {tm:Array Value} {a:Act} {W W':World}
def resF (tm:Array Value):ResultVar→Sem Value
 | .tmp t=>pure (tm.getD t undef)
 | .cell p t=>do loadVar t (← asAddr (tm.getD p undef))
theorem resOf_sound (hT:T.OK P) (hS:Sim cx G S a.tmps W) {rv:ResultVar} {l l':List Nat} {v:Cv E} (h:RM.Out S.h (resOf T (lk S.ρ) rv) l v l') :
  ∃w,(resF a.tmps rv).run P W = .ok w W∧CvR G S.k W v w:=by
 cases rv with
 | tmp t=>
  simp only [resOf] at h
  split at h
  ·rename_i v' hv
   obtain rfl:=h.1
   exact ⟨_,rfl,hS.tmps t _ hv⟩
  ·exact h.elim
 | cell p t=>
  obtain ⟨r,l1,h1,h⟩:=RM.Out_bind (show RM.Out S.h ((aLoad T t (lk S.ρ p)).bind fun r=>match r.1 with | .c v=>.pure v | _=>.fail) l v l' from h)
  obtain ⟨ad,h2,w,h3,h4,_⟩:=load_soundP (x:=.tmp p) hT hS h1
  split at h
  ·rename_i v' hv
   obtain rfl:=h.1
   rw [hv] at h4
   refine ⟨w,?_,h4⟩
   have h2:a.tmps.getD p undef = .pointer (some ad):=h2
   simp only [resF,h2,asAddr]
   simpa using h3
  ·exact h.elim
theorem resAll_sound (hT:T.OK P) (hS:Sim cx G S a.tmps W):∀ {rs:List ResultVar} {l l':List Nat} {vs:List (Cv E)},RM.Out S.h (resAll T (lk S.ρ) rs) l vs l'→
  ∃ws:List Value,(rs.mapM (resF a.tmps)).run P W = .ok ws W∧CvsR G S.k W vs ws
 | [],_,_,vs,h=>by obtain rfl:=h.1;exact ⟨[],rfl,rfl⟩
 | rv::rs,_,_,vs,h=>by
  obtain ⟨v,l1,h1,h⟩:=RM.Out_bind h
  obtain ⟨vs',l2,h2,h⟩:=RM.Out_bind h
  obtain rfl:=h.1
  obtain ⟨w,i1,i2⟩:=resOf_sound hT hS h1
  obtain ⟨ws,j1,j2⟩:=resAll_sound hT hS h2
  refine ⟨w::ws,?_,⟨w,ws,rfl,i2,j2⟩⟩
  rw [List.mapM_cons,Sem.run_bind,i1]
  simp [j1]
theorem results_sound (hT:T.OK P) (hS:Sim cx G S a.tmps W) {fn:Func} {l l':List Nat} {vs:List (Cv E)} (h:RM.Out S.h (resAll T (lk S.ρ) fn.results.toList) l vs l') :
  ∃ws:List Value,(results fn a.tmps).run P W = .ok (tupV ws) W∧CvsR G S.k W vs ws:=by
 obtain ⟨ws,h1,h2⟩:=resAll_sound hT hS h
 refine ⟨ws,?_,h2⟩
 unfold results
 change ((do let vs ← fn.results.mapM (resF a.tmps);pure (if h:vs.size=1 then vs[0] else .tuple vs):Sem Value)).run P W=_
 rw [Array.mapM_eq_mapM_toList]
 simp only [bind_map_left,Sem.run_bind,h1]
 match ws with
 | []=>rfl
 | [x]=>rfl
 | x::y::r=>simp [tupV]
theorem pins_mem:∀ {ps:List Par} {s t:Nat},t∈pins ps s→s≤t∧t<s+ps.length
 | [],_,_,h=>by cases h
 | p::ps,s,t,h=>by
  simp only [pins] at h
  cases hb:p.back with
  | true=>
   rw [hb,cond_true] at h
   rcases List.mem_cons.1 h with rfl | h
   ·simp
   ·have:=pins_mem (ps:=ps) h;simp only [List.length_cons];omega
  | false=>
   rw [hb,cond_false] at h
   have:=pins_mem (ps:=ps) h;simp only [List.length_cons];omega
theorem endP_sound (hS:Sim cx G S tm W) {F:Nat→Prop} (hF:∀b,G.F b→F b) {p:Par} {s:Nat} {w:Value} {l l':List Nat} {q:p.O E×List Nat} (hp:p.back=true→tm.getD s undef=w) (h:RM.Out S.h (endP E p (lk S.ρ s)) l q l') :
  ∃fp,OutP E W F p q.1 w fp∧Hand G S q.2 fp:=by
 cases p with
 | val t=>obtain rfl:=h.1;exact ⟨[],rfl,Hand.nil⟩
 | clo f caps=>obtain rfl:=h.1;exact ⟨[],rfl,Hand.nil⟩
 | cap c=>obtain rfl:=h.1;exact ⟨[],rfl,Hand.nil⟩
 | mov dp t=>obtain rfl:=h.1;exact ⟨[],rfl,Hand.nil⟩
 | movb dp b n=>obtain rfl:=h.1;exact ⟨[],rfl,Hand.nil⟩
 | «mut» dp t=>
  have hw:=hp rfl
  cases hv:lk S.ρ s with
  | none=>rw [hv] at h;exact h.elim
  | some v=>
   rw [hv] at h
   cases v with
   | c v=>
    obtain ⟨d,l1,h1,h⟩:=RM.Out_bind h
    obtain ⟨m,l2,h2,h⟩:=RM.Out_bind h
    obtain rfl:=h.1
    have hvr:=hS.tmps s _ hv
    rw [hw] at hvr
    exact ownCv_sound hS hF hvr h1 h2
   | _=>exact h.elim
 | box dp b n=>
  have hw:=hp rfl
  have hid:∃id,lk S.ρ s=some (.c (.at (.ptr id 0))):=by
   cases hv:lk S.ρ s with
   | none=>rw [hv] at h;exact h.elim
   | some v=>
    rw [hv] at h
    cases v with
    | c v=>
     cases v with
     | «at» x=>
      cases x with
      | ptr id o=>
       cases o with
       | zero=>exact ⟨id,rfl⟩
       | succ o=>exact h.elim
      | _=>exact h.elim
     | _=>exact h.elim
    | _=>exact h.elim
  obtain ⟨id,hv⟩:=hid
  rw [hv] at h
  obtain ⟨c,hb,h⟩:=h
  dsimp only at h
  split at h
  ·rename_i t cells
   have hb':=RM.Out_bif h;clear h;obtain ⟨ht,h⟩:=hb'
   obtain rfl:=Nat.eq_of_beq_eq_true ht
   obtain ⟨d,l1,h1,h⟩:=RM.Out_bind h
   obtain ⟨m,l2,h2,h⟩:=RM.Out_bind h
   obtain rfl:=h.1
   have hvr:=hS.tmps s _ hv
   rw [hw] at hvr
   obtain ⟨us,hus,hr'⟩:=hS.blks id _ hb
   obtain ⟨f1,j1,j2⟩:=ownAll_sound hS hF hr' h1 h2
   have hself:Hand G S [id] [G.loc id]:=Hand.one hb rfl (by simp) fun k hk=>by rw [List.mem_singleton] at hk;exact hk
   exact ⟨G.loc id::f1,⟨G.loc id,us,f1,hvr.2,hus,by rw [E.opn_shut];exact j1,rfl⟩,hself.app hS j2⟩
  ·exact h.elim
theorem ends_sound (hS:Sim cx G S tm W) {F:Nat→Prop} (hF:∀b,G.F b→F b):∀ {ps:List Par} {s:Nat} {ws:List Value} {l l':List Nat} {q:OT E ps×List Nat},ws.length=ps.length→(∀t∈pins ps s,tm.getD t undef=ws.getD (t - s) undef)→RM.Out S.h (ends E (lk S.ρ) ps s) l q l'→
  ∃fp,OutPs E W F ps q.1 ws fp∧Hand G S q.2 fp
 | [],s,ws,_,_,q,hl,_,h=>by
  obtain rfl:=h.1
  exact ⟨[],⟨List.eq_nil_of_length_eq_zero hl,rfl⟩,Hand.nil⟩
 | p::ps,s,[],_,_,_,hl,_,_=>by simp at hl
 | p::ps,s,w::ws,_,_,q,hl,hp,h=>by
  obtain ⟨a,l1,h1,h⟩:=RM.Out_bind h
  obtain ⟨q',l2,h2,h⟩:=RM.Out_bind h
  obtain rfl:=h.1
  obtain ⟨f1,i1,i2⟩:=endP_sound hS hF (w:=w) (fun hb=>by rw [hp s (by simp [pins,hb])];simp) h1
  obtain ⟨f2,j1,j2⟩:=ends_sound hS hF (s:=s+1) (ws:=ws) (by simpa using hl) (fun t ht=>by
   have:=(pins_mem ht).1
   rw [hp t (by simp only [pins];cases p.back<;>simp [ht]),show t - s=t - (s+1)+1 by omega];simp) h2
  exact ⟨f1++f2,⟨w,ws,f1,f2,rfl,rfl,i1,j1⟩,i2.app hS j2⟩
theorem InPs.length {F:Nat→Prop}:∀ {ps:List Par} {x:IT E ps} {ws:List Value} {fp:List Nat},InPs E W F ps x ws fp→ws.length=ps.length
 | [],_,_,_,h=>by rw [h.1];rfl
 | _::_,_,_,_,⟨v,r,f1,f2,hv,_,_,hr⟩=>by rw [hv,List.length_cons,List.length_cons,hr.length]
theorem idsCv_of {v:Cv E} {x:At E} (hx:x∈v.cells) {id:Nat} (hi:id∈idsAt x):id∈idsCv v:=by
 cases v with
 | «at» y=>
  simp only [Cv.cells,List.mem_singleton] at hx
  subst hx
  exact hi
 | agg xs=>exact List.mem_flatMap.2 ⟨_,hx,hi⟩
 | arr k n xs=>
  simp only [Cv.cells,List.mem_map] at hx
  obtain ⟨y,_,rfl⟩:=hx
  cases hi
theorem fin_sound (hT:T.OK P) {F:Nat→Prop} {W0:World} {fp:List Nat} {args:List Value} {fn:Func} {s:Spec E} {r:s.R} (hlen:args.length=s.ps.length) {nx:Nat} (hI:Inv ⟨(·∈fp),W0,F⟩ args.toArray nx S a W) (hpin:S.pin=pins s.ps 0) {l:List Nat} (h:RM.Out S.h (finR T fn s S) [] r l) :
  ∃v,(results fn a.tmps).run P W = .ok v W∧Left E s r W0 F args fp v W:=by
 obtain ⟨G,hS⟩:=hI.sim
 obtain ⟨vs,l1,h1,h⟩:=RM.Out_bind h
 obtain ⟨d,l2,h2,h⟩:=RM.Out_bind h
 obtain ⟨q,l3,h3,h⟩:=RM.Out_bind h
 obtain ⟨ws,hres,hvs⟩:=results_sound hT hS h1
 have hpins:∀t∈pins s.ps 0,a.tmps.getD t undef=args.getD (t - 0) undef:=by
  intro t ht
  rw [hI.pin t (by rw [hpin];exact ht)]
  simp [List.getD_eq_getElem?_getD]
 have base:∀(F':Nat→Prop) (fpR fpO:List Nat),(∀b,G.F b→F' b)→(∀b,F' b→(F b∨W0.heap.size≤b∨b∈fp)∧b<W.heap.size)→(if s.own then OwnEs E W F' s.dp s.rs (s.res r) ws fpR else (RoVs E W F' s.rs (s.res r) ws∧fpR=[]))→OutPs E W F' s.ps (s.out r) args fpO→(fpR++fpO).Nodup→(∀b∈fpR++fpO,¬ F' b∧(b∈fp∨W0.heap.size≤b))→
   Left E s r W0 F args fp (tupV ws) W:=fun F' fpR fpO k1 k2 k3 k4 k5 k6=>
  ⟨⟨F',ws,fpR,fpO,rfl,fun b hb=>k1 b (hS.ff.1 b hb),k2,k3,k4,k5,k6⟩,hS.frm.os,hS.frm.tape,hS.frm.output,hS.frm.size,hS.frm.block⟩
 refine ⟨tupV ws,hres,?_⟩
 have hff:∀b,G.F b→(F b∨W0.heap.size≤b∨b∈fp)∧b<W.heap.size:=fun b hb=>⟨hS.ff.2 b hb,hS.fr b hb⟩
 have hblk:∀ {ms fps:List Nat},Hand G S ms fps→∀b∈fps,∃i∈ms,∃c,S.h i=some c∧Occ G i c b∧c.fz=false:=by
  intro ms fps hb b hbm
  obtain ⟨i,hi,c,hc,ho⟩:=hb.blks b hbm
  obtain ⟨c',hc',hz⟩:=hb.wr i hi
  rw [hc] at hc';cases hc'
  exact ⟨i,hi,c,hc,ho,hz⟩
 cases hown:s.own with
 | true=>
  rw [hown] at h
  obtain ⟨ms,l4,h4,h⟩:=RM.Out_bind h
  have hb':=RM.Out_bif h;clear h;obtain ⟨hnd,h⟩:=hb'
  obtain rfl:=h.1
  have hnd:=nodupB_iff hnd
  obtain ⟨fpR,i1,i2⟩:=ownCvs_sound hS (F:=G.F) (fun _ h=>h) hvs h2 h4
  obtain ⟨fpO,j1,j2⟩:=ends_sound hS (F:=G.F) (fun _ h=>h) hlen hpins h3
  have i3:=i2.app hS j2
  refine base G.F fpR fpO (fun _ h=>h) hff (by rw [if_pos hown,s.res_shut];exact i1) (by rw [s.out_shut];exact j1) (i3.nodup hnd) fun b hb=>?_
  obtain ⟨i,hi,c,hc,ho,hz⟩:=hblk i3 b hb
  exact ⟨hS.sep i c b hc ho hz,(hS.own i c b hc ho hz).symm⟩
 | false=>
  rw [hown] at h
  have hb':=RM.Out_bif h;clear h;obtain ⟨hnd,h⟩:=hb'
  obtain rfl:=h.1
  simp only [Bool.and_eq_true,Bool.not_eq_true',List.all_eq_true] at hnd
  have hmeet:=meets_false hnd.1.2
  let F':Nat→Prop:=fun b=>G.F b∨∃id∈vs.flatMap idsCv,∃c,S.h id=some c∧Occ G id c b
  have hF':∀b,G.F b→F' b:=fun b h=>.inl h
  obtain ⟨fpO,j1,j2⟩:=ends_sound hS (F:=F') hF' hlen hpins h3
  have hin:∀v∈vs,∀x∈v.cells,InF G S F' x:=by
   intro v hv x hx
   have key:∀id∈idsAt x,∀b k,S.h id=some b→Occ G id b k→F' k:=fun id hi b k hb ho=>.inr ⟨id,List.mem_flatMap.2 ⟨v,hv,idsCv_of hx hi⟩,b,hb,ho⟩
   cases x with
   | own id=>exact fun b k hb ho=>key id (by simp [idsAt]) b k hb ho
   | sub id o l=>exact fun b k hb ho=>key id (by simp [idsAt]) b k hb ho
   | inn id hid i c=>exact fun b k hb ho=>key id (by simp [idsAt]) b k hb ho
   | _=>trivial
  refine base F' [] fpO hF' (fun b hb=>?_) (by rw [if_neg (by rw [hown];simp),s.res_shut];exact ⟨ofCvs_rov hS hF' (fun v hv=>okCv_all (hnd.2 v hv)) hvs hin h2,rfl⟩) (by rw [s.out_shut];exact j1) (j2.nodup (nodupB_iff hnd.1.1)) fun b hb=>?_
  ·rcases hb with hb | ⟨id,hid,c,hc,ho⟩
   ·exact hff b hb
   ·refine ⟨?_,ho.lt (hS.blks id c hc)⟩
    cases hz:c.fz with
    | true=>exact hS.ff.2 b (hS.sepF id c b hc ho hz)
    | false=>exact .inr (hS.own id c b hc ho hz)
  ·obtain ⟨i,hi,c,hc,ho,hz⟩:=hblk j2 b hb
   refine ⟨?_,(hS.own i c b hc ho hz).symm⟩
   rintro (h | ⟨id,hid,c',hc',ho'⟩)
   ·exact hS.sep i c b hc ho hz h
   ·have:=hS.inj id i c' c b hc' hc ho' ho
    subst this
    exact hmeet id hid hi
theorem run_callFunc_go {f : FuncId} {fn : Func} {c : Code} (hf : P.funcs[f]? = some fn) (hname : (fn.name == "runtime.NumGoroutine") = false) (hb : fn.body = some c) (args : Array Value) (w : World) : (callFunc f args).run P w = .ok (.enter f args) w := by
 simp [callFunc, hf, show fn.name ≠ "runtime.NumGoroutine" by simpa using hname, hb]
theorem sound (hT : T.OK P) (hΓ : GamOK P Γ) (hmix : P.follows .mixedOrders = true) {f : FuncId} {fn : Func} {c : Code} (hf : P.funcs[f]? = some fn) (hb : fn.body = some c) (hname : (fn.name == "runtime.NumGoroutine") = false) (s : Spec E) (hn : s.ps.length ≤ fn.ntmps) (loops cuts : Live)
  (h:∀x r,s.fn x=some r→∃k d,runF T Γ loops cuts fn c s (orc T Γ loops cuts k d) x=some r):Sound P E f s:=by
 refine ⟨fun args W=>?_,?_⟩
 ·exact run_callFunc_go hf hname hb args W
 intro W F x r args fp hfn hin hnd hfF hFlt
 obtain ⟨k,d,hrun⟩:=h x r hfn
 have hlen:=hin.length
 let cx:Cx:=⟨(·∈fp),W,F⟩
 let tm:Array Value:=args.toArray++Array.replicate (fn.ntmps - args.toArray.size) undef
 have htm:∀t,tm.getD t undef=args.toArray.getD t undef:=by
  intro t
  rw [Array.getD_eq_getD_getElem?,Array.getD_eq_getD_getElem?]
  by_cases ht:t<args.length
  ·rw [Array.getElem?_append_left (by simpa using ht)]
  ·rw [Array.getElem?_append_right (by simp;omega),Array.getElem?_eq_none (xs:=args.toArray) (by simp;omega)]
   rw [Array.getElem?_replicate]
   split<;>rfl
 let S0:St E:={ ρ:=[],H:=[],nx:=0,n:=fn.ntmps,pin:=[] }
 have hS0:Sim cx ⟨fun _=>0,fun _=>undef,fun _=>0,fun _=>0,fun _ _ _=>undef,fun _=>[],F⟩ S0 tm W:=by
  refine ⟨?_,fun s v h=>(by cases h),fun id b h=>(by cases h),fun i j bi bj k h=>(by cases h),fun id b k h=>(by cases h),fun id b k h=>(by cases h),fun id b k h=>(by cases h),hFlt,⟨rfl,rfl,rfl,Nat.le_refl _,fun _ _ _=>rfl⟩,fun _ h=>h,fun _ h=>.inl h⟩
  show (args.toArray++Array.replicate (fn.ntmps - args.toArray.size) undef).size=fn.ntmps
  simp
  omega
 obtain ⟨G,i1,i2,i3,i4,i5⟩:=entry_sound (s:=0) (id:=0) hS0 hin hnd (fun b hb=>⟨hfF b hb,.inr hb,fun i c h=>(by cases h)⟩) (fun _ _ _=>rfl)
 have hI:Inv cx args.toArray (entrySt E fn s.ps x).nx (entrySt E fn s.ps x) ⟨tm,[]⟩ W:=by
  refine ⟨⟨G,?_⟩,fun k hk=>?_,rfl,fun t _=>htm t⟩
  ·have hH:(entrySt E fn s.ps x).H=(entry E s.ps x 0 0).2.1++S0.H:=(List.append_nil _).symm
   have hkk:(entrySt E fn s.ps x).k=St.k { S0 with H:=(entry E s.ps x 0 0).2.1++S0.H }:=by funext i;unfold St.k;rw [hH]
   have hhh:(entrySt E fn s.ps x).h=St.h { S0 with H:=(entry E s.ps x 0 0).2.1++S0.H }:=by funext i;unfold St.h;rw [hH]
   refine ⟨i1.sz,fun t v hv=>?_,by rw [hhh,hkk];exact i1.blks,by rw [hhh];exact i1.inj,by rw [hhh];exact i1.sepF,by rw [hhh];exact i1.sep,by rw [hhh];exact i1.own,i1.fr,i1.frm,i1.ff⟩
   obtain ⟨_,w,hw,hr⟩:=i5 t v hv
   have:tm.getD t undef=w:=by
    rw [htm t,Array.getD_eq_getD_getElem?]
    have hw':args[t]? = some w:=by simpa using hw
    simp [hw']
   show AVR G _ W v (tm.getD t undef)
   rw [this,hkk]
   exact hr
  ·show k<(entry E s.ps x 0 0).2.2
   have hk:(lk (entry E s.ps x 0 0).2.1 k).isSome=true:=hk
   by_cases h:k<(entry E s.ps x 0 0).2.2
   ·exact h
   ·rw [entry_key s.ps x 0 0 k (.inr (by omega))] at hk;cases hk
 refine calls_of_wp (c:=c) hf hb ?_
 refine runA_sound hT hΓ hmix (orc_sound hT hΓ hmix k d) c _ _ r _ W _ hrun hI ?_
 intro ex S a W' hk hI'
 have key:∀ {o:Option s.R},(bif natsEq S.pin (pins s.ps 0) then (finR T fn s S).run S.h [] fun a _=>some a else none)=some r→a.defers=[]∧∃v,(results fn a.tmps).run P W' = .ok v W'∧(fun (e:Ending) (W':World)=>∃v,e = .returned v∧Left E s r W F args fp v W') (.returned v) W':=by
  intro _ hk
  cases hp:natsEq S.pin (pins s.ps 0) with
  | false=>rw [hp] at hk;cases hk
  | true=>
   rw [hp,cond_true] at hk
   obtain ⟨y,l,h1,h2⟩:=RM.run_out hk
   cases h2
   obtain ⟨v,h3,h4⟩:=fin_sound hT hlen hI' (natsEq_eq hp) h1
   exact ⟨hI'.defers,v,h3,v,rfl,h4⟩
 cases ex with
 | norm=>exact key (o:=none) hk
 | ret=>exact key (o:=none) hk
 | exit id=>cases hk
end Mir
namespace Mir
set_option linter.unusedVariables false
open Go
variable {E:Env} {P:Program} {R:Type}
def gam:List (Nat×List Nat×Spec E)→Ctx E
 | []=>fun _ _=>none
 | (g,c,s)::r=>fun f cl=>bif Nat.beq g f&&natsEq c cl then some s else gam r f cl
def GamL (P:Program):List (Nat×List Nat×Spec E)→Prop
 | []=>True
 | (g,_,s)::r=>Sound P E g s∧GamL P r
theorem gam_ok:∀ {l:List (Nat×List Nat×Spec E)},GamL P l→GamOK P (gam l)
 | [],_=>fun f cl s h=>by cases h
 | (g,c,s)::r,⟨h1,h2⟩=>fun f cl s' h=>by
  unfold gam at h
  cases hb:(Nat.beq g f&&natsEq c cl) with
  | true=>
   rw [hb,cond_true] at h
   cases h
   simp only [Bool.and_eq_true] at hb
   rw [← Nat.eq_of_beq_eq_true hb.1]
   exact h1
  | false=>rw [hb] at h;exact gam_ok h2 f cl s' h
def codeAt:Code→List Nat→Code
 | .seq a _,0::r=>codeAt a r
 | .seq _ b,1::r=>codeAt b r
 | .cond _ a _,0::r=>codeAt a r
 | .cond _ _ b,1::r=>codeAt b r
 | .block _ a,0::r=>codeAt a r
 | .loop a,0::r=>codeAt a r
 | c,_=>c
noncomputable def kAt (T:Tb) (Γ:Ctx E) (loops cuts:Live) (o:Orc E R):Code→List Nat→KT E R→KT E R
 | .seq a b,0::r,K=>kAt T Γ loops cuts o a r (kseq (fun S K=>match (keyOf b).bind (lk cuts) with
   | some live=>o b K (S.norm live)
   | none=>runA T Γ loops cuts o b S K) K)
 | .seq _ b,1::r,K=>kAt T Γ loops cuts o b r K
 | .cond _ a _,0::r,K=>kAt T Γ loops cuts o a r K
 | .cond _ _ b,1::r,K=>kAt T Γ loops cuts o b r K
 | .block id a,0::r,K=>kAt T Γ loops cuts o a r (kblock id K)
 | _,_,K=>K
theorem orc_loop {T:Tb} {Γ:Ctx E} {loops cuts:Live} {k d:Nat} {b:Code} {live:List Nat} {K:KT E R} {S:St E} (h:(keyOf b).bind (lk loops)=some live) :
  orc T Γ loops cuts k (d+1) (.loop b) K S=iter (fun rec S=>runA T Γ loops cuts (orc T Γ loops cuts k d) b S (kloop live rec K)) k S:=by
 simp only [orc,h]
def miter {α:Type} (step:(α→Option R)→α→Option R):Nat→α→Option R
 | 0,_=>none
 | n+1,a=>step (miter step n) a
theorem iter_eq {α:Type} (St:α→St E) (step:(Mir.St E→Option R)→Mir.St E→Option R) (mstep:(α→Option R)→α→Option R) (h:∀rec a,step rec (St a)=mstep (fun a=>rec (St a)) a):∀k a,iter step k (St a)=miter mstep k a
 | 0,_=>rfl
 | k+1,a=>(h (iter step k) a).trans (congrFun (congrArg mstep (funext fun a=>iter_eq St step mstep h k a)) a)
def tbOf (P:Program):Tb:={ deep:=false,und:=P.underlying,size:=fun t=>(P.info? t).map (·.size),bytes:=fun t=>(P.info? t).map (·.bytes),zero:=fun t=>(P.info? t).bind (·.zero),eqt:=fun t=>!P.stoodInHeld t && !P.eqGuardType P.depth t }
theorem tbOf_ok (P:Program):(tbOf P).OK P:=⟨fun _ _ h=>h,fun _ _ h=>h,fun _ _ h=>h,fun _ _ h=>h,fun t h=>by
 have h:(!P.stoodInHeld t && !P.eqGuardType P.depth t)=true:=h
 simpa using h⟩
structure SD where
 S:Type
 dz:S
structure LD (S:Nat→Type) (n:Nat) where
 fl:List Ty
 opn:S n→HT S fl
 shut:HT S fl→S n
 opn_shut:∀h,opn (shut h)=h
 pos:0<fl.length
def ob {α β:Type} (m:Option α) (f:α→Option β):Option β:=match m with
 | some y=>f y
 | none=>none
abbrev w64 (n:Int):Int:=IntKind.wrap .i64 n
abbrev wu8 (n:Int):Int:=IntKind.wrap .u8 n
end Mir
namespace Mir
set_option linter.unusedVariables false
set_option linter.unusedSimpArgs false
open Go
variable {E:Env} {P:Program} {W:World}
section
variable (E)
abbrev WAT (E:Env):=(t:Ty)→Ty.D E.S t→Prop
def WfL (WA:WAT E):(ts:List Ty)→HT E.S ts→Prop
 | [],_=>True
 | t::ts,h=>WA t h.1∧WfL WA ts h.2
def WfE (WA:WAT E):(t:Ty)→Ty.D E.S t→Prop
 | .st n,x=>WfL E WA (E.fl n) (E.opn n x)
 | t,x=>WA t x
def WfA:Nat→WAT E
 | _,.int k,x=>(Lit.int k x).wf=true
 | _,.bool,_=>True
 | _,.str,s=>s.size≤maxLen
 | 0,.slice _ _,_=>False
 | d+1,.slice _ t,xs=>xs.length≤maxLen∧∀x∈xs,WfE E (WfA d) t x
 | _,.st _,_=>False
 | _,.arr _ _,_=>False
 | _,.rsl _ _,_=>False
 | _,.pbx _ _,_=>False
 | _,.opq,_=>False
end
theorem WfL.mono {WA WB:WAT E} (H:∀t x,WA t x→WB t x):∀ {ts:List Ty} {h:HT E.S ts},WfL E WA ts h→WfL E WB ts h
 | [],_,_=>trivial
 | _::_,_,⟨a,b⟩=>⟨H _ _ a,WfL.mono H b⟩
theorem WfE.mono {WA WB:WAT E} (H:∀t x,WA t x→WB t x) {t:Ty} {x:Ty.D E.S t} (h:WfE E WA t x):WfE E WB t x:=by
 cases t with
 | st n=>exact WfL.mono (E:=E) H (ts:=E.fl n) (h:=E.opn n x) h
 | _=>exact H _ _ h
theorem WfA.more:∀(d d':Nat),d≤d'→∀(t:Ty) (x:Ty.D E.S t),WfA E d t x→WfA E d' t x:=by
 intro d
 induction d with
 | zero=>
  intro d' _ t x h
  cases t<;>cases d'<;>first | exact h | exact h.elim | exact False.elim h
 | succ d ih=>
  intro d' hd t x h
  cases d' with
  | zero=>omega
  | succ d'=>
   cases t with
   | slice e t=>exact ⟨h.1,fun x hx=>(h.2 x hx).mono fun t x=>ih d' (by omega) t x⟩
   | _=>exact h
def fieldsB (P:Program) (rec:TypeId→List Ty→Bool):List Field→Nat→List Ty→Bool
 | [],_,ts=>ts.isEmpty
 | f::fs,off,ts=>Nat.beq f.offset off&&Nat.beq (ts.take (P.cellsOf f.type)).length (P.cellsOf f.type)&&rec f.type (ts.take (P.cellsOf f.type))&&fieldsB P rec fs (off+P.cellsOf f.type) (ts.drop (P.cellsOf f.type))
def oneTy (E:Env):Ty→List Ty
 | .st n=>E.fl n
 | t=>[t]
def cellsB (E:Env) (P:Program):Nat→TypeId→List Ty→Bool
 | 0,_,_=>false
 | d+1,t,ts=>match P.underlying t,ts with
  | some (.int k),[.int k']=>ikEq k k'
  | some .bool,[.bool]=>true
  | some .string,[.str]=>true
  | some (.slice e),[.slice _ ty]=>Nat.beq (P.cellsOf e) (tsz E ty)&&cellsB E P d e (oneTy E ty)
  | some (.struct fs),ts=>Nat.beq (P.cellsOf t) ts.length&&fieldsB P (cellsB E P d) fs.toList 0 ts
  | _,_=>false
def InHeap (W:World):Nat→Prop:=fun b=>b<W.heap.size
def CellsR (E:Env) (W:World) (ts:List Ty) (cs:List Value):Prop:=∃(h:HT E.S ts) (n:Nat),RoL E (RoA E W (InHeap W) n) ts h cs∧WfL E (WfA E n) ts h
theorem CellsR.nil:CellsR E W [] []:=⟨(),0,rfl,trivial⟩
theorem RoL.app {RA:RAT E} {WA:WAT E}:∀ {ts us:List Ty} {h:HT E.S ts} {k:HT E.S us} {vs ws:List Value},RoL E RA ts h vs→RoL E RA us k ws→WfL E WA ts h→WfL E WA us k→∃r:HT E.S (ts++us),RoL E RA (ts++us) r (vs++ws)∧WfL E WA (ts++us) r
 | [],us,_,k,_,ws,h1,h2,_,w2=>by rw [RoL] at h1;subst h1;exact ⟨k,h2,w2⟩
 | t::ts,us,h,k,_,ws,⟨v,r,hv,ha,hr⟩,h2,w1,w2=>by
  obtain ⟨q,h3,h4⟩:=RoL.app hr h2 w1.2 w2
  subst hv
  exact ⟨(h.1,q),⟨v,r++ws,rfl,ha,h3⟩,w1.1,h4⟩
theorem CellsR.app {ts us:List Ty} {vs ws:List Value} (h:CellsR E W ts vs) (k:CellsR E W us ws):CellsR E W (ts++us) (vs++ws):=by
 obtain ⟨a,n,h1,h2⟩:=h
 obtain ⟨b,m,k1,k2⟩:=k
 have mo:∀i,i≤max n m→∀t x v,RoA E W (InHeap W) i t x v→RoA E W (InHeap W) (max n m) t x v:=fun i hi t x v=>RoA.more (fun _ h=>h) (fun _ _=>rfl) i _ hi t x v
 obtain ⟨r,h3,h4⟩:=RoL.app (h1.mono fun t x v=>mo n (Nat.le_max_left ..) t x v) (k1.mono fun t x v=>mo m (Nat.le_max_right ..) t x v) (h2.mono fun t x=>WfA.more n _ (Nat.le_max_left ..) t x) (k2.mono fun t x=>WfA.more m _ (Nat.le_max_right ..) t x)
 exact ⟨r,_,h3,h4⟩
theorem cells?_spec {base:Nat} {a:Addr} {n:Nat} {cs:List Value} (h:W.cells? base a n=some cs):cs.length=n∧∀(j:Nat) (hj:j<cs.length),W.cell? (a.add j)=some cs[j]:=by
 unfold World.cells? at h
 split at h
 ·have hl:=mapM_some_length h
  rw [List.length_range] at hl
  refine ⟨hl,fun j hj=>?_⟩
  have:=mapM_some_get h j j (by rw [List.getElem?_range];omega)
  rw [this,List.getElem?_eq_getElem hj]
 ·cases h
theorem cell_block {a:Addr} {v:Value} (h:W.cell? a=some v):a.block<W.heap.size:=by
 by_cases hb:a.block<W.heap.size
 ·exact hb
 ·exfalso
  unfold World.cell? at h
  rw [Array.getElem?_eq_none (by omega)] at h
  simp at h
theorem one_cells {n:Nat} {t:Ty} {vs:List Value}:(∃h:HT E.S (oneTy E t),RoL E (RoA E W (InHeap W) n) (oneTy E t) h vs∧WfL E (WfA E n) (oneTy E t) h)→∃x:Ty.D E.S t,RoE E (RoA E W (InHeap W) n) t x vs∧WfE E (WfA E n) t x:=by
 rintro ⟨h,h1,h2⟩
 cases t with
 | st m=>
  have h1:RoL E (RoA E W (InHeap W) n) (E.fl m) h vs:=h1
  have h2:WfL E (WfA E n) (E.fl m) h:=h2
  refine ⟨E.shut m (show HT E.S (E.fl m) from h),?_,?_⟩
  ·show RoL E (RoA E W (InHeap W) n) (E.fl m) (E.opn m (E.shut m (show HT E.S (E.fl m) from h))) vs
   rw [E.opn_shut];exact h1
  ·show WfL E (WfA E n) (E.fl m) (E.opn m (E.shut m (show HT E.S (E.fl m) from h)))
   rw [E.opn_shut];exact h2
 | _=>
  obtain ⟨v,r,hv,ha,hr⟩:=h1
  rw [RoL] at hr
  subst hr
  exact ⟨h.1,⟨v,hv,ha⟩,h2.1⟩
theorem choose_list {α:Type} {p:Nat→α→Prop}:∀(n:Nat),(∀i,i<n→∃x,p i x)→∃xs:List α,xs.length=n∧∀(i:Nat) (h:i<xs.length),p i xs[i]
 | 0,_=>⟨[],rfl,fun i h=>absurd h (by simp)⟩
 | n+1,h=>by
  obtain ⟨xs,h1,h2⟩:=choose_list n fun i hi=>h i (Nat.lt_succ_of_lt hi)
  obtain ⟨x,hx⟩:=h n (Nat.lt_succ_self _)
  refine ⟨xs++[x],by simp [h1],fun i hi=>?_⟩
  by_cases e:i<xs.length
  ·rw [List.getElem_append_left e];exact h2 i e
  ·have:i=n:=by simp at hi;omega
   subst this
   rw [List.getElem_append_right (by omega)]
   simpa [h1] using hx
theorem open_cells {H:Type} {enc:TypeId×Value→H} {base:Nat} {spare:Nat→Bool} {held:Bool}:∀(d:Nat) (t:TypeId) (ts:List Ty),cellsB E P d t ts=true→∃m,∀(fuel:Nat) (cs:List Value) (x:DataW H×List MemPlace),DataW.trod enc P W base spare held fuel t cs=some x→
  ∃h:HT E.S ts,RoL E (RoA E W (InHeap W) m) ts h cs∧WfL E (WfA E m) ts h
 | 0,_,_,h=>by cases h
 | d+1,t,ts,h=>by
  unfold cellsB at h
  split at h
  ·rename_i k k' hu
   obtain rfl:=ikEq_eq h
   refine ⟨0,fun fuel cs x hx=>?_⟩
   obtain ⟨n,rfl,_,hw⟩:=DataW.trod_int hu hx
   exact ⟨(n,()),⟨_,[],rfl,rfl,rfl⟩,hw,trivial⟩
  ·rename_i hu
   refine ⟨0,fun fuel cs x hx=>?_⟩
   obtain ⟨b,rfl,_⟩:=DataW.trod_bool hu hx
   exact ⟨(b,()),⟨_,[],rfl,rfl,rfl⟩,trivial,trivial⟩
  ·rename_i hu
   refine ⟨0,fun fuel cs x hx=>?_⟩
   obtain ⟨s,rfl,_,hs⟩:=DataW.trod_string hu hx
   exact ⟨(s,()),⟨_,[],rfl,rfl,rfl⟩,hs,trivial⟩
  ·rename_i e e' ty hu
   simp only [Bool.and_eq_true] at h
   have hsz:=Nat.eq_of_beq_eq_true h.1
   obtain ⟨m,ih⟩:=open_cells (H:=H) (enc:=enc) (base:=base) (spare:=spare) (held:=held) d e _ h.2
   refine ⟨m+1,fun fuel cs x hx=>?_⟩
   rcases DataW.trod_slice hu hx with ⟨rfl,_⟩ | ⟨a,len,cap,elems,rest,n,_,rfl,_,_,hl,hm,hlen,hel,_⟩
   ·exact ⟨(([]:List (Ty.D E.S ty)),()),⟨_,[],rfl,⟨none,0,rfl,Nat.le_refl _,fun h=>absurd h (by simp)⟩,rfl⟩,⟨Nat.zero_le _,fun x hx=>absurd hx (List.not_mem_nil)⟩,trivial⟩
   ·have each:∀i,i<len→∃y:Ty.D E.S ty,∃vs,RoE E (RoA E W (InHeap W) m) ty y vs∧WfE E (WfA E m) ty y∧(∀(j:Nat) (hj:j<vs.length),W.cell? (a.add (i * tsz E ty+j))=some vs[j]):=by
     intro i hi
     have h1:=hel i hi
     rw [List.getElem?_eq_getElem (by omega)] at h1
     obtain ⟨cs',h2,h3⟩:=Option.bind_eq_some_iff.1 h1
     obtain ⟨hc1,hc2⟩:=cells?_spec h2
     obtain ⟨y,hy1,hy2⟩:=one_cells (ih n cs' _ h3)
     refine ⟨y,cs',hy1,hy2,fun j hj=>?_⟩
     have:=hc2 j hj
     rw [add_add,hsz] at this
     exact this
    obtain ⟨xs,hx1,hx2⟩:=choose_list len each
    refine ⟨(xs,()),⟨_,[],rfl,⟨some a,cap,by rw [hx1],by show xs.length≤cap;omega,fun h0=>⟨a,rfl,?_,fun i hi=>?_⟩⟩,rfl⟩,⟨by show xs.length≤maxLen;omega,fun x hx=>?_⟩,trivial⟩
    ·obtain ⟨vs,h4,_,h5⟩:=hx2 0 h0
     have hl:=h4.length
     have hp:=tsz_pos E ty
     have:=cell_block (h5 0 (by omega))
     have e:(a.add (0 * tsz E ty+0)).block=a.block:=by unfold Addr.add;split<;>rfl
     rw [e] at this
     exact this
    ·obtain ⟨vs,h4,_,h5⟩:=hx2 i hi
     exact ⟨vs,h4,h5⟩
    ·obtain ⟨i,hi,rfl⟩:=List.getElem_of_mem hx
     obtain ⟨vs,_,h5,_⟩:=hx2 i hi
     exact h5
  ·rename_i ts' fs hu
   simp only [Bool.and_eq_true] at h
   obtain ⟨hlt,h⟩:=h
   have key:∀(l:List Field) (off:Nat) (us:List Ty),fieldsB P (cellsB E P d) l off us=true→∃m,∀(n:Nat) (cs:List Value),cs.length=off+us.length→(∀f∈l,∃x,DataW.trod enc P W base spare held n f.type ((cs.drop f.offset).take (P.cellsOf f.type))=some x)→
     ∃h:HT E.S us,RoL E (RoA E W (InHeap W) m) us h (cs.drop off)∧WfL E (WfA E m) us h:=by
    intro l
    induction l with
    | nil=>
     intro off us h
     simp only [fieldsB,List.isEmpty_iff] at h
     subst h
     refine ⟨0,fun n cs hl _=>⟨(),?_,trivial⟩⟩
     show cs.drop off=[]
     exact List.drop_eq_nil_of_le (by rw [hl];simp)
    | cons f l ih2=>
     intro off us h
     simp only [fieldsB,Bool.and_eq_true] at h
     obtain ⟨⟨⟨h1,h2⟩,h3⟩,h4⟩:=h
     have h1:=Nat.eq_of_beq_eq_true h1
     have h2:=Nat.eq_of_beq_eq_true h2
     obtain ⟨m1,i1⟩:=open_cells (H:=H) (enc:=enc) (base:=base) (spare:=spare) (held:=held) d f.type _ h3
     obtain ⟨m2,i2⟩:=ih2 _ _ h4
     have hus:us.take (P.cellsOf f.type)++us.drop (P.cellsOf f.type)=us:=List.take_append_drop _ _
     refine ⟨max m1 m2,fun n cs hl hf=>?_⟩
     obtain ⟨x,hx⟩:=hf f (List.mem_cons_self ..)
     rw [h1] at hx
     obtain ⟨k1,k2,k3⟩:=i1 n _ x hx
     have hle:P.cellsOf f.type≤us.length:=by
      rw [List.length_take] at h2;omega
     obtain ⟨k4,k5,k6⟩:=i2 n cs (by rw [hl,List.length_drop];omega) (fun g hg=>hf g (List.mem_cons_of_mem _ hg))
     have hq:=RoL.app (k2.mono fun t x v=>RoA.more (fun _ h=>h) (fun _ _=>rfl) m1 _ (Nat.le_max_left m1 m2) t x v) (k5.mono fun t x v=>RoA.more (fun _ h=>h) (fun _ _=>rfl) m2 _ (Nat.le_max_right m1 m2) t x v) (k3.mono fun t x=>WfA.more m1 _ (Nat.le_max_left m1 m2) t x) (k6.mono fun t x=>WfA.more m2 _ (Nat.le_max_right m1 m2) t x)
     have hcs:(cs.drop off).take (P.cellsOf f.type)++cs.drop (off+P.cellsOf f.type)=cs.drop off:=by
      rw [← List.drop_drop];exact List.take_append_drop _ _
     rw [hcs,hus] at hq
     exact hq
   obtain ⟨m,hm⟩:=key fs.toList 0 _ h
   refine ⟨m,fun fuel cs x hx=>?_⟩
   obtain ⟨xs,n,_,_,hl,hlen,hf⟩:=DataW.trod_struct hu hx
   have:=hm n cs (by rw [hl,Nat.zero_add];exact Nat.eq_of_beq_eq_true hlt) (fun f hf'=>by
    obtain ⟨i,hi,he⟩:=List.getElem_of_mem hf'
    have hi':fs[i]? = some f:=by simp [← he]
    have h1:=hf i f hi'
    have hix:i<xs.length:=by rw [hlen];simpa using hi
    rw [List.getElem?_eq_getElem hix] at h1
    exact ⟨_,h1⟩)
   simpa using this
  ·cases h
end Mir
namespace Mir
set_option linter.unusedVariables false
set_option linter.unusedSimpArgs false
open Go
variable {E:Env} {P:Program} {W:World}
def tyB (E:Env) (P:Program) (d:Nat) (t:TypeId):Ty→Bool
 | .st n=>(match P.underlying t with | some (.struct _)=>true | _=>false)&&cellsB E P d t (E.fl n)
 | ty=>(match P.underlying t with | some (.struct _)=>false | _=>true)&&cellsB E P d t [ty]
theorem open_val {H:Type} {enc:TypeId×Value→H} {base b0:Nat} {spare:Nat→Bool} {held:Bool} {r:Reach} (d:Nat) (t:TypeId) (ty:Ty) (hc:tyB E P d t ty=true) {v:Value} {x:DataW H} {ps:List MemPlace} (hval:Value.okWide P W r b0 t v) (hd:DataW.Trod enc P W base spare held t v x ps) :
  ∃y:Ty.D E.S ty,RoV E W (InHeap W) ty y v∧∃n,WfE E (WfA E n) ty y:=by
 obtain ⟨fuel,hf⟩:=hd
 cases ty with
 | st n=>
  simp only [tyB,Bool.and_eq_true] at hc
  obtain ⟨h1,h2⟩:=hc
  split at h1
  ·rename_i fs hu
   obtain ⟨cs,rfl,_⟩:=WideShapes.okWide_struct hu hval
   obtain ⟨m,hm⟩:=open_cells (H:=H) (enc:=enc) (base:=base) (spare:=spare) (held:=held) (W:=W) d t _ h2
   obtain ⟨h,h3,h4⟩:=hm fuel _ _ hf
   refine ⟨E.shut n h,⟨cs.toList,m,by simp,by rw [E.opn_shut];exact h3⟩,m,?_⟩
   show WfL E (WfA E m) (E.fl n) (E.opn n (E.shut n h))
   rw [E.opn_shut];exact h4
  ·cases h1
 | arr k n=>
  simp only [tyB,Bool.and_eq_true] at hc
  obtain ⟨m,hm⟩:=open_cells (H:=H) (enc:=enc) (base:=base) (spare:=spare) (held:=held) (W:=W) d t _ hc.2
  obtain ⟨h,h3,h4⟩:=hm fuel _ _ hf
  have h5:WfA E m (.arr k n) h.1:=h4.1
  cases m<;>exact h5.elim
 | pbx b n=>
  simp only [tyB,Bool.and_eq_true] at hc
  obtain ⟨m,hm⟩:=open_cells (H:=H) (enc:=enc) (base:=base) (spare:=spare) (held:=held) (W:=W) d t _ hc.2
  obtain ⟨h,h3,h4⟩:=hm fuel _ _ hf
  have h5:WfA E m (.pbx b n) h.1:=h4.1
  cases m<;>exact False.elim h5
 | _=>
  simp only [tyB,Bool.and_eq_true] at hc
  obtain ⟨h1,h2⟩:=hc
  obtain ⟨m,hm⟩:=open_cells (H:=H) (enc:=enc) (base:=base) (spare:=spare) (held:=held) (W:=W) d t _ h2
  obtain ⟨h,h3,h4⟩:=hm fuel _ _ hf
  obtain ⟨w,r',hw,ha,hr⟩:=h3
  rw [RoL] at hr
  subst hr
  have hcell:v.cells.toList=[v]:=by
   cases d with
   | zero=>cases h2
   | succ d=>
    unfold cellsB at h2
    split at h2
    ·rename_i hu _;obtain ⟨_,rfl⟩:=WideShapes.okWide_int hu hval;rfl
    ·rename_i hu _;obtain ⟨_,rfl⟩:=WideShapes.okWide_bool hu hval;rfl
    ·rename_i hu _;obtain ⟨_,rfl⟩:=WideShapes.okWide_string hu hval;rfl
    ·rename_i hu _;obtain ⟨_,_,_,rfl⟩:=WideShapes.okWide_slice hu hval;rfl
    ·rename_i hu;rw [hu] at h1;cases h1
    ·cases h2
  rw [hcell] at hw
  cases hw
  exact ⟨h.1,⟨m,ha⟩,m,h4.1⟩
end Mir
namespace Mir
set_option linter.unusedVariables false
open Go
theorem w64_eq {n:Int} (h1 : -9223372036854775808≤n) (h2:n<9223372036854775808):w64 n=n:=by
 simp only [w64,IntKind.wrap,IntKind.bits,IntKind.signed]
 simp
 omega
@[simp] theorem ob_some {α β:Type} (x:α) (f:α→Option β):ob (some x) f=f x:=rfl
@[simp] theorem ob_none {α β:Type} (f:α→Option β):ob none f=none:=rfl
theorem miter_up {α R:Type} {step:(α→Option R)→α→Option R} {n:Nat} {st:Nat→α} {r:Option R} (hstep:∀i,i<n→∀rec,step rec (st i)=rec (st (i+1))) (hend:∀rec,step rec (st n)=r):∀(k i N:Nat),i+k=n→k<N→miter step N (st i)=r
 | 0, i, N + 1, h, _ => by obtain rfl : i = n := by omega
                           exact hend _
 | k+1,i,N+1,h,hN=>by
  show step (miter step N) (st i)=r
  rw [hstep i (by omega)]
  exact miter_up hstep hend k (i+1) N (by omega) (by omega)
theorem miter_all {α R:Type} {step:(α→Option R)→α→Option R} {p:Option R→Prop} (μ:α→Nat) (inv:α→Prop) (hstep:∀a,inv a→∀rec,(∀b,inv b→μ b<μ a→p (rec b))→p (step rec a)):∀(N:Nat) (a:α),inv a→μ a<N→p (miter step N a)
 | N+1,a,h,hN=>hstep a h _ fun b hb hlt=>miter_all μ inv hstep N b hb (by omega)
end Mir
namespace Mir
set_option linter.unusedVariables false
open Go
theorem seq_self (x:ByteArray):seq x x=true:=by simp [seq]
theorem getD_at {α:Type} {a:List α} {i:Nat} {d:α} (h:i<a.length):a.getD i d=a[i]:=by simp [List.getD_eq_getElem?_getD,h]
theorem w_up (i n:Nat) (h:i<n) (hn:n≤1048576):w64 ((i:Int)+1)=((i+1:Nat):Int):=by
 rw [w64_eq (by omega) (by omega)];omega
end Mir
namespace Mir
set_option linter.unusedVariables false
open Go
theorem amb_right {R:Type} {p:Bool} {x y:Option R} (h:p=true→x=y):amb p true x y=y:=by
 unfold amb
 cases p with
 | false=>rfl
 | true=>simp [h rfl]
theorem ifNot {b B:Bool} {e:Option Bool} (h:e=some B):(bif (!b) then some false else e)=some (b&&B):=by cases b<;>simp [h]
theorem ifNo {b B:Bool} {e:Option Bool} (h:e=some B):(bif b then some false else e)=some (!b&&B):=by cases b<;>simp [h]
theorem ifYes {b B:Bool} {e:Option Bool} (h:e=some B):(bif b then e else some false)=some (b&&B):=by cases b<;>simp [h]
def allF (p:Nat→Bool):(i k:Nat)→Bool
 | _,0=>true
 | i,k+1=>p i&&allF p (i+1) k
theorem allF_iff {p:Nat→Bool}:∀ {k i:Nat},allF p i k=true↔∀j,i≤j→j<i+k→p j=true
 | 0,i=>by simp [allF];omega
 | k+1,i=>by
  simp only [allF,Bool.and_eq_true,allF_iff (k:=k)]
  constructor
  ·rintro ⟨h1,h2⟩ j hj hk
   rcases Nat.eq_or_lt_of_le hj with rfl | h
   ·exact h1
   ·exact h2 j h (by omega)
  ·intro h
   exact ⟨h i (Nat.le_refl _) (by omega),fun j hj hk=>h j (by omega) (by omega)⟩
theorem allF_congr {p q:Nat→Bool} {i k:Nat} (h:∀j,i≤j→j<i+k→p j=q j):allF p i k=allF q i k:=by
 rw [Bool.eq_iff_iff,allF_iff,allF_iff]
 exact ⟨fun hp j h1 h2=>by rw [← h j h1 h2];exact hp j h1 h2,fun hp j h1 h2=>by rw [h j h1 h2];exact hp j h1 h2⟩
theorem loop_all {α R:Type} {step:(α→Option R)→α→Option R} {n:Nat} {st:Nat→α} {p:Nat→Bool} {f t:Option R} (hstep:∀i,i<n→∀rec,step rec (st i)=bif p i then rec (st (i+1)) else f) (hend:∀rec,step rec (st n)=t) :
  ∀(k i N:Nat),i+k=n→k<N→miter step N (st i)=bif allF p i k then t else f
 | 0, i, N + 1, h, _ => by obtain rfl : i = n := by omega
                           exact hend _
 | k+1,i,N+1,h,hN=>by
  show step (miter step N) (st i)=_
  rw [hstep i (by omega),allF]
  cases hp:p i with
  | false=>simp
  | true=>simp only [cond_true,Bool.true_and];exact loop_all hstep hend k (i+1) N (by omega) (by omega)
theorem loop_idx {α:Type} {step:(α→Option Int)→α→Option Int} {n:Nat} {st:Nat→α} {p:Nat→Bool} (hstep:∀i,i<n→∀rec,step rec (st i)=bif p i then some (i:Int) else rec (st (i+1))) (hend:∀rec,step rec (st n)=some (-1)) :
  ∀(k i N:Nat),i+k=n→k<N→∃y,miter step N (st i)=some y∧decide (y≥0) = !allF (fun j=>!p j) i k
 | 0, i, N + 1, h, _ => by obtain rfl : i = n := by omega
                           exact ⟨-1, hend _, rfl⟩
 | k+1,i,N+1,h,hN=>by
  show ∃y,step (miter step N) (st i)=some y∧_
  rw [hstep i (by omega),allF]
  cases hp:p i with
  | true=>exact ⟨(i:Int),by simp,by simp⟩
  | false=>simpa using loop_idx hstep hend k (i+1) N (by omega) (by omega)
theorem w_dn (i:Nat) (h0:0<i) (h:i≤1048576):w64 ((i:Int) - 1)=((i - 1:Nat):Int):=by
 rw [w64_eq (by omega) (by omega)];omega
theorem w_small {x:Int} (h0 : -1048576≤x) (h1:x≤16777216):w64 x=x:=w64_eq (by omega) (by omega)
theorem sb_range (s:ByteArray) (i:Int):0≤sb s i∧sb s i≤255:=by
 unfold sb
 have:=(s.data.toList.getD i.toNat 0).toNat_lt
 omega
end Mir
