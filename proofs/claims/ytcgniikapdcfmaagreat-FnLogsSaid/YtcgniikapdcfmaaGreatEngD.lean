/- The mirror machine. -/
import Derived.Test.YtcgniikapdcfmaaGreatEngC
namespace Mir
set_option linter.unusedVariables false
set_option linter.unusedSimpArgs false
open Go
variable {E:Env} {P:Program} {W W':World}
def insM {X:Type} (b:Nat) (a0:List X) (a1:Int) (a2:List X):Option (List X):=
 bif decide (0≤a1)&&(decide (a1≤(a0.length:Int))&&(Nat.beq a2.length 1&&room (a0.length+1) b)) then some (a0.take a1.toNat++(a2++a0.drop a1.toNat)) else none
@[reducible] def insSpec (E:Env) (e b:Nat) (ty:Ty):Spec E:={ ps:=[.mov false (.slice e ty),.val (.int .i64),.mov false (.slice e ty)],rs:=[.slice e ty],own:=true,dp:=false,R:=List (Ty.D E.S ty),fn:=fun x=>insM b x.1 x.2.1 x.2.2.1,res:=fun r=>(r,()),out:=fun r=>((),(),(),()),shut:=fun a b=>a.1,res_shut:=fun _ _=>rfl,out_shut:=fun _ _=>rfl }
theorem left_row {F:Nat→Prop} {e d:Nat} {ty:Ty} {r:List (Ty.D E.S ty)} {s:Spec E} {x:s.R} {args:List Value} {fpM:List Nat} {g c:Nat} {cur:List Value}
  (hrs:s.rs=[.slice e ty]) (hres:HEq (s.res x) ((r,()):HT E.S [.slice e ty])) (hps:OutPs E W' F s.ps (s.out x) args []) (hown:s.own=true) (hdp:s.dp=false)
  (hF:∀b,F b→b<W.heap.size) (hg:g∈fpM∨W.heap.size≤g) (hnF:¬ F g) (hc:CellsAt ty.mk W' g cur.toArray e) (h0:0<c) (hl:r.length≤c) (hm:c≤maxLen) (hcur:c * tsz E ty≤cur.length)
  (hrow:RowC E W' F d ty r (cur.take (r.length * tsz E ty))) (hos:W'.os=W.os∧W'.tape=W.tape∧W'.output=W.output) (hsz:W.heap.size≤W'.heap.size) (hblk:∀b,b<W.heap.size→b∉fpM→W'.heap[b]? = W.heap[b]?) :
  Left E s x W F args fpM (.slice (some ⟨g,0,none⟩) r.length c) W':=by
 refine ⟨⟨F,[.slice (some ⟨g,0,none⟩) r.length c],[g],[],rfl,fun b h=>h,fun b h=>⟨.inl h,Nat.lt_of_lt_of_le (hF b h) hsz⟩,?_,hps,by simp,fun b hb=>?_⟩,hos.1,hos.2.1,hos.2.2,hsz,hblk⟩
 ·rw [if_pos hown,hdp]
  have key:∀(rs:List Ty) (y:HT E.S rs),rs=[.slice e ty]→HEq y ((r,()):HT E.S [.slice e ty])→OwnEs E W' F false rs y [.slice (some ⟨g,0,none⟩) r.length c] [g]:=by
   intro rs y h k
   subst h
   obtain rfl:=eq_of_heq k
   refine ⟨_,[],[g],[],rfl,rfl,?_,rfl,rfl⟩
   show ShA E W' F e ty r _ _
   refine .inr ⟨g,c,cur.toArray,d,rfl,rfl,h0,hc,hl,hm,by simpa using hcur,fun i hi=>?_⟩
   have:=hrow.2 i hi
   have e1:seg (cur.take (r.length * tsz E ty)) i (tsz E ty)=seg cur i (tsz E ty):=by
    apply List.ext_getElem?
    intro j
    rw [seg_get,seg_get]
    by_cases hj:j<tsz E ty
    ·rw [if_pos hj,if_pos hj,List.getElem?_take,if_pos]
     have:(i+1) * tsz E ty≤r.length * tsz E ty:=Nat.mul_le_mul_right _ hi
     rw [Nat.add_mul] at this
     omega
    ·rw [if_neg hj,if_neg hj]
   rw [e1] at this
   exact this
  exact key _ _ hrs hres
 ·rw [List.append_nil,List.mem_singleton] at hb
  subst hb
  exact ⟨hnF,hg⟩
theorem insert_sound {f fo t e:Nat} {ty:Ty} (hmk:ty.mk=false) {i:TypeInfo} {z:Value} (hcal:Callee P f) (hu:P.underlying t=some (.slice e)) (hi:P.info? e=some i) (hz:i.zero=some z) (hzs:z.cells.size=tsz E ty) (hsz:i.size=tsz E ty) (hby:0<i.bytes)
  (hov:∀(W:World) (vb g off la ca lb cb:Nat) (tA tB kA kB:Nat),vb≠g→W.shape? vb=some (tA,kA)→W.shape? g=some (tB,kB)→kB≠0→W.frozen? ⟨vb,0,none⟩=false→W.frozen? ⟨vb,kA,none⟩=false→
   (callFunc fo #[.slice (some ⟨vb,0,none⟩) la ca,.slice (some ⟨g,off,none⟩) lb cb]).run P W = .ok (.value (.bool false)) W)
  (at_end:∀(W W1:World) (base base':Option Addr) (n c c' vb vc:Nat),c≤9223372036854775807→n≤c→
   (∀ty,(Builtin.append_ #[t,t] ty #[.slice base n c,.slice (some ⟨vb,0,none⟩) 1 vc]).run P W = .ok (.slice base' (n+1) c') W1)→
   Calls P f #[.slice base n c,.int .i64 n,.slice (some ⟨vb,0,none⟩) 1 vc] W fun e w'=>e = .returned (.slice base' (n+1) c')∧w'=W1)
  (grow:∀(W W1 W2 W3:World) (g N n c c' i vb vc:Nat),i<n→n≤c→c<n+1→n+1≤281474976710656→n+1≤c'→c'≤9223372036854775807→
   (∀ty,(Builtin.append_ #[t,3] ty #[.slice (some ⟨g,0,none⟩) i c,.int .i64 ((n:Int)+1 - i)]).run P W = .ok (.slice (some ⟨N,0,none⟩) (n+1) c') W1)→
   (∀ty',(Builtin.copy_ #[t,t] ty' #[.slice (some ⟨N,i * tsz E ty,none⟩) (n+1 - i) (c' - i),.slice (some ⟨vb,0,none⟩) 1 vc]).run P W1 = .ok (.int .i64 1) W2)→
   (∀ty',(Builtin.copy_ #[t,t] ty' #[.slice (some ⟨N,(i+1) * tsz E ty,none⟩) (n+1 - (i+1)) (c' - (i+1)),.slice (some ⟨g,i * tsz E ty,none⟩) (n - i) (c - i)]).run P W2.drew = .ok (.int .i64 ((n - i:Nat):Int)) W3)→
   Calls P f #[.slice (some ⟨g,0,none⟩) n c,.int .i64 i,.slice (some ⟨vb,0,none⟩) 1 vc] W fun e w'=>e = .returned (.slice (some ⟨N,0,none⟩) (n+1) c')∧w'=W3)
  (h3:P.underlying 3=some (.int .i64))
  (shift:∀(W W2 W3:World) (g n c i vb vc:Nat),i<n→n+1≤c→c≤9223372036854775807→
   (callFunc fo #[.slice (some ⟨vb,0,none⟩) 1 vc,.slice (some ⟨g,(i+1) * tsz E ty,none⟩) (n - i) (c - (i+1))]).run P W = .ok (.value (.bool false)) W→
   (∀ty',(Builtin.copy_ #[t,t] ty' #[.slice (some ⟨g,(i+1) * tsz E ty,none⟩) (n+1 - (i+1)) (c - (i+1)),.slice (some ⟨g,i * tsz E ty,none⟩) (n+1 - i) (c - i)]).run P W.drew = .ok (.int .i64 ((n - i:Nat):Int)) W2)→
   (∀ty',(Builtin.copy_ #[t,t] ty' #[.slice (some ⟨g,i * tsz E ty,none⟩) (n+1 - i) (c - i),.slice (some ⟨vb,0,none⟩) 1 vc]).run P W2 = .ok (.int .i64 1) W3)→
   Calls P f #[.slice (some ⟨g,0,none⟩) n c,.int .i64 i,.slice (some ⟨vb,0,none⟩) 1 vc] W fun e w'=>e = .returned (.slice (some ⟨g,0,none⟩) (n+1) c)∧w'=W3) :
  Sound P E f (insSpec E e i.bytes ty):=by
 refine ⟨hcal,?_⟩
 rintro W F ⟨a0,a1,a2,_⟩ r args fpM hfn ⟨v0,r0,f0,g0,rfl,rfl,h0,v1,r1,f1,g1,rfl,rfl,⟨⟨d1,h1⟩,rfl⟩,v2,r2,f2,g2,rfl,rfl,h2,rfl,rfl⟩ hnd hdis hF
 have h0:ShA E W F e ty a0 v0 f0:=h0
 have h2:ShA E W F e ty a2 v2 f2:=h2
 obtain rfl:v1 = .int .i64 a1:=by cases d1<;>exact h1
 have hfn:insM i.bytes a0 a1 a2=some r:=hfn
 unfold insM at hfn
 cases hc:(decide (0≤a1)&&(decide (a1≤(a0.length:Int))&&(Nat.beq a2.length 1&&room (a0.length+1) i.bytes))) with
 | false=>rw [hc] at hfn;cases hfn
 | true=>
 rw [hc,cond_true] at hfn
 cases hfn
 simp only [Bool.and_eq_true,decide_eq_true_eq] at hc
 obtain ⟨c1,c2,c3,c4⟩:=hc
 have c3:=Nat.eq_of_beq_eq_true c3
 have c4:(a0.length+1) * i.bytes≤140737488355328:=by simpa [room] using c4
 obtain ⟨k,rfl⟩:=Int.eq_ofNat_of_zero_le c1
 have c2:(k:Int)≤(a0.length:Int):=c2
 have c2:k≤a0.length:=by omega
 have hn48:a0.length+1≤(a0.length+1) * i.bytes:=Nat.le_mul_of_pos_right _ hby
 simp only [List.append_nil,List.nil_append] at hnd hdis ⊢
 obtain ⟨nd0,nd2,nd02⟩:=List.nodup_append.1 hnd
 rcases h2 with ⟨A,_,hnil,_⟩ | ⟨vb,vc,vcur,d2,rfl,rfl,p1,p2,p3,p4,p5,p6⟩
 ·have hnil:a2=[]:=hnil
  rw [hnil] at c3;simp at c3
 have hpos:0<tsz E ty:=tsz_pos E ty
 have p3:a2.length≤vc:=p3
 have p6:∀(i:Nat) (hi:i<a2.length),RoE E (RoA E W F d2) ty a2[i] ((vcur.toList.drop (i * tsz E ty)).take (tsz E ty)):=p6
 have hv:=row_cells (G:=⟨fun _=>0,fun _=>undef,fun _=>0,fun _=>0,fun _ _ _=>undef,fun _=>[],F⟩) (W:=W) (id:=0) (e:=e) p5 p3 p6
 have hv:RowC E W F d2 ty a2 (vcur.toList.take (a2.length * tsz E ty)):=hv
 rw [c3] at hv p3 ⊢
 rw [Nat.one_mul] at hv
 have hvl:vcur.toList.length=vcur.size:=by simp
 have hvc:tsz E ty≤vcur.size:=by
  have:1 * tsz E ty≤vc * tsz E ty:=Nat.mul_le_mul_right _ p3
  omega
 obtain ⟨news,hnews⟩:∃news,news=vcur.toList.take (tsz E ty):=⟨_,rfl⟩
 rw [← hnews] at hv
 have hnl:news.length=tsz E ty:=by rw [hnews,List.length_take];omega
 have hsrcV:∀W1:World,CellsAt ty.mk W1 vb vcur e→Src P W1 i.size (.slice (some ⟨vb,0,none⟩) 1 vc) 1 news:=by
  intro W1 h
  have:=CellsAt.src (P:=P) (W:=W1) (cur:=vcur.toList) (off:=0) (len:=1) (c:=vc) (sz:=tsz E ty) (by simpa using h) hpos (by omega)
  rw [hsz,hnews]
  simpa using this
 have hones:=hv.ones
 have vbF:¬ F vb:=hdis vb (List.mem_append_right _ (by simp))
 have vlt:vb<W.heap.size:=p2.lt
 have hmL:maxLen≤9223372036854775807:=by unfold maxLen;omega
 have fin:∀(W3:World) (g c':Nat) (cur3:List Value) (d:Nat) (v:Value),v = .slice (some ⟨g,0,none⟩) (a0.length+1) c'→(g∈f0∨W.heap.size≤g)→CellsAt ty.mk W3 g cur3.toArray e→a0.length+1≤c'→c'≤maxLen→c' * tsz E ty≤cur3.length→
   RowC E W F d ty (a0.take k++(a2++a0.drop k)) (cur3.take ((a0.length+1) * tsz E ty))→(W3.os=W.os∧W3.tape=W.tape∧W3.output=W.output)→W.heap.size≤W3.heap.size→(∀b,b<W.heap.size→b≠g→W3.heap[b]? = W.heap[b]?)→
   ∃v',Ending.returned v=Ending.returned v'∧Left E (insSpec E e i.bytes ty) (a0.take k++(a2++a0.drop k)) W F [v0,.int .i64 (k:Int),.slice (some ⟨vb,0,none⟩) 1 vc] (f0++[vb]) v' W3:=by
  intro W3 g c' cur3 d v hv3 hg hc3 hl hm hcur hr3 hos hs3 hb3
  have hrl:(a0.take k++(a2++a0.drop k)).length=a0.length+1:=by
   simp only [List.length_append,List.length_take,List.length_drop,c3];omega
  have hgF:¬ F g:=by
   rcases hg with hg | hg
   ·exact hdis g (List.mem_append_left _ hg)
   ·intro h;have:=hF g h;omega
  have hr':RowC E W3 F d ty (a0.take k++(a2++a0.drop k)) (cur3.take ((a0.take k++(a2++a0.drop k)).length * tsz E ty)):=by
   rw [hrl]
   exact hr3.more (fun _ h=>h) (fun b hb=>hb3 b (hF b hb) (fun h=>hgF (h▸hb))) (Nat.le_refl _)
  refine ⟨v,rfl,?_⟩
  rw [hv3,← hrl]
  exact left_row rfl HEq.rfl ⟨_,_,[],[],rfl,rfl,rfl,_,_,[],[],rfl,rfl,rfl,_,_,[],[],rfl,rfl,rfl,rfl,rfl⟩ rfl rfl hF (by
   rcases hg with hg | hg
   ·exact .inl (List.mem_append_left _ hg)
   ·exact .inr hg) hgF hc3 (by omega) (by rw [hrl];exact hl) hm hcur hr' hos hs3 (fun b hb hn=>by
   by_cases hbg:b=g
   ·subst hbg
    rcases hg with hg | hg
    ·exact absurd (List.mem_append_left _ hg) hn
    ·omega
   ·exact hb3 b hb hbg)
 have endgrow:∀(A:Option Addr) (c:Nat) (cs:List Value) (d:Nat),v0 = .slice A a0.length c→k=a0.length→c<a0.length+1→a0.length≤c→RowC E W F d ty a0 cs→Src P W i.size (.slice A a0.length c) a0.length cs→
   Calls P f #[v0,.int .i64 (k:Int),.slice (some ⟨vb,0,none⟩) 1 vc] W fun e' W'=>∃v,e' = .returned v∧Left E (insSpec E e i.bytes ty) (a0.take k++(a2++a0.drop k)) W F [v0,.int .i64 (k:Int),.slice (some ⟨vb,0,none⟩) 1 vc] (f0++[vb]) v W':=by
  intro A c cs d hv0 hk hc1 hc2 hr hsrc
  have hbnd:=grown_bounds (W:=W) (n:=a0.length+1) (c:=c) (e:=e) hby c4
  have hrun:=fun ty'=>append_growsE (P:=P) (W:=W) t t ty' e i z hu hu hi hz (hsrcV W p2) hsrc hc1 c4 hby
  subst hk
  rw [hv0]
  refine (at_end W _ A _ a0.length c _ vb vc (by omega) hc2 hrun).mono ?_
  rintro e' W' ⟨rfl,rfl⟩
  rw [← hv0]
  have hlcs:cs.length=a0.length * tsz E ty:=hr.1
  have hnew:(W.drew.alloc (.cells (cs++news++(Builtin.zeroCells z.cells (grownCap W (a0.length+1) c e - (a0.length+1))).toList).toArray e)).heap[W.heap.size]? = some (.cells (cs++news++(Builtin.zeroCells z.cells (grownCap W (a0.length+1) c e - (a0.length+1))).toList).toArray e (0,0)):=drewAlloc_new W _
  refine fin _ W.heap.size _ (cs++news++(Builtin.zeroCells z.cells (grownCap W (a0.length+1) c e - (a0.length+1))).toList) (max d d2) _ rfl (.inr (Nat.le_refl _)) (.of hnew) hbnd.1 hbnd.2 ?_ ?_ ⟨rfl,rfl,rfl⟩ (by simp) (fun b hb _=>drewAlloc_old W _ b hb)
  ·rw [List.length_append,List.length_append,zeroCells_length,hzs,hlcs,hnl]
   have:grownCap W (a0.length+1) c e * tsz E ty=a0.length * tsz E ty+tsz E ty+(grownCap W (a0.length+1) c e - (a0.length+1)) * tsz E ty:=by
    rw [← Nat.succ_mul,← Nat.add_mul];congr 1;have:=hbnd.1;omega
   omega
  ·have e1:(cs++news++(Builtin.zeroCells z.cells (grownCap W (a0.length+1) c e - (a0.length+1))).toList).take ((a0.length+1) * tsz E ty)=cs++news:=by
    have:(a0.length+1) * tsz E ty=(cs++news).length:=by rw [List.length_append,hlcs,hnl,Nat.add_mul,Nat.one_mul]
    rw [this,List.take_left]
   rw [e1,List.take_length,List.drop_length,List.append_nil]
   exact (hr.more (F':=F) (fun _ h=>h) (fun _ _=>rfl) (Nat.le_max_left d d2)).append (hv.more (F':=F) (fun _ h=>h) (fun _ _=>rfl) (Nat.le_max_right d d2))
 rcases h0 with ⟨A,hv0,hnil,rfl⟩ | ⟨g,c,cur,d,hv0,hf0,q1,q2,q3,q4,q5,q6⟩
 ·have hnil:a0=[]:=hnil
  have hv0:v0 = .slice A 0 0:=hv0
  subst hnil
  have hk:k=0:=by simpa using c2
  exact endgrow A 0 [] 0 (by rw [hv0];rfl) (by rw [hk];rfl) (by simp) (Nat.le_refl _) ⟨by simp,fun i hi=>absurd hi (by simp)⟩ (Src.slice (by simp) (fun h=>absurd h (by simp)) (fun _=>rfl))
 have q3:a0.length≤c:=q3
 have q6:∀(i:Nat) (hi:i<a0.length),RoE E (RoA E W F d) ty a0[i] ((cur.toList.drop (i * tsz E ty)).take (tsz E ty)):=q6
 have hv0:v0 = .slice (some ⟨g,0,none⟩) a0.length c:=hv0
 have hr:=row_cells (G:=⟨fun _=>0,fun _=>undef,fun _=>0,fun _=>0,fun _ _ _=>undef,fun _=>[],F⟩) (W:=W) (id:=0) (e:=e) q5 q3 q6
 have hr:RowC E W F d ty a0 (cur.toList.take (a0.length * tsz E ty)):=hr
 have hcl:cur.toList.length=cur.size:=by simp
 have hcc:CellsAt ty.mk W g cur.toList.toArray e:=q2.arr
 have hgm:g∈f0:=by rw [hf0];simp
 have hgv:vb≠g:=fun h=>nd02 g hgm vb (by simp) h.symm
 have glt:g<W.heap.size:=q2.lt
 have ha0:a0.length * tsz E ty≤c * tsz E ty:=Nat.mul_le_mul_right _ q3
 have hm2:=(hv.more (F':=F) (fun _ h=>h) (fun _ _=>rfl) (Nat.le_max_right d d2))
 have hm1:=(hr.more (F':=F) (fun _ h=>h) (fun _ _=>rfl) (Nat.le_max_left d d2))
 have hins:=hm1.ins hm2 k c2
 have hsz1:(a0.length+1) * tsz E ty=a0.length * tsz E ty+tsz E ty:=by rw [Nat.add_mul,Nat.one_mul]
 have hkn:k * tsz E ty≤a0.length * tsz E ty:=Nat.mul_le_mul_right _ c2
 have hk1:(k+1) * tsz E ty=k * tsz E ty+tsz E ty:=by rw [Nat.add_mul,Nat.one_mul]
 have hnk:(a0.length - k) * tsz E ty=a0.length * tsz E ty - k * tsz E ty:=Nat.sub_mul ..
 have srcG:∀W1:World,CellsAt ty.mk W1 g cur e→∀off len c',off+len * tsz E ty≤cur.size→Src P W1 i.size (.slice (some ⟨g,off,none⟩) len c') len ((cur.toList.drop off).take (len * tsz E ty)):=by
  intro W1 h off len c' hl
  rw [hsz]
  exact CellsAt.src (P:=P) (W:=W1) (cur:=cur.toList) h.arr hpos (by omega)
 by_cases hke:k=a0.length
 ·by_cases hroom:a0.length+1≤c
  ·-- at the end, in place
   have hsz2:(a0.length+1) * tsz E ty≤c * tsz E ty:=Nat.mul_le_mul_right _ hroom
   have hst:=run_putC (P:=P) (o:=a0.length * tsz E ty) (vs:=news) hcc (by omega) hones
   have hrun:∀ty',(Builtin.append_ #[t,t] ty' #[.slice (some ⟨g,0,none⟩) a0.length c,.slice (some ⟨vb,0,none⟩) 1 vc]).run P W = .ok (.slice (some ⟨g,0,none⟩) (a0.length+1) c) (W.setRow g (putAt cur.toList (a0.length * tsz E ty) news).toArray):=fun ty'=>
    append_room t t ty' e i hu (.inl ⟨e,hu⟩) hi (hsrcV W p2) (base:=some ⟨g,0,none⟩) hroom (fun ad had=>by cases had;rw [hsz,add_lit,Nat.zero_add];exact hst) (fun h=>by cases h)
   subst hke
   rw [hv0]
   refine (at_end W _ _ _ a0.length c _ vb vc (by omega) q3 hrun).mono ?_
   rintro e' W' ⟨rfl,rfl⟩
   rw [← hv0]
   refine fin _ g c (putAt cur.toList (a0.length * tsz E ty) news) (max d d2) _ rfl (.inl hgm) (hcc.put (o:=a0.length * tsz E ty) (vs:=news) (by omega)) hroom q4 (by rw [putAt_length _ _ _ (by omega)];omega) ?_ setRow_same (by simp) (fun b hb hbg=>setRow_other W _ b _ hbg)
   have e1:(putAt cur.toList (a0.length * tsz E ty) news).take ((a0.length+1) * tsz E ty)=cur.toList.take (a0.length * tsz E ty)++news:=by
    unfold putAt
    have:(a0.length+1) * tsz E ty=(cur.toList.take (a0.length * tsz E ty)++news).length:=by rw [List.length_append,List.length_take,hnl];omega
    rw [this,List.take_left]
   rw [e1,List.take_length,List.drop_length,List.append_nil]
   exact hm1.append hm2
  ·exact endgrow _ c _ d hv0 hke (by omega) q3 hr (by
    have:=srcG W q2 0 a0.length c (by omega)
    rw [List.drop_zero] at this
    exact this)
 have hki:k<a0.length:=by omega
 have htail:(cur.toList.drop (k * tsz E ty)).take ((a0.length - k) * tsz E ty)=(cur.toList.take (a0.length * tsz E ty)).drop (k * tsz E ty):=by
  rw [hnk,List.drop_take]
 have htl:((cur.toList.drop (k * tsz E ty)).take ((a0.length - k) * tsz E ty)).length=(a0.length - k) * tsz E ty:=by
  rw [List.length_take,List.length_drop];omega
 have hones2:∀v∈(cur.toList.drop (k * tsz E ty)).take ((a0.length - k) * tsz E ty),v.oneCell'=true:=by
  rw [htail]
  exact fun v hv=>hr.ones v (List.mem_of_mem_drop hv)
 have htk:(cur.toList.take (a0.length * tsz E ty)).take (k * tsz E ty)=cur.toList.take (k * tsz E ty):=by rw [List.take_take,Nat.min_eq_left hkn]
 rw [htk,← htail] at hins
 have hsum:(a0.length+1) * tsz E ty=k * tsz E ty+tsz E ty+(a0.length - k) * tsz E ty:=by omega
 have h1s:1 * tsz E ty=tsz E ty:=Nat.one_mul _
 by_cases hroom:a0.length+1≤c
 ·-- in place
  have hsz2:(a0.length+1) * tsz E ty≤c * tsz E ty:=Nat.mul_le_mul_right _ hroom
  obtain ⟨fzv,hv1,hv2⟩:=p2
  obtain ⟨fzg,hg1,hg2⟩:=q2
  rw [hmk] at hv2 hg2
  have hfv:fzv=(0,0):=by rcases hv2 with h | h;exact h;exact absurd h.1 (by simp)
  have hfg:fzg=(0,0):=by rcases hg2 with h | h;exact h;exact absurd h.1 (by simp)
  subst hfv hfg
  have hcg:CellsAt ty.mk W g cur e:=.of hg1
  have hcv:CellsAt ty.mk W vb vcur e:=.of hv1
  have h0:=hov W vb g ((k+1) * tsz E ty) 1 vc (a0.length - k) (c - (k+1)) e e vcur.size cur.size hgv (by simp [World.shape?,hv1]) (by simp [World.shape?,hg1]) (by omega) (by simp [World.frozen?,hv1]) (by simp [World.frozen?,hv1])
  have hccd:CellsAt ty.mk W.drew g cur.toList.toArray e:=(hcg.congr rfl).arr
  have h2:∀ty',(Builtin.copy_ #[t,t] ty' #[.slice (some ⟨g,(k+1) * tsz E ty,none⟩) (a0.length+1 - (k+1)) (c - (k+1)),.slice (some ⟨g,k * tsz E ty,none⟩) (a0.length+1 - k) (c - k)]).run P W.drew = .ok (.int .i64 ((a0.length - k:Nat):Int)) (W.drew.setRow g (putAt cur.toList (k * tsz E ty+tsz E ty) ((cur.toList.drop (k * tsz E ty)).take ((a0.length - k) * tsz E ty))).toArray):=by
   intro ty'
   have hl:k * tsz E ty+(a0.length+1 - k) * tsz E ty≤cur.size:=by rw [Nat.sub_mul];omega
   have hmin:min (a0.length+1 - k) (a0.length+1 - (k+1))=a0.length - k:=by omega
   have hs:=srcG W.drew (hcg.congr rfl) (k * tsz E ty) (a0.length+1 - k) (c - k) hl
   have htt:(((cur.toList.drop (k * tsz E ty)).take ((a0.length+1 - k) * tsz E ty)).take ((a0.length - k) * tsz E ty))=(cur.toList.drop (k * tsz E ty)).take ((a0.length - k) * tsz E ty):=by
    rw [List.take_take,Nat.min_eq_left (Nat.mul_le_mul_right _ (by omega))]
   have:=run_copyR (P:=P) (W:=W.drew) (t:=t) (u:=t) (rty:=ty') (o:=(k+1) * tsz E ty) (dLen:=a0.length+1 - (k+1)) (dCap:=c - (k+1)) hu hi hs hccd (by rw [hmin,hsz];omega) (by rw [hmin,hsz,htt];exact hones2)
   rw [hmin,hsz,htt,hk1] at this
   rw [hk1]
   exact this
  have hW2:CellsAt ty.mk (W.drew.setRow g (putAt cur.toList (k * tsz E ty+tsz E ty) ((cur.toList.drop (k * tsz E ty)).take ((a0.length - k) * tsz E ty))).toArray) g (putAt cur.toList (k * tsz E ty+tsz E ty) ((cur.toList.drop (k * tsz E ty)).take ((a0.length - k) * tsz E ty))).toArray e:=hccd.put (o:=k * tsz E ty+tsz E ty) (vs:=(cur.toList.drop (k * tsz E ty)).take ((a0.length - k) * tsz E ty)) (by omega)
  obtain ⟨c1,hc1⟩:∃c1,c1=putAt cur.toList (k * tsz E ty+tsz E ty) ((cur.toList.drop (k * tsz E ty)).take ((a0.length - k) * tsz E ty)):=⟨_,rfl⟩
  have hc1l:c1.length=cur.size:=by rw [hc1,putAt_length _ _ _ (by omega)];exact hcl
  have hput:=(put_two (l:=cur.toList) (u:=news) (v:=(cur.toList.drop (k * tsz E ty)).take ((a0.length - k) * tsz E ty)) (a:=k * tsz E ty) hnl htl (by omega)).2
  rw [← hc1] at h2 hW2 hput
  have hcv2:CellsAt ty.mk (W.drew.setRow g c1.toArray) vb vcur e:=hcv.congr (setRow_other W.drew _ vb _ hgv)
  have h3':∀ty',(Builtin.copy_ #[t,t] ty' #[.slice (some ⟨g,k * tsz E ty,none⟩) (a0.length+1 - k) (c - k),.slice (some ⟨vb,0,none⟩) 1 vc]).run P (W.drew.setRow g c1.toArray) = .ok (.int .i64 1) ((W.drew.setRow g c1.toArray).setRow g (putAt c1 (k * tsz E ty) news).toArray):=by
   intro ty'
   have hmin:min 1 (a0.length+1 - k)=1:=by omega
   have hnt:news.take (tsz E ty)=news:=by rw [← hnl,List.take_length]
   have:=run_copyR (P:=P) (t:=t) (u:=t) (rty:=ty') (o:=k * tsz E ty) (dLen:=a0.length+1 - k) (dCap:=c - k) hu hi (hsrcV _ hcv2) hW2 (by rw [hmin,hsz,h1s];omega) (by rw [hmin,hsz,h1s,hnt];exact hones)
   rw [hmin,hsz,h1s,hnt] at this
   exact this
  rw [hv0]
  refine (shift W _ _ g a0.length c k vb vc hki hroom (by omega) h0 h2 h3').mono ?_
  rintro e' W' ⟨rfl,rfl⟩
  rw [← hv0]
  refine fin _ g c (putAt c1 (k * tsz E ty) news) (max d d2) _ rfl (.inl hgm) (hW2.put (o:=k * tsz E ty) (vs:=news) (by omega)) hroom q4 (by rw [putAt_length _ _ _ (by omega)];omega) ?_ ⟨rfl,rfl,rfl⟩ (by simp) (fun b hb hbg=>(setRow_other _ _ b _ hbg).trans (setRow_other W.drew _ b _ hbg))
  rw [hsum,hput]
  exact hins
 ·-- a new row
  have hce:c=a0.length:=by omega
  have hbnd:=grown_bounds (W:=W) (n:=a0.length+1) (c:=c) (e:=e) hby c4
  have hkk:k+(a0.length+1 - k)=a0.length+1:=by omega
  have hold:(Builtin.firstCells i.size k (.slice (some ⟨g,0,none⟩) k c)).run P W.drew = .ok (cur.toList.take (k * tsz E ty)).toArray W.drew:=by
   have:=(srcG W q2 0 k c (by omega)).first W.drew rfl
   rw [List.drop_zero] at this
   exact this
  obtain ⟨row,hrow⟩:∃row:List Value,row=cur.toList.take (k * tsz E ty)++((Builtin.zeroCells z.cells (a0.length+1 - k)).toList++(Builtin.zeroCells z.cells (grownCap W (a0.length+1) c e - (a0.length+1))).toList):=⟨_,rfl⟩
  have hrl:row.length=grownCap W (a0.length+1) c e * tsz E ty:=by
   rw [hrow,List.length_append,List.length_append,zeroCells_length,zeroCells_length,hzs,List.length_take,hcl,Nat.min_eq_left (by omega),← Nat.add_mul,← Nat.add_mul]
   congr 1;have:=hbnd.1;omega
  have hrt:row.take (k * tsz E ty)=cur.toList.take (k * tsz E ty):=by
   have hl:(cur.toList.take (k * tsz E ty)).length=k * tsz E ty:=by rw [List.length_take];omega
   rw [hrow,List.take_append_of_le_length (by omega),List.take_take,Nat.min_self]
  have hgr:(a0.length+1) * tsz E ty≤grownCap W (a0.length+1) c e * tsz E ty:=Nat.mul_le_mul_right _ hbnd.1
  have h1:∀ty',(Builtin.append_ #[t,3] ty' #[.slice (some ⟨g,0,none⟩) k c,.int .i64 ((a0.length:Int)+1 - k)]).run P W = .ok (.slice (some ⟨W.heap.size,0,none⟩) (a0.length+1) (grownCap W (a0.length+1) c e)) (W.drew.alloc (.cells row.toArray e)):=by
   intro ty'
   have h48:¬ ((a0.length+1 - k) * i.bytes > 281474976710656):=by
    have:(a0.length+1 - k) * i.bytes≤(a0.length+1) * i.bytes:=Nat.mul_le_mul_right _ (by omega)
    omega
   have:=Lib.run_append_grow_zeros (P:=P) W t 3 ty' e i z .i64 .i64 hu h3 hi hz (some ⟨g,0,none⟩) k c _ hold (a0.length+1 - k) (by omega) (by omega) (by omega) (by omega) (by omega) (by rw [hkk];have:=growslice_fits (bytes:=i.bytes) (show c<a0.length+1 by omega) c4;omega)
   rw [hkk] at this
   rw [show ((a0.length:Int)+1 - k)=((a0.length+1 - k:Nat):Int) by omega,this]
   congr 3
   apply Array.ext'
   rw [hrow]
   simp [List.append_assoc]
  have hnew:CellsAt ty.mk (W.drew.alloc (.cells row.toArray e)) W.heap.size row.toArray e:=.of (drewAlloc_new W _)
  have hold':∀b,b<W.heap.size→(W.drew.alloc (.cells row.toArray e)).heap[b]? = W.heap[b]?:=fun b hb=>drewAlloc_old W _ b hb
  have h2:∀ty',(Builtin.copy_ #[t,t] ty' #[.slice (some ⟨W.heap.size,k * tsz E ty,none⟩) (a0.length+1 - k) (grownCap W (a0.length+1) c e - k),.slice (some ⟨vb,0,none⟩) 1 vc]).run P (W.drew.alloc (.cells row.toArray e)) = .ok (.int .i64 1) ((W.drew.alloc (.cells row.toArray e)).setRow W.heap.size (putAt row (k * tsz E ty) news).toArray):=by
   intro ty'
   have hmin:min 1 (a0.length+1 - k)=1:=by omega
   have hnt:news.take (tsz E ty)=news:=by rw [← hnl,List.take_length]
   have:=run_copyR (P:=P) (t:=t) (u:=t) (rty:=ty') (o:=k * tsz E ty) (dLen:=a0.length+1 - k) (dCap:=grownCap W (a0.length+1) c e - k) hu hi (hsrcV _ (p2.congr (hold' vb vlt))) hnew (by rw [hmin,hsz,h1s];omega) (by rw [hmin,hsz,h1s,hnt];exact hones)
   rw [hmin,hsz,h1s,hnt] at this
   exact this
  have hW2:CellsAt ty.mk ((W.drew.alloc (.cells row.toArray e)).setRow W.heap.size (putAt row (k * tsz E ty) news).toArray) W.heap.size (putAt row (k * tsz E ty) news).toArray e:=hnew.put (o:=k * tsz E ty) (vs:=news) (by omega)
  obtain ⟨W2,hW2e⟩:∃W2,W2=(W.drew.alloc (.cells row.toArray e)).setRow W.heap.size (putAt row (k * tsz E ty) news).toArray:=⟨_,rfl⟩
  have hs2:W2.heap.size=W.heap.size+1:=by rw [hW2e];simp
  have hk2:∀b,b<W.heap.size→W2.heap[b]? = W.heap[b]?:=fun b hb=>by
   rw [hW2e,setRow_other _ _ b _ (by omega)];exact hold' b hb
  have hos2:W2.os=W.os∧W2.tape=W.tape∧W2.output=W.output:=by rw [hW2e];exact ⟨rfl,rfl,rfl⟩
  rw [← hW2e] at h2 hW2
  obtain ⟨c1,hc1⟩:∃c1,c1=putAt row (k * tsz E ty) news:=⟨_,rfl⟩
  have hc1l:c1.length=grownCap W (a0.length+1) c e * tsz E ty:=by rw [hc1,putAt_length _ _ _ (by omega)];exact hrl
  have hput:=(put_two (l:=row) (u:=news) (v:=(cur.toList.drop (k * tsz E ty)).take ((a0.length - k) * tsz E ty)) (a:=k * tsz E ty) hnl htl (by omega)).1
  rw [← hc1] at hW2 hput
  have hW2d:CellsAt ty.mk W2.drew W.heap.size c1.toArray e:=hW2.congr rfl
  have h3':∀ty',(Builtin.copy_ #[t,t] ty' #[.slice (some ⟨W.heap.size,(k+1) * tsz E ty,none⟩) (a0.length+1 - (k+1)) (grownCap W (a0.length+1) c e - (k+1)),.slice (some ⟨g,k * tsz E ty,none⟩) (a0.length - k) (c - k)]).run P W2.drew = .ok (.int .i64 ((a0.length - k:Nat):Int)) (W2.drew.setRow W.heap.size (putAt c1 (k * tsz E ty+tsz E ty) ((cur.toList.drop (k * tsz E ty)).take ((a0.length - k) * tsz E ty))).toArray):=by
   intro ty'
   have hmin:min (a0.length - k) (a0.length+1 - (k+1))=a0.length - k:=by omega
   have hs:=srcG W2.drew (q2.congr (hk2 g glt)) (k * tsz E ty) (a0.length - k) (c - k) (by omega)
   have htt:(((cur.toList.drop (k * tsz E ty)).take ((a0.length - k) * tsz E ty)).take ((a0.length - k) * tsz E ty))=(cur.toList.drop (k * tsz E ty)).take ((a0.length - k) * tsz E ty):=by
    rw [List.take_take,Nat.min_self]
   have:=run_copyR (P:=P) (t:=t) (u:=t) (rty:=ty') (o:=(k+1) * tsz E ty) (dLen:=a0.length+1 - (k+1)) (dCap:=grownCap W (a0.length+1) c e - (k+1)) hu hi hs hW2d (by rw [hmin,hsz];omega) (by rw [hmin,hsz,htt];exact hones2)
   rw [hmin,hsz,htt,hk1] at this
   rw [hk1]
   exact this
  rw [hv0]
  refine (grow W _ _ _ g W.heap.size a0.length c _ k vb vc hki q3 (by omega) (by omega) hbnd.1 (by omega) h1 h2 h3').mono ?_
  rintro e' W' ⟨rfl,rfl⟩
  rw [← hv0]
  refine fin _ W.heap.size (grownCap W (a0.length+1) c e) (putAt c1 (k * tsz E ty+tsz E ty) ((cur.toList.drop (k * tsz E ty)).take ((a0.length - k) * tsz E ty))) (max d d2) _ rfl (.inr (Nat.le_refl _)) (hW2d.put (o:=k * tsz E ty+tsz E ty) (vs:=(cur.toList.drop (k * tsz E ty)).take ((a0.length - k) * tsz E ty)) (by omega)) hbnd.1 hbnd.2 (by rw [putAt_length _ _ _ (by omega)];omega) ?_ hos2 (by simp;omega) (fun b hb hbg=>(setRow_other W2.drew _ b _ (by omega)).trans (hk2 b hb))
  rw [hsum,hput,hrt]
  exact hins
end Mir
namespace Mir
set_option linter.unusedVariables false
set_option linter.unusedSimpArgs false
open Go
variable {E:Env} {P:Program} {W W':World}
def delM {X:Type} (a0:List X) (a1 a2:Int):Option (List X):=
 bif decide (0≤a1)&&(decide (a1<a2)&&decide (a2≤(a0.length:Int))) then some (a0.take a1.toNat++a0.drop a2.toNat) else none
@[reducible] def delSpec (E:Env) (e:Nat) (ty:Ty):Spec E:={ ps:=[.mov false (.slice e ty),.val (.int .i64),.val (.int .i64)],rs:=[.slice e ty],own:=true,dp:=false,R:=List (Ty.D E.S ty),fn:=fun x=>delM x.1 x.2.1 x.2.2.1,res:=fun r=>(r,()),out:=fun r=>((),(),(),()),shut:=fun a b=>a.1,res_shut:=fun _ _=>rfl,out_shut:=fun _ _=>rfl }
theorem delete_sound {f t e:Nat} {ty:Ty} {i:TypeInfo} {z:Value} (hcal:Callee P f) (hu:P.underlying t=some (.slice e)) (hi:P.info? e=some i) (hz:i.zero=some z) (hzs:z.cells.size=tsz E ty) (hsz:i.size=tsz E ty) (hz1:∀v∈z.cells.toList,v.oneCell'=true)
  (del:∀(W W1 W2:World) (g n c i j:Nat),i<j→j≤n→n≤c→c≤9223372036854775807→
   (∀ty',(Builtin.append_ #[t,t] ty' #[.slice (some ⟨g,0,none⟩) i c,.slice (some (if c=j then ⟨g,0,none⟩ else ⟨g,j * tsz E ty,none⟩)) (n - j) (c - j)]).run P W.drew = .ok (.slice (some ⟨g,0,none⟩) (i+(n - j)) c) W1)→
   (∀ty',(Builtin.clear_ #[t] ty' #[.slice (some ⟨g,(i+(n - j)) * tsz E ty,none⟩) (n - (i+(n - j))) (c - (i+(n - j)))]).run P W1 = .ok (.tuple #[]) W2)→
   Calls P f #[.slice (some ⟨g,0,none⟩) n c,.int .i64 i,.int .i64 j] W fun e w'=>e = .returned (.slice (some ⟨g,0,none⟩) (i+(n - j)) c)∧w'=W2) :
  Sound P E f (delSpec E e ty):=by
 refine ⟨hcal,?_⟩
 rintro W F ⟨a0,a1,a2,_⟩ r args fpM hfn ⟨v0,r0,f0,g0,rfl,rfl,h0,v1,r1,f1,g1,rfl,rfl,⟨⟨d1,h1⟩,rfl⟩,v2,r2,f2,g2,rfl,rfl,⟨⟨d2,h2⟩,rfl⟩,rfl,rfl⟩ hnd hdis hF
 have h0:ShA E W F e ty a0 v0 f0:=h0
 obtain rfl:v1 = .int .i64 a1:=by cases d1<;>exact h1
 obtain rfl:v2 = .int .i64 a2:=by cases d2<;>exact h2
 have hfn:delM a0 a1 a2=some r:=hfn
 unfold delM at hfn
 cases hc:(decide (0≤a1)&&(decide (a1<a2)&&decide (a2≤(a0.length:Int)))) with
 | false=>rw [hc] at hfn;cases hfn
 | true=>
 rw [hc,cond_true] at hfn
 cases hfn
 simp only [Bool.and_eq_true,decide_eq_true_eq] at hc
 obtain ⟨c1,c2,c3⟩:=hc
 obtain ⟨p,rfl⟩:=Int.eq_ofNat_of_zero_le c1
 obtain ⟨q,rfl⟩:=Int.eq_ofNat_of_zero_le (Int.le_trans (Int.natCast_nonneg p) (Int.le_of_lt c2))
 have c2:(p:Int)<(q:Int):=c2
 have c3:(q:Int)≤(a0.length:Int):=c3
 have c2:p<q:=by omega
 have c3:q≤a0.length:=by omega
 simp only [List.append_nil,List.nil_append] at hnd hdis ⊢
 have hpos:0<tsz E ty:=tsz_pos E ty
 rcases h0 with ⟨A,hv0,hnil,rfl⟩ | ⟨g,c,cur,d,hv0,hf0,q1,q2,q3,q4,q5,q6⟩
 ·have hnil:a0=[]:=hnil
  subst hnil
  simp at c3;omega
 have q3:a0.length≤c:=q3
 have q6:∀(i:Nat) (hi:i<a0.length),RoE E (RoA E W F d) ty a0[i] ((cur.toList.drop (i * tsz E ty)).take (tsz E ty)):=q6
 have hv0:v0 = .slice (some ⟨g,0,none⟩) a0.length c:=hv0
 have hr:=row_cells (G:=⟨fun _=>0,fun _=>undef,fun _=>0,fun _=>0,fun _ _ _=>undef,fun _=>[],F⟩) (W:=W) (id:=0) (e:=e) q5 q3 q6
 have hr:RowC E W F d ty a0 (cur.toList.take (a0.length * tsz E ty)):=hr
 have hcl:cur.toList.length=cur.size:=by simp
 have hgm:g∈f0:=by rw [hf0];simp
 have hgF:¬ F g:=hdis g hgm
 have hmL:maxLen≤9223372036854775807:=by unfold maxLen;omega
 have ha0:a0.length * tsz E ty≤c * tsz E ty:=Nat.mul_le_mul_right _ q3
 have hp0:p * tsz E ty≤q * tsz E ty:=Nat.mul_le_mul_right _ (by omega)
 have hq0:q * tsz E ty≤a0.length * tsz E ty:=Nat.mul_le_mul_right _ c3
 have hnq:(a0.length - q) * tsz E ty=a0.length * tsz E ty - q * tsz E ty:=Nat.sub_mul ..
 have hpn:(p+(a0.length - q)) * tsz E ty=p * tsz E ty+(a0.length - q) * tsz E ty:=Nat.add_mul ..
 have hnp:(a0.length - (p+(a0.length - q))) * tsz E ty=a0.length * tsz E ty - (p+(a0.length - q)) * tsz E ty:=Nat.sub_mul ..
 obtain ⟨tail,htail⟩:∃tail,tail=(cur.toList.take (a0.length * tsz E ty)).drop (q * tsz E ty):=⟨_,rfl⟩
 have htl:tail.length=(a0.length - q) * tsz E ty:=by rw [htail,List.length_drop,List.length_take];omega
 have htail':tail=(cur.toList.drop (q * tsz E ty)).take ((a0.length - q) * tsz E ty):=by rw [htail,List.drop_take,hnq]
 have hones:∀v∈tail,v.oneCell'=true:=by rw [htail];exact fun v hv=>hr.ones v (List.mem_of_mem_drop hv)
 have hccd:CellsAt ty.mk W.drew g cur.toList.toArray e:=(q2.congr rfl).arr
 have hsrc:Src P W.drew i.size (.slice (some (if c=q then ⟨g,0,none⟩ else ⟨g,q * tsz E ty,none⟩)) (a0.length - q) (c - q)) (a0.length - q) tail:=by
  by_cases hcq:c=q
  ·have hz0:a0.length - q=0:=by omega
   have ht0:tail=[]:=List.eq_nil_of_length_eq_zero (by rw [htl,hz0,Nat.zero_mul])
   rw [hz0,ht0]
   exact Src.slice (by simp) (fun h=>absurd h (by simp)) (fun _=>rfl)
  ·rw [if_neg hcq,htail',hsz]
   exact CellsAt.src (P:=P) (W:=W.drew) (cur:=cur.toList) hccd hpos (by omega)
 have hst:=run_putC (P:=P) (o:=p * tsz E ty) (vs:=tail) hccd (by omega) hones
 obtain ⟨k1,hk1⟩:∃k1,k1=putAt cur.toList (p * tsz E ty) tail:=⟨_,rfl⟩
 have hk1l:k1.length=cur.size:=by rw [hk1,putAt_length _ _ _ (by omega)];exact hcl
 have hW1:CellsAt ty.mk (W.drew.setRow g k1.toArray) g k1.toArray e:=by rw [hk1];exact hccd.put (o:=p * tsz E ty) (vs:=tail) (by omega)
 have h1:∀ty',(Builtin.append_ #[t,t] ty' #[.slice (some ⟨g,0,none⟩) p c,.slice (some (if c=q then ⟨g,0,none⟩ else ⟨g,q * tsz E ty,none⟩)) (a0.length - q) (c - q)]).run P W.drew = .ok (.slice (some ⟨g,0,none⟩) (p+(a0.length - q)) c) (W.drew.setRow g k1.toArray):=fun ty'=>
  append_room t t ty' e i hu (.inl ⟨e,hu⟩) hi hsrc (base:=some ⟨g,0,none⟩) (by omega) (fun ad had=>by cases had;rw [hsz,add_lit,Nat.zero_add,hk1];exact hst) (fun h=>by cases h)
 have hzl:(Builtin.zeroCells z.cells (a0.length - (p+(a0.length - q)))).toList.length=(a0.length - (p+(a0.length - q))) * tsz E ty:=by rw [zeroCells_length,hzs]
 have h2:∀ty',(Builtin.clear_ #[t] ty' #[.slice (some ⟨g,(p+(a0.length - q)) * tsz E ty,none⟩) (a0.length - (p+(a0.length - q))) (c - (p+(a0.length - q)))]).run P (W.drew.setRow g k1.toArray) = .ok (.tuple #[]) ((W.drew.setRow g k1.toArray).setRow g (putAt k1 ((p+(a0.length - q)) * tsz E ty) (Builtin.zeroCells z.cells (a0.length - (p+(a0.length - q)))).toList).toArray):=fun ty'=>
  run_clearR (i:=i) hu hi hz hW1 (by omega) (by rw [hzs];omega) (fun v hv=>by
   obtain ⟨w,hw,rfl⟩:=List.getElem_of_mem hv
   have hw':w<(a0.length - (p+(a0.length - q))) * z.cells.size:=by rw [zeroCells_length] at hw;exact hw
   have hz0:0<z.cells.size:=by omega
   have hm:w % z.cells.size<z.cells.size:=Nat.mod_lt _ hz0
   have:(Builtin.zeroCells z.cells (a0.length - (p+(a0.length - q)))).toList[w]=z.cells[w % z.cells.size]:=by
    have e1:=getElem!_pos z.cells (w % z.cells.size) hm
    simp [Builtin.zeroCells,e1]
   rw [this]
   exact hz1 _ (by simp))
 refine (show Calls P f #[v0,.int .i64 (p:Int),.int .i64 (q:Int)] W _ from ?_)
 rw [hv0]
 refine (del W _ _ g a0.length c p q c2 c3 q3 (by omega) h1 h2).mono ?_
 rintro e' W' ⟨rfl,rfl⟩
 have hrl:(a0.take p++a0.drop q).length=p+(a0.length - q):=by simp only [List.length_append,List.length_take,List.length_drop];omega
 have hW2:=hW1.put (o:=(p+(a0.length - q)) * tsz E ty) (vs:=(Builtin.zeroCells z.cells (a0.length - (p+(a0.length - q)))).toList) (by omega)
 have hcells:(putAt k1 ((p+(a0.length - q)) * tsz E ty) (Builtin.zeroCells z.cells (a0.length - (p+(a0.length - q)))).toList).take ((p+(a0.length - q)) * tsz E ty)=(cur.toList.take (a0.length * tsz E ty)).take (p * tsz E ty)++(cur.toList.take (a0.length * tsz E ty)).drop (q * tsz E ty):=by
  have e1:(putAt k1 ((p+(a0.length - q)) * tsz E ty) (Builtin.zeroCells z.cells (a0.length - (p+(a0.length - q)))).toList).take ((p+(a0.length - q)) * tsz E ty)=k1.take ((p+(a0.length - q)) * tsz E ty):=by
   unfold putAt
   have hl:(k1.take ((p+(a0.length - q)) * tsz E ty)).length=(p+(a0.length - q)) * tsz E ty:=by rw [List.length_take];omega
   rw [List.append_assoc,List.take_append_of_le_length (by omega),List.take_take,Nat.min_self]
  rw [e1,hk1,← htail,List.take_take,Nat.min_eq_left (by omega),hpn,← htl]
  unfold putAt
  have hl:(cur.toList.take (p * tsz E ty)++tail).length=p * tsz E ty+tail.length:=by rw [List.length_append,List.length_take];omega
  rw [← hl,List.take_left]
 refine ⟨_,rfl,?_⟩
 rw [← hv0,← hrl]
 refine left_row (d:=d) (cur:=putAt k1 ((p+(a0.length - q)) * tsz E ty) (Builtin.zeroCells z.cells (a0.length - (p+(a0.length - q)))).toList) rfl HEq.rfl ⟨_,_,[],[],rfl,rfl,rfl,_,_,[],[],rfl,rfl,rfl,_,_,[],[],rfl,rfl,rfl,rfl,rfl⟩ rfl rfl hF (.inl hgm) hgF ?_ q1 (by rw [hrl];omega) q4 ?_ ?_ ⟨rfl,rfl,rfl⟩ (by simp) (fun b hb hn=>?_)
 ·rw [hrl];exact hW2
 ·rw [putAt_length _ _ _ (by omega)];omega
 ·rw [hrl,hcells]
  have:=(hr.take p (by omega)).append (hr.drop q c3)
  refine this.more (fun _ h=>h) (fun b hb=>?_) (Nat.le_refl _)
  have hbg:b≠g:=fun h=>hgF (h▸hb)
  exact (setRow_other _ _ b _ hbg).trans (setRow_other W.drew _ b _ hbg)
 ·have hbg:b≠g:=fun h=>hn (h▸hgm)
  exact (setRow_other _ _ b _ hbg).trans (setRow_other W.drew _ b _ hbg)
end Mir
