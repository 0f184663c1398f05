/- NodeTake: messages, votes. -/
import Derived.Test.YtcgniikapdcfmaaRCRB
namespace Mir.Y
set_option linter.unusedVariables false
set_option linter.unusedSimpArgs false
open Go
def entsB (m:Message):Bool:=logB m.Entries m.Term&&((decide (m.Entries.length=0)||decide ((ex m.Entries 0).Term≥m.LogTerm))&&(decide (m.Index > 0)||(m.LogTerm==0)))
def msgB (m:Message):Bool:=inB m.Kind 1 4&&(inB m.From 0 6&&(inB m.To 0 6&&(!(m.From==m.To)&&(inB m.Term 1 1000000&&(inB m.Index 0 60&&(inB m.LogTerm 0 m.Term&&(inB m.Commit 0 60&&bif m.Kind != 3 then decide (m.Entries.length=0) else decide ((m.Entries.length:Int)≤60 - m.Index)&&entsB m)))))))
theorem inB_iff {a lo hi:Int}:inB a lo hi=true↔lo≤a∧a≤hi:=by
 unfold inB;simp
def downN (x:Node):Node:=⟨x.Id,x.Term,x.Vote,x.Log,x.Start,0,[],List.replicate 7 1,List.replicate 7 0,x.Commit,x.Elapsed,x.Wait,x.Up⟩
theorem downS {N:Nat} (hN:Big N) (x:Node) (n7:x.Next.length=7) (m7:x.Match.length=7):spec_l10Down.m N x=some (downN x):=by
 unfold spec_l10Down.m spec_l10Down.m0 spec_l10Down.lp4
 have:=miter_up (step:=fun rec=>spec_l10Down.step4 N x rec) (n:=7) (st:=fun j=>((j:Int),(0:Int),([]:List Int),List.replicate j (1:Int)++x.Next.drop j,List.replicate j (0:Int)++x.Match.drop j,(0:Int),(0:Int),(0:Int),(0:Int),(0:Int),(0:Int),(0:Int))) (r:=some (downN x)) (fun j hj rec=>by
  have l1:=fill7 (v:=1) n7 j (by omega)
  have l2:=fill7 (v:=0) m7 j (by omega)
  simp only [spec_l10Down.step4,decide_eq_true (show (j:Int)<7 by omega),nn_dec,l1,l2,decide_eq_true (show (j:Int)<((7:Nat):Int) by omega),cond_true,Int.toNat_natCast]
  rw [w_up j 7 hj (by omega),set7 n7 hj,set7 m7 hj]) (fun rec=>by
  have d1:x.Next.drop 7=[]:=List.drop_of_length_le (by rw [n7];omega)
  have d2:x.Match.drop 7=[]:=List.drop_of_length_le (by rw [m7];omega)
  simp only [spec_l10Down.step4,d1,d2,List.append_nil]
  rw [decide_eq_false (show ¬ ((7:Nat):Int)<7 by omega),cond_false]
  rfl) 7 0 N (by omega) (by omega)
 exact this
theorem GN.down {x:Node} (h:GN x):GN (downN x):=⟨⟨h.sz.Log,h.sz.Start,Nat.zero_le _,by show (List.replicate 7 _).length≤_;simp [M20],by show (List.replicate 7 _).length≤_;simp [M20]⟩,h.da,h.mm,h.st,h.c0,h.c1,by show (List.replicate 7 _).length=7;simp,by show (List.replicate 7 _).length=7;simp,fun j hj=>by
 show 1≤ix (List.replicate 7 1) j∧ix (List.replicate 7 1) j≤(x.Log.length:Int)+1
 rw [rep7 _ hj];omega,h.ll⟩
structure GT (x:Node):Prop where
 g:GN x
 vt:idsB (ix x.Votes) x.Votes.length=true
 mt:∀j,j<7→0≤ix x.Match j∧ix x.Match j≤ix x.Next j - 1
theorem GT.of {x:Node} (hs:NodeSz x M20) (hd:NodeData x) (hk:okB x=true):GT x:=by
 have o:=okN hk
 refine ⟨GN.of hs hd hk,?_,fun j hj=>?_⟩
 ·unfold okB at hk
  simp only [Bool.and_eq_true,decide_eq_true_eq] at hk
  exact hk.2.2.2.2.1
 ·have hn:=o.nx j hj
  have hl:=o.ll
  unfold okB at hk
  simp only [Bool.and_eq_true,decide_eq_true_eq] at hk
  obtain ⟨_,_,_,_,_,_,_,_,_,_,_,hr,_⟩:=hk
  unfold reachB at hr
  rw [allF_iff] at hr
  have:=hr j (Nat.zero_le _) (by omega)
  unfold reachP inB at this
  simp only [Bool.and_eq_true,decide_eq_true_eq] at this
  rw [w_small (x:=ix x.Next j - 1) (by omega) (by omega)] at this
  exact this.2
theorem GT.down {x:Node} (h:GT x):GT (downN x):=⟨h.g.down,rfl,fun j hj=>by
 show 0≤ix (List.replicate 7 0) j∧ix (List.replicate 7 0) j≤ix (List.replicate 7 1) j - 1
 rw [rep7 _ hj,rep7 _ hj];omega⟩
def bumpN (x:Node) (t:Int):Node:=⟨x.Id,t,-1,x.Log,x.Start,x.Role,x.Votes,x.Next,x.Match,x.Commit,x.Elapsed,x.Wait,x.Up⟩
theorem GT.bump {x:Node} (h:GT x) (t:Int):GT (bumpN x t):=⟨⟨⟨h.g.sz.Log,h.g.sz.Start,h.g.sz.Votes,h.g.sz.Next,h.g.sz.Match⟩,h.g.da,h.g.mm,h.g.st,h.g.c0,h.g.c1,h.g.n7,h.g.m7,h.g.nx,h.g.ll⟩,h.vt,h.mt⟩
def upB (y:Node) (i t:Int):Bool:=decide (t > tv y (y.Log.length:Int))||((t==tv y (y.Log.length:Int))&&decide (i≥(y.Log.length:Int)))
theorem upS {N:Nat} (y:Node) (hl:y.Log.length≤100) (i t:Int):spec_l10UpToDate.m N y i t=some (upB y i t):=by
 unfold spec_l10UpToDate.m upB
 rw [termV y _ (by omega) (Int.le_refl _) hl,ob_some]
 cases decide (t > tv y (y.Log.length:Int)) with
 | true=>rfl
 | false=>cases t==tv y (y.Log.length:Int)<;>rfl
def grB (y:Node) (m:Message):Bool:=(m.Term==y.Term)&&(((y.Vote == -1)||(y.Vote==m.From))&&upB y m.Index m.LogTerm)
def voteN (y:Node) (c:Int):Node:=⟨y.Id,y.Term,c,y.Log,y.Start,y.Role,y.Votes,y.Next,y.Match,y.Commit,0,y.Wait,y.Up⟩
def voteR (y:Node) (m:Message):Node×List Message:=(bif grB y m then voteN y m.From else y,[⟨2,y.Id,m.From,y.Term,0,0,0,[],grB y m⟩])
def posV (f:Int):List Int→Nat
 | []=>0
 | v::r=>bif decide (v<f) then posV f r+1 else 0
theorem pos_le (f:Int):∀a:List Int,posV f a≤a.length
 | []=>Nat.le_refl _
 | v::r=>by
  have:=pos_le f r
  rw [posV,List.length_cons]
  cases decide (v<f)
  ·exact Nat.zero_le _
  ·exact Nat.succ_le_succ this
theorem pos_lt (f:Int):∀(a:List Int) (j:Nat),j<posV f a→ix a j<f
 | [],j,h=>absurd h (Nat.not_lt_zero _)
 | v::r,j,h=>by
  rw [posV] at h
  by_cases hv:v<f
  ·rw [decide_eq_true hv,cond_true] at h
   cases j with
   | zero=>exact hv
   | succ j=>exact pos_lt f r j (by omega)
  ·rw [decide_eq_false hv,cond_false] at h;omega
theorem pos_at (f:Int):∀a:List Int,posV f a<a.length→f≤ix a (posV f a)
 | [],h=>absurd h (Nat.not_lt_zero _)
 | v::r,h=>by
  rw [posV] at h ⊢
  by_cases hv:v<f
  ·rw [decide_eq_true hv,cond_true] at h ⊢
   exact pos_at f r (by rw [List.length_cons] at h;omega)
  ·rw [decide_eq_false hv,cond_false];show f≤v;omega
theorem ids_lt {a:List Int} (h:idsB (ix a) a.length=true):∀i j,i<j→j<a.length→ix a i<ix a j:=by
 unfold idsB at h
 rw [allF_iff] at h
 intro i j
 induction j with
 | zero=>intro h1;omega
 | succ j ih=>
  intro h1 h2
  have:=h (j+1) (Nat.zero_le _) (by omega)
  simp only [Bool.and_eq_true,Bool.not_eq_true',Bool.and_eq_false_iff,decide_eq_false_iff_not] at this
  have h3:ix a j<ix a (j+1):=by rcases this.2 with h | h;omega;rw [Nat.add_sub_cancel] at h;omega
  by_cases hi:i=j
  ·rw [hi];exact h3
  ·have:=ih (by omega) (by omega);omega
theorem has_pos {a:List Int} (h:idsB (ix a) a.length=true) (f:Int):hasB a f=(decide (posV f a<a.length)&&(ix a (posV f a)==f)):=by
 rw [Bool.eq_iff_iff,hasB_iff]
 simp only [Bool.and_eq_true,decide_eq_true_eq,beq_iff_eq]
 constructor
 ·intro hm
  obtain ⟨j,hj,he⟩:=List.getElem_of_mem hm
  have hx:ix a j=f:=by rw [ix,getD_at hj];exact he
  have h1:¬ j<posV f a:=fun hl=>by have:=pos_lt f a j hl;omega
  have h2:=pos_at f a (by omega)
  by_cases e:posV f a=j
  ·exact ⟨by omega,by rw [e];exact hx⟩
  ·have:=ids_lt h (posV f a) j (by omega) hj;omega
 ·rintro ⟨h1,h2⟩
  rw [← h2];exact ix_mem h1
def insV (a:List Int) (f:Int):List Int:=(a.take (posV f a)++[f])++a.drop (posV f a)
theorem insV_len (a:List Int) (f:Int):(insV a f).length=a.length+1:=by
 have:=pos_le f a
 unfold insV
 simp;omega
def winR (z:Node):Node×List Message:=
 bif mostB (hasB z.Votes) (mems z) then (withC (leadN z) (advC (leadN z) (mems z) (leadL z).length),told (leadN z) (mems z)) else (z,[])
def withV (y:Node) (v:List Int):Node:=⟨y.Id,y.Term,y.Vote,y.Log,y.Start,y.Role,v,y.Next,y.Match,y.Commit,y.Elapsed,y.Wait,y.Up⟩
theorem GN.withV {x:Node} (h:GN x) {v:List Int} (hv:v.length≤M20):GN (withV x v):=⟨⟨h.sz.Log,h.sz.Start,hv,h.sz.Next,h.sz.Match⟩,h.da,h.mm,h.st,h.c0,h.c1,h.n7,h.m7,h.nx,h.ll⟩
def votedR (y:Node) (m:Message):Node×List Message:=
 bif y.Role != 1 then (y,[]) else bif m.Term != y.Term then (y,[]) else bif !m.Ok then (y,[]) else
 bif !hasB y.Votes m.From then winR (withV y (insV y.Votes m.From)) else winR y
def stay (L:List Entry) (k:Nat) (es:List Entry) (i:Nat):Bool:=decide (k+i<L.length)&&((ex L (k+i)).Term==(ex es i).Term)
def stoD (L:List Entry) (k:Nat) (es:List Entry):Nat→Nat→Nat
 | 0,i=>i
 | n+1,i=>bif stay L k es i then stoD L k es n (i+1) else i
theorem stoD_all (L:List Entry) (k:Nat) (es:List Entry):∀n i,i≤stoD L k es n i∧stoD L k es n i≤i+n∧(∀j,i≤j→j<stoD L k es n i→stay L k es j=true)∧(stoD L k es n i<i+n→stay L k es (stoD L k es n i)=false)
 | 0,i=>⟨Nat.le_refl _,Nat.le_refl _,fun j h1 h2=>absurd h2 (by show ¬ j<i;omega),fun h=>absurd h (by show ¬ i<i+0;omega)⟩
 | n+1,i=>by
  rw [stoD]
  cases hs:stay L k es i with
  | false=>rw [cond_false];exact ⟨Nat.le_refl _,by omega,fun j h1 h2=>by omega,fun _=>hs⟩
  | true=>
   rw [cond_true]
   obtain ⟨a,b,c,d⟩:=stoD_all L k es n (i+1)
   refine ⟨by omega,by omega,fun j h1 h2=>?_,fun h=>d (by omega)⟩
   by_cases e:j=i
   ·rw [e];exact hs
   ·exact c j (by omega) h2
def stoL (L:List Entry) (k:Nat) (es:List Entry):List Entry:=if stoD L k es es.length 0<es.length then L.take (k+stoD L k es es.length 0)++es.drop (stoD L k es es.length 0) else L
def comN (c i mc:Int):Int:=if c<(if i<mc then i else mc) then (if i<mc then i else mc) else c
def hintV (y:Node) (m:Message):Int:=if (if (0:Int)<m.Index - 1 then m.Index - 1 else 0)<(y.Log.length:Int) then (if (0:Int)<m.Index - 1 then m.Index - 1 else 0) else (y.Log.length:Int)
def fresh (x:Node):Node:=⟨x.Id,x.Term,x.Vote,x.Log,x.Start,0,[],List.replicate 7 1,List.replicate 7 0,x.Commit,0,x.Wait,x.Up⟩
def withLC (x:Node) (l:List Entry) (c:Int):Node:=⟨x.Id,x.Term,x.Vote,l,x.Start,x.Role,x.Votes,x.Next,x.Match,c,x.Elapsed,x.Wait,x.Up⟩
def backM (y:Node) (m:Message):Message:=⟨4,y.Id,m.From,y.Term,hintV y m,0,0,[],false⟩
def goodM (y:Node) (m:Message):Message:=⟨4,y.Id,m.From,y.Term,m.Index+m.Entries.length,0,0,[],true⟩
def entR (y:Node) (m:Message):Node×List Message:=
 bif decide (m.Term<y.Term) then (y,[backM y m]) else
 bif decide (m.Index > (y.Log.length:Int))||(tv y m.Index != m.LogTerm) then (fresh y,[backM y m]) else
 (withLC (fresh y) (stoL y.Log m.Index.toNat m.Entries) (comN y.Commit (m.Index+m.Entries.length) m.Commit),[goodM y m])
theorem stay_len {L:List Entry} {k:Nat} {es:List Entry} {i:Nat} (h:stay L k es i=true):k+i<L.length∧((ex L (k+i)).Term==(ex es i).Term)=true:=by
 unfold stay at h
 simpa using h
theorem sto_len {L:List Entry} {k:Nat} {es:List Entry} (hk:k≤L.length):k+stoD L k es es.length 0≤L.length:=by
 obtain ⟨_,_,c,_⟩:=stoD_all L k es es.length 0
 by_cases h:stoD L k es es.length 0=0
 ·omega
 ·have:=(stay_len (c (stoD L k es es.length 0 - 1) (Nat.zero_le _) (by omega))).1;omega
def withNM (x:Node) (nx mt:List Int):Node:=⟨x.Id,x.Term,x.Vote,x.Log,x.Start,x.Role,x.Votes,nx,mt,x.Commit,x.Elapsed,x.Wait,x.Up⟩
def mtV (y:Node) (m:Message):Int:=if ix y.Match m.From.toNat<(if (y.Log.length:Int)<m.Index then (y.Log.length:Int) else m.Index) then (if (y.Log.length:Int)<m.Index then (y.Log.length:Int) else m.Index) else ix y.Match m.From.toNat
def nxV (y:Node) (m:Message):Int:=if ix y.Next m.From.toNat<mtV y m+1 then mtV y m+1 else ix y.Next m.From.toNat
def bkV (y:Node) (m:Message):Int:=if ix y.Match m.From.toNat+1<(if m.Index+1<ix y.Next m.From.toNat - 1 then m.Index+1 else ix y.Next m.From.toNat - 1) then (if m.Index+1<ix y.Next m.From.toNat - 1 then m.Index+1 else ix y.Next m.From.toNat - 1) else ix y.Match m.From.toNat+1
def okAns (y:Node) (m:Message):Node:=withNM y (y.Next.set m.From.toNat (nxV y m)) (y.Match.set m.From.toNat (mtV y m))
def bkAns (y:Node) (m:Message):Node:=withNM y (y.Next.set m.From.toNat (bkV y m)) y.Match
def ansR (y:Node) (m:Message):Node×List Message:=
 bif y.Role != 2 then (y,[]) else bif m.Term != y.Term then (y,[]) else
 bif m.Ok then (withC (okAns y m) (advC (okAns y m) (mems y) y.Log.length),[]) else (bkAns y m,[msgTo (bkAns y m) m.From])
theorem ix_set {l:List Int} {i:Nat} (hi:i<l.length) (v:Int) (j:Nat):ix (l.set i v) j=if j=i then v else ix l j:=by
 unfold ix
 rw [List.getD_eq_getElem?_getD,List.getElem?_set]
 by_cases h:j=i
 ·subst h;rw [if_pos rfl,if_pos rfl,if_pos hi];rfl
 ·rw [if_neg (by omega),if_neg h,← List.getD_eq_getElem?_getD]
theorem GN.nm {x:Node} (h:GN x) {nx mt:List Int} (h1:nx.length=7) (h2:mt.length=7) (h3:∀j,j<7→1≤ix nx j∧ix nx j≤x.Log.length+1):GN (withNM x nx mt):=⟨⟨h.sz.Log,h.sz.Start,h.sz.Votes,by show nx.length≤_;rw [h1];simp [M20],by show mt.length≤_;rw [h2];simp [M20]⟩,h.da,h.mm,h.st,h.c0,h.c1,h1,h2,h3,h.ll⟩
theorem GT.okAns {y:Node} (h:GT y) {m:Message} (f0:0≤m.From) (f6:m.From≤6) (h0:0≤m.Index):0≤mtV y m∧mtV y m≤y.Log.length∧GN (okAns y m):=by
 have hm:=h.mt m.From.toNat (by omega)
 have hn:=h.g.nx m.From.toNat (by omega)
 have b1:0≤mtV y m∧mtV y m≤y.Log.length:=by unfold mtV;split<;>split<;>omega
 refine ⟨b1.1,b1.2,h.g.nm (by rw [List.length_set];exact h.g.n7) (by rw [List.length_set];exact h.g.m7) fun j hj=>?_⟩
 rw [ix_set (by rw [h.g.n7];omega)]
 split
 ·unfold nxV;split<;>omega
 ·exact h.g.nx j hj
theorem GT.bkAns {y:Node} (h:GT y) {m:Message} (f0:0≤m.From) (f6:m.From≤6) (h0:0≤m.Index):GN (bkAns y m):=by
 have hm:=h.mt m.From.toNat (by omega)
 have hn:=h.g.nx m.From.toNat (by omega)
 refine h.g.nm (by rw [List.length_set];exact h.g.n7) h.g.m7 fun j hj=>?_
 rw [ix_set (by rw [h.g.n7];omega)]
 split
 ·unfold bkV;split<;>split<;>omega
 ·exact h.g.nx j hj
def kindR (y:Node) (m:Message):Node×List Message:=bif m.Kind==1 then voteR y m else bif m.Kind==2 then votedR y m else bif m.Kind==3 then entR y m else ansR y m
def atTerm (x:Node) (m:Message):Node:=bif decide (m.Term > x.Term) then downN (bumpN x m.Term) else x
def takeR (x:Node) (m:Message):Node×List Message:=kindR (atTerm x m) m
structure MsgOk (m:Message):Prop where
 kind:m.Kind=1∨m.Kind=2∨m.Kind=3∨m.Kind=4
 f0:0≤m.From
 f6:m.From≤6
 i0:0≤m.Index
 i60:m.Index≤60
 ents:(m.Entries.length:Int)≤60 - m.Index
theorem MsgOk.of {m:Message} (h:msgB m=true):MsgOk m:=by
 unfold msgB at h
 simp only [Bool.and_eq_true,inB_iff] at h
 obtain ⟨k,f,_,_,_,i,_,_,e⟩:=h
 refine ⟨by omega,f.1,f.2,i.1,i.2,?_⟩
 cases hk:m.Kind != 3 with
 | true=>rw [hk,cond_true,decide_eq_true_eq] at e;omega
 | false=>rw [hk,cond_false,Bool.and_eq_true,decide_eq_true_eq] at e;exact e.1
theorem GT.atTerm {x:Node} (h:GT x) (m:Message):GT (atTerm x m):=by
 unfold Mir.Y.atTerm
 cases decide (m.Term > x.Term) with
 | true=>exact (h.bump _).down
 | false=>exact h
theorem GN.vote {x:Node} (h:GN x) (c:Int):GN (voteN x c):=⟨⟨h.sz.Log,h.sz.Start,h.sz.Votes,h.sz.Next,h.sz.Match⟩,h.da,h.mm,h.st,h.c0,h.c1,h.n7,h.m7,h.nx,h.ll⟩
theorem GN.fresh {x:Node} (h:GN x):GN (fresh x):=by
 have d:=h.down
 exact ⟨⟨d.sz.Log,d.sz.Start,d.sz.Votes,d.sz.Next,d.sz.Match⟩,d.da,d.mm,d.st,d.c0,d.c1,d.n7,d.m7,d.nx,d.ll⟩
end Mir.Y
