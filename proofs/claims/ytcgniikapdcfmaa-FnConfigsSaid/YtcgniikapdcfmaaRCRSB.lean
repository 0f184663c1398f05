/- FnConfigs: a node set in its place; a group in the reference's run. -/
import Derived.Test.YtcgniikapdcfmaaRCRSA
namespace Mir.Y
set_option linter.unusedVariables false
set_option linter.unusedSimpArgs false
open Go
theorem getD_mem {α:Type} {a:List α} {i:Nat} (h:i<a.length) (d:α):a.getD i d∈a:=by
 rw [getD_at h];exact List.getElem_mem h
theorem take_s {α:Type} {a:List α} {i:Nat} (h:i<a.length) (d:α):a.take (i+1)=a.take i++[a.getD i d]:=by
 rw [List.take_add_one,List.getElem?_eq_getElem h,getD_at h];rfl
def ndOf (st:List Int) (l:List Node) (v:Int):Node:=if 0≤v∧v<(l.length:Int) then l.getD v.toNat Node.dz else node0 v st
theorem ndOf_in (st:List Int) {l:List Node} {v:Int} (h0:0≤v) (h1:v<l.length):ndOf st l v=l.getD v.toNat Node.dz:=if_pos ⟨h0,h1⟩
theorem ndOf_set (st:List Int) {l:List Node} {v:Int} (h0:0≤v) (h1:v<l.length) (x:Node):ndOf st (l.set v.toNat x)=upd (ndOf st l) v x:=by
 funext w
 unfold upd
 by_cases e:w=v
 ·subst e
  rw [if_pos rfl,ndOf_in st h0 (by rw [List.length_set];exact h1),getD_set' (by omega)]
 ·rw [if_neg e]
  unfold ndOf
  rw [List.length_set]
  split
  ·rename_i h
   rw [List.getD_eq_getElem?_getD,List.getD_eq_getElem?_getD,List.getElem?_set_ne (by omega)]
  ·rfl
theorem mem_set' {α:Type} {l:List α} {i:Nat} {x y:α} (h:y∈l.set i x):y∈l∨y=x:=List.mem_or_eq_of_mem_set h
theorem doneZ {N:Nat} (hN:Big N) (g:Group) (v:Int) (x:Node) (sent:List Message) (hc:x.Commit≤x.Log.length) (hl:x.Log.length≤60) (V:List Node) (W:List Message) (Le:List Lead) (D:List Done) (hD:D.length≤900000) (c:Int) (c0:0≤c) (c1:c≤60):(∃Do:List Done,spec_l11Set.lp14 N g v x sent (.s0 (c+1) V W Le D)=some ⟨V,W,Le,Do⟩∧Do.length≤D.length+60)∧∃Do:List Done,spec_l11Set.lp14 N g v x sent (.s1 (c+1) V W D)=some ⟨V,W,g.Leads,Do⟩∧Do.length≤D.length+60:=by
 unfold spec_l11Set.lp14
 constructor
 ·refine miter_all (p:=fun (r:Option Group)=>∃Do:List Done,r=some (Group.mk V W Le Do)∧Do.length≤D.length+60) (fun s=>match s with | .s0 p _ _ _ _=>(x.Commit+1 - p).toNat | .s1 p _ _ _=>(x.Commit+1 - p).toNat) (fun s=>∃(p:Int) (Do:List Done),s = .s0 p V W Le Do∧1≤p∧p≤61∧Do.length+61≤D.length+60+p) ?_ N _ ⟨c+1,D,rfl,by omega,by omega,by omega⟩ (by show (x.Commit+1 - (c+1)).toNat<N;omega)
  rintro s ⟨p,Do,rfl,p1,p2,p3⟩ rec hrec
  simp only [spec_l11Set.step14]
  by_cases hp:p≤x.Commit
  ·rw [decide_eq_true hp,w_small (x:=p - 1) (by omega) (by omega),decide_eq_true (show 0≤p - 1 by omega),decide_eq_true (show p - 1<(x.Log.length:Int) by omega),roomB (by rw [List.length_singleton];omega) (by omega),w_small (x:=p+1) (by omega) (by omega)]
   simp only [cond_true]
   exact hrec _ ⟨p+1,_,rfl,by omega,by omega,by rw [List.length_append,List.length_singleton];omega⟩ (by show (x.Commit+1 - (p+1)).toNat<(x.Commit+1 - p).toNat;omega)
  ·rw [decide_eq_false hp,cond_false]
   exact ⟨Do,rfl,by omega⟩
 ·refine miter_all (p:=fun (r:Option Group)=>∃Do:List Done,r=some (Group.mk V W g.Leads Do)∧Do.length≤D.length+60) (fun s=>match s with | .s0 p _ _ _ _=>(x.Commit+1 - p).toNat | .s1 p _ _ _=>(x.Commit+1 - p).toNat) (fun s=>∃(p:Int) (Do:List Done),s = .s1 p V W Do∧1≤p∧p≤61∧Do.length+61≤D.length+60+p) ?_ N _ ⟨c+1,D,rfl,by omega,by omega,by omega⟩ (by show (x.Commit+1 - (c+1)).toNat<N;omega)
  rintro s ⟨p,Do,rfl,p1,p2,p3⟩ rec hrec
  simp only [spec_l11Set.step14]
  by_cases hp:p≤x.Commit
  ·rw [decide_eq_true hp,w_small (x:=p - 1) (by omega) (by omega),decide_eq_true (show 0≤p - 1 by omega),decide_eq_true (show p - 1<(x.Log.length:Int) by omega),roomB (by rw [List.length_singleton];omega) (by omega),w_small (x:=p+1) (by omega) (by omega)]
   simp only [cond_true]
   exact hrec _ ⟨p+1,_,rfl,by omega,by omega,by rw [List.length_append,List.length_singleton];omega⟩ (by show (x.Commit+1 - (p+1)).toNat<(x.Commit+1 - p).toNat;omega)
  ·rw [decide_eq_false hp,cond_false]
   exact ⟨Do,rfl,by omega⟩
theorem setZ {N:Nat} (hN:Big N) (g:Group) (hn:g.Nodes.length≤100) (hw:g.Wire.length≤60) (hLe:g.Leads.length≤90000) (hD:g.Dones.length≤800000) {v:Int} (v0:0≤v) (v1:v<g.Nodes.length) (x:Node) (sent:List Message) (hs:sent.length≤100) (hc:x.Commit≤x.Log.length) (hl:x.Log.length≤60) (c0:0≤(g.Nodes.getD v.toNat Node.dz).Commit) (c1:(g.Nodes.getD v.toNat Node.dz).Commit≤60):∃(Le:List Lead) (Do:List Done),spec_l11Set.m N g v x sent=some ⟨g.Nodes.set v.toNat x,g.Wire++sent.take (60 - g.Wire.length),Le,Do⟩∧Le.length≤g.Leads.length+1∧(∀l∈Le,l∈g.Leads∨l.Log.length≤60)∧Do.length≤g.Dones.length+60:=by
 unfold spec_l11Set.m spec_l11Set.m0
 rw [decide_eq_true v0,decide_eq_true v1,roomB (by simp only [List.length_nil];omega) (by omega),roomB (by simp only [List.length_nil];omega) (by omega)]
 simp only [List.nil_append,cond_true,decide_eq_true v1]
 generalize hwas:g.Nodes.getD v.toNat Node.dz=was at c0 c1
 generalize hV:g.Nodes.set v.toNat x=V
 unfold spec_l11Set.lp6
 refine miter_all (p:=fun (r:Option Group)=>∃(Le:List Lead) (Do:List Done),r=some (Group.mk V (g.Wire++sent.take (60 - g.Wire.length)) Le Do)∧Le.length≤g.Leads.length+1∧(∀l∈Le,l∈g.Leads∨l.Log.length≤60)∧Do.length≤g.Dones.length+60) (fun s=>((sent.length:Int) - s.1).toNat) (fun s=>∃i:Nat,s=((i:Int),V,g.Wire++sent.take i,was.Id,was.Term,was.Vote,was.Log,was.Start,was.Role,was.Votes,was.Next,was.Match,was.Commit,was.Elapsed,was.Wait,was.Up)∧i≤sent.length∧g.Wire.length+i≤60) ?_ N _ ⟨0,by rw [List.take_zero,List.append_nil];rfl,Nat.zero_le _,hw⟩ (by show ((sent.length:Int) - 0).toNat<N;omega)
 rintro s ⟨i,rfl,i1,i2⟩ rec hrec
 have hWl:(g.Wire++sent.take i).length=g.Wire.length+i:=by rw [List.length_append,List.length_take];omega
 simp only [spec_l11Set.step6]
 have w1:w64 (was.Commit+1)=was.Commit+1:=w_small (by omega) (by omega)
 have nl:∀l∈([]:List Lead)++g.Leads++[Lead.mk x.Term v (([]:List Entry)++x.Log)],l∈g.Leads∨l.Log.length≤60:=fun l hl'=>by
  rw [List.nil_append] at hl'
  rcases List.mem_append.1 hl' with q | q
  ·exact .inl q
  ·rw [List.mem_singleton.1 q];exact .inr hl
 have ll:(([]:List Lead)++g.Leads++[Lead.mk x.Term v (([]:List Entry)++x.Log)]).length=g.Leads.length+1:=by rw [List.nil_append,List.length_append,List.length_singleton]
 generalize hNL:([]:List Lead)++g.Leads++[Lead.mk x.Term v (([]:List Entry)++x.Log)]=NL at nl ll
 have r1:room (([]:List Lead).length+g.Leads.length) 40=true:=roomB (by simp only [List.length_nil];omega) (by omega)
 have r2:room (([]:List Entry).length+x.Log.length) 32=true:=roomB (by simp only [List.length_nil];omega) (by omega)
 have r3:room ((([]:List Lead)++g.Leads).length+[Lead.mk x.Term v (([]:List Entry)++x.Log)].length) 40=true:=roomB (by rw [List.nil_append,List.length_singleton];omega) (by omega)
 have r4:room (([]:List Done).length+g.Dones.length) 56=true:=roomB (by simp only [List.length_nil];omega) (by omega)
 have L0:∀W,W=g.Wire++sent.take (60 - g.Wire.length)→∃(Le:List Lead) (Do:List Done),(bif decide (x.Commit > was.Commit) then (bif room (([]:List Done).length+g.Dones.length) 56 then spec_l11Set.lp14 N g v x sent (.s0 (w64 (was.Commit+(1:Int))) V W NL (([]:List Done)++g.Dones)) else none) else some (Group.mk V W NL g.Dones))=some (Group.mk V (g.Wire++sent.take (60 - g.Wire.length)) Le Do)∧Le.length≤g.Leads.length+1∧(∀l∈Le,l∈g.Leads∨l.Log.length≤60)∧Do.length≤g.Dones.length+60:=fun W eW=>by
  rw [r4,w1,List.nil_append,cond_true,eW]
  obtain ⟨⟨Do,e,h⟩,_⟩:=doneZ hN g v x sent hc hl V (g.Wire++sent.take (60 - g.Wire.length)) NL g.Dones (by omega) was.Commit c0 c1
  rw [e]
  cases decide (x.Commit > was.Commit) with
  | true=>exact ⟨_,_,rfl,by omega,nl,h⟩
  | false=>exact ⟨_,_,rfl,by omega,nl,by omega⟩
 have L1:∀W,W=g.Wire++sent.take (60 - g.Wire.length)→∃(Le:List Lead) (Do:List Done),(bif decide (x.Commit > was.Commit) then (bif room (([]:List Done).length+g.Dones.length) 56 then spec_l11Set.lp14 N g v x sent (.s1 (w64 (was.Commit+(1:Int))) V W (([]:List Done)++g.Dones)) else none) else some (Group.mk V W g.Leads g.Dones))=some (Group.mk V (g.Wire++sent.take (60 - g.Wire.length)) Le Do)∧Le.length≤g.Leads.length+1∧(∀l∈Le,l∈g.Leads∨l.Log.length≤60)∧Do.length≤g.Dones.length+60:=fun W eW=>by
  rw [r4,w1,List.nil_append,cond_true,eW]
  obtain ⟨_,Do,e,h⟩:=doneZ hN g v x sent hc hl V (g.Wire++sent.take (60 - g.Wire.length)) NL g.Dones (by omega) was.Commit c0 c1
  rw [e]
  cases decide (x.Commit > was.Commit) with
  | true=>exact ⟨_,_,rfl,by omega,fun l h=>.inl h,h⟩
  | false=>exact ⟨_,_,rfl,by omega,fun l h=>.inl h,by omega⟩
 rw [r1,r2,r3]
 simp only [cond_true]
 by_cases hi:i<sent.length
 ·rw [lt_dec hi]
  simp only [cond_true]
  by_cases h60:g.Wire.length+i<60
  ·rw [decide_eq_true (show ((g.Wire++sent.take i).length:Int)<60 by rw [hWl];omega),nn_dec,Int.toNat_natCast,roomB (by rw [hWl,List.length_singleton];omega) (by omega),w_up i _ hi (by omega)]
   simp only [cond_true]
   exact hrec _ ⟨i+1,by rw [take_s hi Message.dz,List.append_assoc],hi,by omega⟩ (by show ((sent.length:Int) - ((i+1:Nat):Int)).toNat<((sent.length:Int) - (i:Int)).toNat;omega)
  ·rw [decide_eq_false (show ¬ ((g.Wire++sent.take i).length:Int)<60 by rw [hWl];omega),cond_false]
   have eW:g.Wire++sent.take i=g.Wire++sent.take (60 - g.Wire.length):=by rw [show i=60 - g.Wire.length by omega]
   cases x.Role==2 with
   | false=>exact L1 _ eW
   | true=>
   cases was.Role != 2 with
   | true=>exact L0 _ eW
   | false=>
   cases was.Term != x.Term with
   | true=>exact L0 _ eW
   | false=>exact L1 _ eW
 ·rw [decide_eq_false (show ¬ (i:Int)<(sent.length:Int) by omega),cond_false]
  have eW:g.Wire++sent.take i=g.Wire++sent.take (60 - g.Wire.length):=by
   rw [List.take_of_length_le (show sent.length≤i by omega),List.take_of_length_le (show sent.length≤60 - g.Wire.length by omega)]
  cases x.Role==2 with
  | false=>exact L1 _ eW
  | true=>
  cases was.Role != 2 with
  | true=>exact L0 _ eW
  | false=>
  cases was.Term != x.Term with
  | true=>exact L0 _ eW
  | false=>exact L1 _ eW
structure GS (st:List Int) (gh:Gh) (i:Nat) (g:Group):Prop where
 n0:0<g.Nodes.length
 n5:g.Nodes.length≤5
 one:st=[0]→g.Nodes.length=1
 w:g.Wire.length≤60
 l:g.Leads.length≤i
 d:g.Dones.length≤60 * i
 ls:∀l∈g.Leads,l.Log.length≤60
 kl:∀x∈g.Nodes,KL x
 nc:∀x∈g.Nodes,NC st gh x
 wk:∀m∈g.Wire,MK m
 mc:∀m∈g.Wire,MC st gh m
 mi:∀m∈g.Wire,MI gh m
 inv:Inv st gh (ndOf st g.Nodes)
theorem GS.more {st:List Int} {gh:Gh} {i:Nat} {g:Group} (h:GS st gh i g):GS st gh (i+1) g:={ h with l:=by have:=h.l;omega,d:=by have:=h.d;omega }
theorem GS.wire {st:List Int} {gh:Gh} {i:Nat} {g:Group} (h:GS st gh i g) {W:List Message} (hW:W.length≤60) (hWs:∀m∈W,m∈g.Wire):GS st gh i ⟨g.Nodes,W,g.Leads,g.Dones⟩:=⟨h.n0,h.n5,h.one,hW,h.l,h.d,h.ls,h.kl,h.nc,fun m q=>h.wk m (hWs m q),fun m q=>h.mc m (hWs m q),fun m q=>h.mi m (hWs m q),h.inv⟩
theorem GS.at {st:List Int} {gh:Gh} {i:Nat} {g:Group} (h:GS st gh i g) {v:Int} (v0:0≤v) (v1:v<g.Nodes.length):KL (g.Nodes.getD v.toNat Node.dz)∧NC st gh (g.Nodes.getD v.toNat Node.dz)∧ndOf st g.Nodes v=g.Nodes.getD v.toNat Node.dz∧(g.Nodes.getD v.toNat Node.dz).Id=v:=by
 have m:=getD_mem (show v.toNat<g.Nodes.length by omega) Node.dz
 have e:=ndOf_in st v0 v1 (l:=g.Nodes)
 have id:=(h.inv.ni v).id
 rw [e] at id
 exact ⟨h.kl _ m,h.nc _ m,e,id⟩
def StpS (st:List Int) (g:Gh) (nd:Int→Node) (v:Int) (r:Node×List Message):Prop:=∃g',Ext g g'∧Inv st g' (upd nd v r.1)∧(∀m∈r.2,MI g' m)∧RN st g' r
theorem setS {N:Nat} (hN:Big N) {st:List Int} {gh:Gh} {i:Nat} {g:Group} (I:GS st gh i g) (hi:i≤1000) {v:Int} (v0:0≤v) (v1:v<g.Nodes.length) {x:Node} {sent:List Message} (h:StpS st gh (ndOf st g.Nodes) v (x,sent)) (k:RK (x,sent)):∃g1 gh1,spec_l11Set.m N g v x sent=some g1∧GS st gh1 (i+1) g1∧g1.Nodes.length=g.Nodes.length:=by
 obtain ⟨g',e,I',mm,rn⟩:=h
 obtain ⟨kw,_,_,_⟩:=I.at v0 v1
 have kl:=k.n
 have kn:sent.length≤10:=k.l
 have il:=I.l
 have id:=I.d
 have n5:=I.n5
 have wc1:=kw.c1
 have wl:=kw.ll
 obtain ⟨Le,Do,eq,b1,b2,b3⟩:=setZ hN g (by omega) I.w (by omega) (by omega) v0 v1 x sent (by omega) kl.c1 kl.ll kw.c0 (by omega)
 refine ⟨_,g',eq,?_,by show (g.Nodes.set v.toNat x).length=_;rw [List.length_set]⟩
 have hmem:∀y∈g.Nodes.set v.toNat x,y∈g.Nodes∨y=x:=fun y hy=>mem_set' hy
 have iw:=I.w
 refine ⟨?_,?_,fun q=>?_,?_,by show Le.length≤i+1;omega,by show Do.length≤60 * (i+1);omega,fun l hl=>?_,fun y hy=>?_,fun y hy=>?_,fun m hm=>?_,fun m hm=>?_,fun m hm=>?_,?_⟩
 ·show 0<(g.Nodes.set v.toNat x).length;rw [List.length_set];exact I.n0
 ·show (g.Nodes.set v.toNat x).length≤5;rw [List.length_set];exact I.n5
 ·show (g.Nodes.set v.toNat x).length=1;rw [List.length_set];exact I.one q
 ·show (g.Wire++sent.take (60 - g.Wire.length)).length≤60;rw [List.length_append,List.length_take];omega
 ·rcases b2 l hl with q | q
  ·exact I.ls l q
  ·exact q
 ·rcases hmem y hy with q | q
  ·exact I.kl y q
  ·rw [q];exact kl
 ·rcases hmem y hy with q | q
  ·exact (I.nc y q).ext e
  ·rw [q];exact rn.n
 ·rcases List.mem_append.1 hm with q | q
  ·exact I.wk m q
  ·exact k.m m (List.mem_of_mem_take q)
 ·rcases List.mem_append.1 hm with q | q
  ·exact (I.mc m q).ext e
  ·exact rn.m m (List.mem_of_mem_take q)
 ·rcases List.mem_append.1 hm with q | q
  ·exact (I.mi m q).ext e
  ·exact mm m (List.mem_of_mem_take q)
 ·show Inv st g' (ndOf st (g.Nodes.set v.toNat x))
  rw [ndOf_set st v0 v1];exact I'
def Five (d:ByteArray):Prop:=d=⟨#[0,1]⟩∨d=⟨#[0,1,2]⟩∨d=⟨#[0,1,2,3]⟩∨d=⟨#[1,2]⟩∨d=⟨#[0,2,3]⟩
theorem Five.okc {d:ByteArray} (h:Five d) {st:List Int} (hs:st≠[0]):Okc st (bl d d.size):=by
 refine .inr ⟨hs,?_⟩
 rcases h with e | e | e | e | e<;>rw [e]
 ·exact .inl rfl
 ·exact .inr (.inl rfl)
 ·exact .inr (.inr (.inl rfl))
 ·exact .inr (.inr (.inr (.inl rfl)))
 ·exact .inr (.inr (.inr (.inr rfl)))
theorem Five.size {d:ByteArray} (h:Five d):d.size≤4:=by
 rcases h with e | e | e | e | e<;>rw [e]<;>decide
theorem Five.last {d:ByteArray} (h:Five d):1≤(bl d d.size).getD ((d.size:Int) - 1).toNat 0:=by
 rcases h with e | e | e | e | e<;>rw [e]<;>decide
abbrev D16:Nat:=60000
structure Act (a:GroupAct):Prop where
 five:a.Kind=6→Five a.Data
 size:a.Data.size≤D16
theorem crashZ {N:Nat} (hN:Big N) {x:Node} (h:KL x):spec_l10Crash.m N x=some (crashN x):=by
 have g:=h.gt.g.sz
 have l:=h.ll
 unfold spec_l10Crash.m
 rw [l10New N hN _ _ g.Start,ob_some,roomB (by simp only [List.length_nil];omega) (by omega)]
 rfl
theorem datB_M {t k:Int} {d:ByteArray} (h:datB ⟨t,k,d⟩=true):d.size≤M20:=Nat.le_trans (datB_size h) (by decide)
theorem datB_K {t k:Int} {d:ByteArray} (h:datB ⟨t,k,d⟩=true) (h2:(k==2)=true):memB d=true:=datB_two (e:=⟨t,k,d⟩) h h2
theorem tickS {st:List Int} {gh:Gh} {i:Nat} {g:Group} (I:GS st gh i g) {v:Int} (v0:0≤v) (v1:v<g.Nodes.length) (hu:(g.Nodes.getD v.toNat Node.dz).Up=true) {d:Int} (d0:0≤d):StpS st gh (ndOf st g.Nodes) v (tickR (g.Nodes.getD v.toNat Node.dz) d)∧RK (tickR (g.Nodes.getD v.toNat Node.dz) d):=by
 obtain ⟨kl,nc,en,id⟩:=I.at v0 v1
 obtain ⟨g',e,I',mm⟩:=tick_step I.inv (v:=v) (by omega) (by rw [en];exact kl.gt.g) d
 rw [en] at I' mm
 exact ⟨⟨g',e,I',mm,tick_RN e I' (v:=v) (upd_same ..) nc kl.c0 kl.c1⟩,tick_RK kl hu d0⟩
theorem takeS {st:List Int} {gh:Gh} {i:Nat} {g:Group} (I:GS st gh i g) {m:Message} (hm:m∈g.Wire) (v1:m.To<g.Nodes.length) (hu:(g.Nodes.getD m.To.toNat Node.dz).Up=true):StpS st gh (ndOf st g.Nodes) m.To (takeR (g.Nodes.getD m.To.toNat Node.dz) m)∧RK (takeR (g.Nodes.getD m.To.toNat Node.dz) m):=by
 have k:=I.wk m hm
 have mc:=I.mc m hm
 have mi:=I.mi m hm
 obtain ⟨kl,nc,en,id⟩:=I.at k.t0 v1
 have gl:=(I.inv.ni m.To).gl
 rw [en] at gl
 obtain ⟨g',e,I',mm⟩:=take_step I.inv (v:=m.To) (by rw [en];exact kl.gt) k.ok mi rfl k.ne
 rw [en] at I' mm
 generalize g.Nodes.getD m.To.toNat Node.dz=x at kl nc en id gl hu I' mm
 refine ⟨⟨g',e,I',mm,take_RN e I.inv.hist I' (v:=m.To) (upd_same ..) gl nc kl.c0 kl.c1 mc mi k.i0 k.kind⟩,take_RK kl hu k id.symm fun k3 il ht ht2=>?_⟩
 have hy:=at_NC m nc kl.c0 kl.c1
 have ly:(atTerm x m).Log=x.Log∧(atTerm x m).Commit=x.Commit∧m.Term≤(atTerm x m).Term:=by
  unfold atTerm
  by_cases q:m.Term > x.Term
  ·rw [decide_eq_true q];exact ⟨rfl,rfl,Int.le_refl _⟩
  ·rw [decide_eq_false q];exact ⟨rfl,rfl,by show m.Term≤x.Term;omega⟩
 obtain ⟨l1,l2,l3⟩:=ly
 have c0:=kl.c0
 have en:=ent_NC I.inv.hist (by rw [l1];exact gl) hy (by rw [l2];exact c0) mc (by omega) k.i0 (by rw [l1];exact il) ht (mi.k3 k3)
 rw [l1,l2] at en
 exact en.1
theorem propS {st:List Int} {gh:Gh} {i:Nat} {g:Group} (I:GS st gh i g) {v:Int} (v0:0≤v) (v1:v<g.Nodes.length) (hr:(g.Nodes.getD v.toNat Node.dz).Role=2) (hl:(g.Nodes.getD v.toNat Node.dz).Log.length<60) {k:Int} {d:ByteArray} (hd:∀t,datB ⟨t,k,d⟩=true) (hk:(k==2)=true→st≠[0]∧Five d∧alwB (g.Nodes.getD v.toNat Node.dz) (bl d d.size)=true):StpS st gh (ndOf st g.Nodes) v (propR (g.Nodes.getD v.toNat Node.dz) k d)∧RK (propR (g.Nodes.getD v.toNat Node.dz) k d):=by
 obtain ⟨kl,nc,en,id⟩:=I.at v0 v1
 have hst:(g.Nodes.getD v.toNat Node.dz).Start=st:=by have:=(I.inv.ni v).start;rwa [en] at this
 generalize g.Nodes.getD v.toNat Node.dz=x at kl nc en id hr hl hk hst
 have gg:=kl.gt.g.prop (k:=k) (d:=d) hl (datB_M (hd x.Term)) (datB_K (hd x.Term))
 obtain ⟨g',e,I',mm⟩:=prop_step I.inv (v:=v) (k:=k) (d:=d) (by rw [en];exact hr) (by rw [en];exact kl.gt.g) (by rw [en];exact gg) (fun h2=>by
  obtain ⟨hs,f,al⟩:=hk h2
  unfold alwB calm at al
  simp only [Bool.and_eq_true,Bool.not_eq_true',beq_iff_eq,beq_eq_false_iff_ne,allF_iff] at al
  obtain ⟨a1,_,a3,a4,a5⟩:=al
  have c0:=kl.c0
  rw [en]
  rw [hst] at a1
  refine ⟨f.okc hs,by unfold adj;omega,by omega,a4,fun j j1 j2=>?_⟩
  have:=a5 j j1 (by omega)
  exact beq_eq_false_iff_ne.2 this)
 rw [en] at I' mm
 exact ⟨⟨g',e,I',mm,prop_RN e I' (v:=v) (upd_same ..) hr nc kl.c0 kl.c1⟩,prop_RK kl hr hl (hd x.Term)⟩
theorem crashS {st:List Int} {gh:Gh} {i:Nat} {g:Group} (I:GS st gh i g) {v:Int} (v0:0≤v) (v1:v<g.Nodes.length):StpS st gh (ndOf st g.Nodes) v (crashN (g.Nodes.getD v.toNat Node.dz),[])∧RK (crashN (g.Nodes.getD v.toNat Node.dz),[]):=by
 obtain ⟨kl,nc,en,id⟩:=I.at v0 v1
 obtain ⟨g',e,I',mm⟩:=crash_step I.inv v
 rw [en] at I'
 exact ⟨⟨g',e,I',mm,RN.nil (.inl (Int.le_refl _))⟩,RK.nil kl.crash⟩
theorem startS {st:List Int} {gh:Gh} {i:Nat} {g:Group} (I:GS st gh i g) {v:Int} (v0:0≤v) (v1:v<g.Nodes.length):StpS st gh (ndOf st g.Nodes) v (startN (g.Nodes.getD v.toNat Node.dz),[])∧RK (startN (g.Nodes.getD v.toNat Node.dz),[]):=by
 obtain ⟨kl,nc,en,id⟩:=I.at v0 v1
 obtain ⟨g',e,I',mm⟩:=start_step I.inv v
 rw [en] at I'
 exact ⟨⟨g',e,I',mm,RN.nil ((nc.ext e).keep kl.c1 rfl (Int.le_refl _) rfl)⟩,RK.nil kl.start⟩
def DnS (st:List Int) (i n:Nat) (r:Option (Group×Int)):Prop:=∃g1 c gh1,r=some (g1,c)∧GS st gh1 (i+1) g1∧g1.Nodes.length=n
theorem DnS.no {st:List Int} {gh:Gh} {i:Nat} {g:Group} (I:GS st gh i g) {c:Int}:DnS st i g.Nodes.length (some (g,c)):=⟨g,c,gh,rfl,I.more,rfl⟩
theorem DnS.set {N:Nat} (hN:Big N) {st:List Int} {gh:Gh} {i:Nat} {g:Group} (I:GS st gh i g) (hi:i≤1000) {v:Int} (v0:0≤v) (v1:v<g.Nodes.length) {x:Node} {sent:List Message} (h:StpS st gh (ndOf st g.Nodes) v (x,sent)∧RK (x,sent)) {c:Int}:DnS st i g.Nodes.length (ob (spec_l11Set.m N g v x sent) fun y=>some (y,c)):=by
 obtain ⟨g1,gh1,e,a,b⟩:=setS hN I hi v0 v1 h.1 h.2
 rw [e,ob_some];exact ⟨g1,c,gh1,rfl,a,b⟩
theorem wireZ {N:Nat} (hN:Big N) {st:List Int} {gh:Gh} {i:Nat} {g:Group} (I:GS st gh i g) (hi:i≤1000) {a:GroupAct}:DnS st i g.Nodes.length (spec_l11Wire.m N g a):=by
 have hw:=I.w
 unfold spec_l11Wire.m
 rw [w_small (x:=(g.Wire.length:Int) - 1) (by omega) (by omega),l01In,ob_some]
 cases hb:inB a.N 0 ((g.Wire.length:Int) - 1) with
 | false=>exact DnS.no I
 | true=>
 obtain ⟨v0,v1⟩:=inB_iff.1 hb
 have v1:a.N<g.Wire.length:=by omega
 have hm:=getD_mem (show a.N.toNat<g.Wire.length by omega) Message.dz
 have w1:w64 (a.N+1)=a.N+1:=w_small (by omega) (by omega)
 have l1:(g.Wire.take a.N.toNat).length≤60:=by rw [List.length_take];omega
 have l2:(g.Wire.drop (a.N+1).toNat).length≤60:=by rw [List.length_drop];omega
 simp only [Bool.not_true,cond_false,cond_true,decide_eq_true v0,decide_eq_true v1,w1,List.nil_append]
 rw [decide_eq_true (show a.N≤((g.Wire.length:Nat):Int) by omega),decide_eq_true (show 0≤a.N+1 by omega),decide_eq_true (show a.N+1≤((g.Wire.length:Nat):Int) by omega),roomB (n:=([]:List Message).length+g.Wire.length) (by simp only [List.length_nil];omega) (by omega),roomB (n:=g.Wire.length+[g.Wire.getD a.N.toNat Message.dz].length) (by rw [List.length_singleton];omega) (by omega),roomB (n:=([]:List Message).length+(g.Wire.take a.N.toNat).length) (by simp only [List.length_nil];omega) (by omega),roomB (n:=(g.Wire.take a.N.toNat).length+(g.Wire.drop (a.N+1).toNat).length) (by omega) (by omega)]
 simp only [cond_true]
 generalize g.Wire.getD a.N.toNat Message.dz=m at hm
 cases a.Kind==4 with
 | true=>
  rw [cond_true]
  cases h6:(g.Wire.length:Int)==60 with
  | true=>exact DnS.no I
  | false=>
  rw [beq_eq_false_iff_ne] at h6
  exact ⟨_,_,gh,rfl,(I.wire (W:=g.Wire++[m]) (by rw [List.length_append,List.length_singleton];omega) (fun m' h=>by
   rcases List.mem_append.1 h with q | q
   ·exact q
   ·rw [List.mem_singleton.1 q];exact hm)).more,rfl⟩
 | false=>
 rw [cond_false]
 have hW:(g.Wire.take a.N.toNat++g.Wire.drop (a.N+1).toNat).length≤60:=by rw [List.length_append,List.length_take,List.length_drop];omega
 have hWs:∀m∈g.Wire.take a.N.toNat++g.Wire.drop (a.N+1).toNat,m∈g.Wire:=fun m' h=>by
  rcases List.mem_append.1 h with q | q
  ·exact List.mem_of_mem_take q
  ·exact List.mem_of_mem_drop q
 generalize g.Wire.take a.N.toNat++g.Wire.drop (a.N+1).toNat=W at hW hWs
 have IW:=I.wire hW hWs
 have gone:DnS st i g.Nodes.length (some (Group.mk g.Nodes W g.Leads g.Dones,(0:Int))):=⟨_,_,gh,rfl,IW.more,rfl⟩
 cases a.Kind==3 with
 | true=>exact gone
 | false=>
 rw [cond_false]
 have k:=I.wk m hm
 have t0:=k.t0
 by_cases ht:m.To<(g.Nodes.length:Int)
 ·rw [decide_eq_false (show ¬ m.To≥(g.Nodes.length:Int) by omega),decide_eq_true t0,decide_eq_true ht]
  simp only [cond_true,cond_false]
  cases hu:(g.Nodes.getD m.To.toNat Node.dz).Up with
  | false=>exact gone
  | true=>
  simp only [Bool.not_true,cond_false]
  obtain ⟨kl,_⟩:=I.at t0 ht
  have ts:=takeS I hm ht hu
  rw [takeZ hN kl.gt k.ok,ob_some]
  exact DnS.set hN IW hi t0 ht ts
 ·rw [decide_eq_true (show m.To≥(g.Nodes.length:Int) by omega)]
  exact gone
theorem propDZ {N:Nat} (hN:Big N) {st:List Int} {gh:Gh} {i:Nat} {g:Group} (I:GS st gh i g) (hi:i≤1000) {v:Int} (v0:0≤v) (v1:v<g.Nodes.length) {k:Int} {d:ByteArray} (hd:∀t,datB ⟨t,k,d⟩=true) (hk:(g.Nodes.getD v.toNat Node.dz).Role=2→(k==2)=true→st≠[0]∧Five d∧alwB (g.Nodes.getD v.toNat Node.dz) (bl d d.size)=true):DnS st i g.Nodes.length (ob (spec_l10Propose.m N (g.Nodes.getD v.toNat Node.dz) (Entry.mk 0 k d)) fun y=>bif y.2.2 != (0:Int) then some (g,y.2.2) else ob (spec_l11Set.m N g v y.1 y.2.1) fun z=>some (z,(0:Int))):=by
 obtain ⟨kl,_⟩:=I.at v0 v1
 rw [propZ hN kl.gt.g k d (fun hl=>kl.gt.g.prop hl (datB_M (hd 0)) (datB_K (hd 0))) 0,ob_some]
 cases !(g.Nodes.getD v.toNat Node.dz).Up with
 | true=>exact DnS.no I
 | false=>
 cases hr:(g.Nodes.getD v.toNat Node.dz).Role != 2 with
 | true=>exact DnS.no I
 | false=>
 cases hl:((g.Nodes.getD v.toNat Node.dz).Log.length:Int)==60 with
 | true=>exact DnS.no I
 | false=>
 have r2:(g.Nodes.getD v.toNat Node.dz).Role=2:=by simpa using hr
 have hl:¬ ((g.Nodes.getD v.toNat Node.dz).Log.length:Int)=60:=by simpa using hl
 have ll:=kl.ll
 exact DnS.set hN I hi v0 v1 (propS I v0 v1 r2 (by omega) hd (hk r2))
theorem stepZ {N:Nat} (hN:Big N) {st:List Int} {gh:Gh} {i:Nat} {g:Group} (I:GS st gh i g) (hi:i≤1000) {a:GroupAct} (ha:Act a):DnS st i g.Nodes.length (spec_l11Step.m N g a):=by
 have n0:=I.n0
 have n5:=I.n5
 unfold spec_l11Step.m
 rw [l01In,ob_some]
 cases hk:inB a.Kind 1 8 with
 | false=>exact DnS.no I
 | true=>
 obtain ⟨k0,k8⟩:=inB_iff.1 hk
 rw [w_small (x:=(g.Nodes.length:Int) - 1) (by omega) (by omega)]
 simp only [l01In,ob_some,Bool.not_true,cond_false]
 have fin:∀ {r:Option (Group×Int)},DnS st i g.Nodes.length r→DnS st i g.Nodes.length (ob r fun z=>some (z.1,z.2)):=fun {r} ⟨c,g1,gh1,e,h⟩=>by
  rw [e,ob_some];exact ⟨c,g1,gh1,rfl,h⟩
 have wire:=fin (wireZ hN I hi (a:=a))
 by_cases hN':0≤a.N∧a.N<(g.Nodes.length:Int)
 ·obtain ⟨v0,v1⟩:=hN'
  have hb:inB a.N 0 ((g.Nodes.length:Int) - 1)=true:=inB_iff.2 ⟨v0,by omega⟩
  obtain ⟨kl,nc,en,id⟩:=I.at v0 v1
  simp only [hb,Bool.not_true,cond_false,cond_true,decide_eq_true v0,decide_eq_true v1]
  have start:DnS st i g.Nodes.length (ob (spec_l11Set.m N g a.N (startN (g.Nodes.getD a.N.toNat Node.dz)) []) fun y=>some (y,(0:Int))):=DnS.set hN I hi v0 v1 (startS I v0 v1)
  have crash:DnS st i g.Nodes.length (ob (spec_l10Crash.m N (g.Nodes.getD a.N.toNat Node.dz)) fun y5=>ob (spec_l11Set.m N g a.N y5 []) fun y=>some (y,(0:Int))):=by
   rw [crashZ hN kl,ob_some]
   exact DnS.set hN I hi v0 v1 (crashS I v0 v1)
  have tick:(g.Nodes.getD a.N.toNat Node.dz).Up=true→DnS st i g.Nodes.length (bif !inB a.Draw 0 1000000 then some (g,(4:Int)) else ob (spec_l10Tick.m N (g.Nodes.getD a.N.toNat Node.dz) a.Draw) fun y8=>ob (spec_l11Set.m N g a.N y8.1 y8.2) fun y=>some (y,(0:Int))):=fun hu=>by
   cases hd:inB a.Draw 0 1000000 with
   | false=>exact DnS.no I
   | true=>
   obtain ⟨d0,d1⟩:=inB_iff.1 hd
   rw [Bool.not_true,cond_false,tickZ hN kl.gt.g kl.t0 kl.t1 kl.e0 kl.e1 d0 d1,ob_some]
   exact DnS.set hN I hi v0 v1 (tickS I v0 v1 hu d0)
  have prop:DnS st i g.Nodes.length (bif !inB (a.Data.size:Int) 1 100 then some (g,(1:Int)) else ob (spec_l10Propose.m N (g.Nodes.getD a.N.toNat Node.dz) (Entry.mk 0 1 a.Data)) fun y=>bif y.2.2 != (0:Int) then some (g,y.2.2) else ob (spec_l11Set.m N g a.N y.1 y.2.1) fun z=>some (z,(0:Int))):=by
   cases hd:inB (a.Data.size:Int) 1 100 with
   | false=>exact DnS.no I
   | true=>
   obtain ⟨d0,d1⟩:=inB_iff.1 hd
   refine propDZ hN I hi v0 v1 (fun t=>?_) (fun _ h=>absurd h (by decide))
   show (decide ((a.Data.size:Int)≥1)&&decide ((a.Data.size:Int)≤100))=true
   rw [decide_eq_true (show (a.Data.size:Int)≥1 from d0),decide_eq_true d1];rfl
  have config:Five a.Data→DnS st i g.Nodes.length (ob (spec_l02Members.m N a.Data) fun y10=>bif !y10.2 then some (g,(1:Int)) else bif decide (0≤w64 ((y10.1.length:Int) - 1)) then bif decide (w64 ((y10.1.length:Int) - 1)<(y10.1.length:Int)) then bif decide (y10.1.getD (w64 ((y10.1.length:Int) - 1)).toNat 0≥(g.Nodes.length:Int)) then some (g,(1:Int)) else bif (g.Nodes.getD a.N.toNat Node.dz).Role==2 then ob (spec_l11Allowed.m N (g.Nodes.getD a.N.toNat Node.dz) y10.1) fun y11=>bif !y11 then some (g,(17:Int)) else ob (spec_l10Propose.m N (g.Nodes.getD a.N.toNat Node.dz) (Entry.mk 0 2 a.Data)) fun y=>bif y.2.2 != (0:Int) then some (g,y.2.2) else ob (spec_l11Set.m N g a.N y.1 y.2.1) fun z=>some (z,(0:Int)) else ob (spec_l10Propose.m N (g.Nodes.getD a.N.toNat Node.dz) (Entry.mk 0 2 a.Data)) fun y=>bif y.2.2 != (0:Int) then some (g,y.2.2) else ob (spec_l11Set.m N g a.N y.1 y.2.1) fun z=>some (z,(0:Int)) else none else none):=fun hf=>by
   have h4:=hf.size
   have hlast:=hf.last
   rw [l02Members hN a.Data (by simp only [M20];omega),ob_some]
   cases hids:idsB (fun j=>sb a.Data (j:Int)) a.Data.size with
   | false=>exact DnS.no I
   | true=>
   rw [cond_true]
   by_cases h0:0<a.Data.size
   ·have hm:memB a.Data=true:=by unfold memB;rw [hids,decide_eq_true h0];rfl
    have hl:=bl_length a.Data a.Data.size
    simp only [decide_eq_true h0,Bool.not_true,cond_false,cond_true]
    rw [hl,w_small (x:=(a.Data.size:Int) - 1) (by omega) (by omega),decide_eq_true (show (0:Int)≤(a.Data.size:Int) - 1 by omega),decide_eq_true (show (a.Data.size:Int) - 1<(a.Data.size:Int) by omega)]
    simp only [cond_true]
    by_cases hq:(bl a.Data a.Data.size).getD ((a.Data.size:Int) - 1).toNat 0≥(g.Nodes.length:Int)
    ·rw [decide_eq_true hq];exact DnS.no I
    ·rw [decide_eq_false hq,cond_false]
     have hs:st≠[0]:=fun e=>by
      have:=I.one e
      omega
     have pd:=propDZ hN I hi v0 v1 (k:=2) (d:=a.Data) (fun t=>hm)
     cases hr:(g.Nodes.getD a.N.toNat Node.dz).Role==2 with
     | true=>
      rw [cond_true,specAlw hN _ _ kl.gt.g.sz kl.gt.g.da kl.gt.g.mm (by rw [hl];simp only [M20];omega) kl.c0 kl.c1,ob_some]
      cases hal:alwB (g.Nodes.getD a.N.toNat Node.dz) (bl a.Data a.Data.size) with
      | false=>exact DnS.no I
      | true=>exact pd (fun _ _=>⟨hs,hf,hal⟩)
     | false=>exact pd (fun h _=>by rw [h] at hr;cases hr)
   ·rw [decide_eq_false h0];exact DnS.no I
  rcases (show a.Kind=1∨a.Kind=2∨a.Kind=3∨a.Kind=4∨a.Kind=5∨a.Kind=6∨a.Kind=7∨a.Kind=8 by omega) with e | e | e | e | e | e | e | e
  ·rw [e]
   simp only [show decide ((1:Int)≥2)=false from rfl,show ((1:Int)==8)=false from rfl,show ((1:Int)==7)=false from rfl,show ((1:Int)==1)=true from rfl,cond_false,cond_true]
   cases hu:(g.Nodes.getD a.N.toNat Node.dz).Up with
   | false=>exact DnS.no I
   | true=>exact tick hu
  ·rw [decide_eq_true (show a.Kind≥2 by omega),decide_eq_true (show a.Kind≤4 by omega)]
   exact wire
  ·rw [decide_eq_true (show a.Kind≥2 by omega),decide_eq_true (show a.Kind≤4 by omega)]
   exact wire
  ·rw [decide_eq_true (show a.Kind≥2 by omega),decide_eq_true (show a.Kind≤4 by omega)]
   exact wire
  ·rw [e]
   simp only [show decide ((5:Int)≥2)=true from rfl,show decide ((5:Int)≤4)=false from rfl,show ((5:Int)==8)=false from rfl,show ((5:Int)==7)=false from rfl,show ((5:Int)==1)=false from rfl,show ((5:Int)==6)=false from rfl,cond_false,cond_true]
   cases hu:(g.Nodes.getD a.N.toNat Node.dz).Up with
   | false=>exact DnS.no I
   | true=>exact prop
  ·rw [e]
   simp only [show decide ((6:Int)≥2)=true from rfl,show decide ((6:Int)≤4)=false from rfl,show ((6:Int)==8)=false from rfl,show ((6:Int)==7)=false from rfl,show ((6:Int)==1)=false from rfl,show ((6:Int)==6)=true from rfl,cond_false,cond_true]
   cases hu:(g.Nodes.getD a.N.toNat Node.dz).Up with
   | false=>exact DnS.no I
   | true=>exact config (ha.five e)
  ·rw [e]
   simp only [show decide ((7:Int)≥2)=true from rfl,show decide ((7:Int)≤4)=false from rfl,show ((7:Int)==8)=false from rfl,show ((7:Int)==7)=true from rfl,cond_false,cond_true]
   cases hu:(g.Nodes.getD a.N.toNat Node.dz).Up with
   | false=>exact DnS.no I
   | true=>exact crash
  ·rw [e]
   simp only [show decide ((8:Int)≥2)=true from rfl,show decide ((8:Int)≤4)=false from rfl,show ((8:Int)==8)=true from rfl,cond_false,cond_true]
   cases hu:(g.Nodes.getD a.N.toNat Node.dz).Up with
   | true=>exact DnS.no I
   | false=>exact start
 ·have hb:inB a.N 0 ((g.Nodes.length:Int) - 1)=false:=by
   cases q:inB a.N 0 ((g.Nodes.length:Int) - 1) with
   | false=>rfl
   | true=>exact absurd (inB_iff.1 q) (fun ⟨x,y⟩=>hN' ⟨x,by omega⟩)
  simp only [hb,Bool.not_false,cond_true]
  by_cases h2:a.Kind≥2
  ·rw [decide_eq_true h2,cond_true]
   by_cases h4:a.Kind≤4
   ·rw [decide_eq_true h4];exact wire
   ·rw [decide_eq_false h4];exact DnS.no I
  ·rw [decide_eq_false h2];exact DnS.no I
structure SrcOK (s:l00Src) (t:Nat):Prop where
 at_:s.«at» = (t:Int)
 len:s.code.length≤2000000
 lo:0≤s.seed
 hi:s.seed<2147483648
 bytes:∀x∈s.code,0≤x∧x<256
theorem srcNew {a:List Int} (hl:a.length≤2000000) (hb:∀x∈a,0≤x∧x<256):SrcOK (l00Src.mk a 0 (Int.tmod (a.length:Int) 1000)) 0:=by
 have h:=Int.tmod_lt_of_pos (a.length:Int) (show (0:Int)<1000 by omega)
 have h0:=Int.tmod_nonneg (1000:Int) (show (0:Int)≤(a.length:Int) by omega)
 have h2:Int.tmod (a.length:Int) 1000<2147483648:=by omega
 exact ⟨rfl,hl,h0,h2,hb⟩
theorem srcS (N:Nat) (a:List Int):spec_l00Source.m N a=some (l00Src.mk a 0 (Int.tmod (a.length:Int) 1000)):=by kernel_rfl
theorem getD_rng {a:List Int} (hb:∀x∈a,0≤x∧x<256) (i:Nat):0≤a.getD i 0∧a.getD i 0<256:=by
 rw [List.getD_eq_getElem?_getD]
 cases h:a[i]? with
 | none=>exact ⟨Int.le_refl _,by decide⟩
 | some x=>exact hb x (List.mem_of_getElem? h)
theorem srcByte (N:Nat) {s:l00Src} {t:Nat} (h:SrcOK s t) (ht:t≤4000000):∃b q,spec_l00Src_byte_.m N s=some (b,q)∧0≤b∧b<256∧SrcOK q (t+1):=by
 obtain ⟨h1,h2,h3,h4,h5⟩:=h
 obtain ⟨code,at_,seed⟩:=s
 have h1:at_=(t:Int):=h1
 have h2:code.length≤2000000:=h2
 have h3:0≤seed:=h3
 have h4:seed<2147483648:=h4
 have h5:∀x∈code,0≤x∧x<256:=h5
 subst h1
 have e1:w64 ((t:Int)+1)=((t+1:Nat):Int):=by rw [w_small (by omega) (by omega)];omega
 have e2:w64 (((t+1:Nat):Int) - 1)=(t:Int):=by rw [w_small (by omega) (by omega)];omega
 have ht0:(t:Int).toNat=t:=Int.toNat_natCast t
 have gg:0≤code.getD t 0∧code.getD t 0<256:=getD_rng h5 t
 obtain ⟨g0,g1⟩:=gg
 have e3:w64 (code.getD t 0)=code.getD t 0:=w_small (by omega) (by omega)
 have m31:∀x:Int,0≤x→0≤Int.tmod x 2147483648∧Int.tmod x 2147483648<2147483648:=fun x hx=>⟨Int.tmod_nonneg _ hx,Int.tmod_lt_of_pos x (by omega)⟩
 unfold spec_l00Src_byte_.m
 simp only [e1,e2,ht0,e3]
 by_cases hc:((t+1:Nat):Int)≤(code.length:Int)
 ·rw [decide_eq_true hc,cond_true,nn_dec,cond_true,decide_eq_true (show (t:Int)<(code.length:Int) by omega)]
  refine ⟨_,_,rfl,g0,g1,⟨rfl,h2,?_,?_,h5⟩⟩
  all_goals
   have q1:w64 (seed * 31)=seed * 31:=w64_eq (by omega) (by omega)
   have q2:w64 (seed * 31+code.getD t 0)=seed * 31+code.getD t 0:=w64_eq (by omega) (by omega)
   have q3:w64 (seed * 31+code.getD t 0+7)=seed * 31+code.getD t 0+7:=w64_eq (by omega) (by omega)
   have q4:=m31 (seed * 31+code.getD t 0+7) (by omega)
   simp only [q1,q2,q3]
  ·exact q4.1
  ·exact q4.2
 ·rw [decide_eq_false hc,cond_false]
  by_cases hd:((t+1:Nat):Int) > 3000
  ·rw [decide_eq_true hd,cond_true]
   exact ⟨_,_,rfl,Int.le_refl _,by decide,⟨rfl,h2,h3,h4,h5⟩⟩
  ·rw [decide_eq_false hd,cond_false]
   have q1:w64 (seed * 1103515245)=seed * 1103515245:=w64_eq (by omega) (by omega)
   have q2:w64 (seed * 1103515245+12345)=seed * 1103515245+12345:=w64_eq (by omega) (by omega)
   have q4:=m31 (seed * 1103515245+12345) (by omega)
   simp only [q1,q2]
   generalize Int.tmod (seed * 1103515245+12345) 2147483648=z at q4
   have d0:0≤Int.tdiv z 65536:=Int.tdiv_nonneg q4.1 (by omega)
   have d1:Int.tdiv z 65536≤z:=Int.tdiv_le_self _ q4.1
   have q5:w64 (Int.tdiv z 65536)=Int.tdiv z 65536:=w64_eq (by omega) (by omega)
   rw [q5]
   exact ⟨_,_,rfl,Int.tmod_nonneg _ d0,Int.tmod_lt_of_pos _ (by omega),⟨rfl,h2,q4.1,q4.2,h5⟩⟩
theorem nextS (N:Nat) {s:l00Src} {t:Nat} (h:SrcOK s t) (ht:t≤4000000) {n:Int} (h1:1<n) (hn:n≤256):∃b q,spec_l00Src_next_.m N s n=some (b,q)∧0≤b∧b<n∧SrcOK q (t+1):=by
 obtain ⟨b,q,e,b0,b1,hq⟩:=srcByte N h ht
 unfold spec_l00Src_next_.m
 rw [decide_eq_false (show ¬ n≤1 by omega),cond_false,decide_eq_true hn,cond_true,e,ob_some,decide_eq_false (show ¬ n=0 by omega)]
 exact ⟨_,_,rfl,Int.tmod_nonneg _ b0,Int.tmod_lt_of_pos _ (by omega),hq⟩
theorem lawsAt (N:Nat) (a:List Int) (i n:Int) (hl:a.length≤1048576) (hb':∀x∈a,0≤x∧x<256) (i0:0≤i) (i1:i≤8) (h1:0<n) (hn:n≤65536):∃k:Int,laws_at.m N a i n=some k∧(0:Int)≤k∧k<n:=by
 unfold laws_at.m
 by_cases hc:n≤1
 ·rw [decide_eq_true hc];exact ⟨0,rfl,Int.le_refl _,by omega⟩
 rw [decide_eq_false hc,cond_false,decide_eq_false (show ¬ n=0 by omega)]
 by_cases hz:(a.length:Int)=0
 ·rw [beq_iff_eq.2 hz]
  have q1:w64 (i * 7)=i * 7:=w_small (by omega) (by omega)
  rw [q1]
  exact ⟨_,rfl,Int.tmod_nonneg _ (by omega),Int.tmod_lt_of_pos _ (by omega)⟩
 ·have hz':((a.length:Int)==0)=false:=by rw [beq_eq_false_iff_ne];exact hz
  rw [hz',cond_false,decide_eq_false hz]
  have q1:w64 (i+1)=i+1:=w_small (by omega) (by omega)
  rw [q1]
  have p0:=Int.tmod_nonneg (a.length:Int) i0
  have p1:=Int.tmod_lt_of_pos i (show (0:Int)<(a.length:Int) by omega)
  have r0:=Int.tmod_nonneg (a.length:Int) (show 0≤i+1 by omega)
  have r1:=Int.tmod_lt_of_pos (i+1) (show (0:Int)<(a.length:Int) by omega)
  rw [decide_eq_true p0,decide_eq_true p1,decide_eq_true r0,decide_eq_true r1]
  obtain ⟨g0,g1⟩:=getD_rng hb' (Int.toNat (Int.tmod i (a.length:Int)))
  obtain ⟨k0,k1⟩:=getD_rng hb' (Int.toNat (Int.tmod (i+1) (a.length:Int)))
  generalize a.getD (Int.toNat (Int.tmod i (a.length:Int))) 0=x at g0 g1
  generalize a.getD (Int.toNat (Int.tmod (i+1) (a.length:Int))) 0=y at k0 k1
  have d0:0≤Int.tdiv i (a.length:Int):=Int.tdiv_nonneg i0 (by omega)
  have d1:Int.tdiv i (a.length:Int)≤i:=Int.tdiv_le_self _ i0
  generalize Int.tdiv i (a.length:Int)=z at d0 d1
  have s1:w64 x=x:=w_small (by omega) (by omega)
  have s2:w64 (x * 31)=x * 31:=w_small (by omega) (by omega)
  have s3:w64 y=y:=w_small (by omega) (by omega)
  have s4:w64 (x * 31+y)=x * 31+y:=w_small (by omega) (by omega)
  have s5:w64 z=z:=w_small (by omega) (by omega)
  have s6:w64 (x * 31+y+z)=x * 31+y+z:=w_small (by omega) (by omega)
  simp only [s1,s2,s3,s4,s5,s6]
  exact ⟨_,rfl,Int.tmod_nonneg _ (by omega),Int.tmod_lt_of_pos _ (by omega)⟩
def Dr {α:Type} (t:Nat) (r:Option (α×l00Src)) (P:α→Prop):Prop:=∃a q u,r=some (a,q)∧P a∧SrcOK q u∧u≤t
theorem Dr.bind {α β:Type} {t t':Nat} {r:Option (α×l00Src)} {P:α→Prop} {Q:β→Prop} {f:α×l00Src→Option (β×l00Src)} (h:Dr t r P) (k:∀a q u,P a→SrcOK q u→u≤t→Dr t' (f (a,q)) Q):Dr t' (ob r f) Q:=by
 obtain ⟨a,q,u,e,p,s,hu⟩:=h
 rw [e,ob_some];exact k a q u p s hu
theorem Dr.ret {α:Type} {t u:Nat} {a:α} {q:l00Src} {P:α→Prop} (h:P a) (s:SrcOK q u) (hu:u≤t):Dr t (some (a,q)) P:=⟨a,q,u,rfl,h,s,hu⟩
theorem nextD (N:Nat) {s:l00Src} {t u:Nat} (h:SrcOK s t) (ht:t≤3999999) {n:Int} (h1:1≤n) (hn:n≤256) (hu:t+1≤u):Dr u (spec_l00Src_next_.m N s n) (fun b=>0≤b∧b<n):=by
 by_cases e:n=1
 ·subst e
  exact ⟨0,s,t,rfl,⟨Int.le_refl _,by omega⟩,h,by omega⟩
 ·obtain ⟨b,q,e,b0,b1,hq⟩:=nextS N h (by omega) (show 1<n by omega) hn
  exact ⟨b,q,t+1,e,⟨b0,b1⟩,hq,hu⟩
theorem chanceD (N:Nat) {s:l00Src} {t u:Nat} (h:SrcOK s t) (ht:t≤3999999) {n:Int} (h1:1≤n) (hn:n≤256) (hu:t+1≤u):Dr u (spec_l00Src_chance_.m N s n) (fun _=>True):=by
 unfold spec_l00Src_chance_.m
 exact (nextD N h ht h1 hn hu).bind fun b q v _ hq hv=>.ret trivial hq hv
theorem pickD (N:Nat) {s:l00Src} {t u:Nat} (h:SrcOK s t) (ht:t≤3999999) (l:List ByteArray) (h1:1≤l.length) (h2:l.length≤256) (hu:t+1≤u):Dr u (spec_l00Src_pick_.m N s l) (fun x=>x∈l):=by
 unfold spec_l00Src_pick_.m
 rw [show ((l.length:Int)==0)=false by rw [beq_eq_false_iff_ne];omega,cond_false]
 refine (nextD N h ht (show (1:Int)≤(l.length:Int) by omega) (by omega) hu).bind fun b q v hb hq hv=>?_
 simp only []
 rw [decide_eq_true hb.1,decide_eq_true hb.2]
 exact .ret (getD_mem (by omega) _) hq hv
theorem sizeD (N:Nat) {s:l00Src} {t:Nat} (h:SrcOK s t) {n:Int} (h1:1≤n) (hn:n≤1000):∃z:Int,spec_l00Src_size.m N s n=some z∧1≤z∧z≤n:=by
 unfold spec_l00Src_size.m
 have hc:=h.len
 have e1:Int.tdiv (s.code.length:Int) 12=((s.code.length / 12:Nat):Int):=rfl
 have e2:w64 ((s.code.length / 12:Nat):Int)=((s.code.length / 12:Nat):Int):=w_small (by omega) (by omega)
 have e3:w64 (1+((s.code.length / 12:Nat):Int))=1+((s.code.length / 12:Nat):Int):=w_small (by omega) (by omega)
 rw [show (!decide ((12:Int)=0))=true from rfl,cond_true,e1,e2,e3]
 by_cases hc:n<1+((s.code.length / 12:Nat):Int)
 ·exact ⟨n,by simp only [if_pos hc],h1,Int.le_refl _⟩
 ·exact ⟨1+((s.code.length / 12:Nat):Int),by simp only [if_neg hc],by omega,by omega⟩
def keyL:List ByteArray:=[(⟨#[97]⟩:ByteArray),(⟨#[98]⟩:ByteArray),(⟨#[99]⟩:ByteArray),(⟨#[97,108,112,104,97]⟩:ByteArray),(⟨#[98,101,116,97]⟩:ByteArray)]
def datL:List ByteArray:=[ByteArray.empty,(⟨#[49]⟩:ByteArray),(⟨#[50]⟩:ByteArray),(⟨#[120]⟩:ByteArray),(⟨#[108,111,110,103,101,114,32,118,97,108,117,101]⟩:ByteArray)]
theorem keyD (N:Nat) {s:l00Src} {t u:Nat} (h:SrcOK s t) (ht:t≤3999999) (hu:t+1≤u):Dr u (spec_l00Src_key.m N s) (fun x=>x.size≤100):=by
 show Dr u (ob (spec_l00Src_pick_.m N s keyL) fun y2=>some (y2.1,y2.2)) _
 refine (pickD N h ht keyL (by decide) (by decide) hu).bind fun x q v hx hq hv=>.ret ?_ hq hv
 have:∀x∈keyL,x.size≤100:=by decide
 exact this x hx
theorem datumD (N:Nat) {s:l00Src} {t u:Nat} (h:SrcOK s t) (ht:t≤3999999) (hu:t+1≤u):Dr u (spec_l00Src_datum.m N s) (fun x=>x.size≤100):=by
 show Dr u (ob (spec_l00Src_pick_.m N s datL) fun y2=>some (y2.1,y2.2)) _
 refine (pickD N h ht datL (by decide) (by decide) hu).bind fun x q v hx hq hv=>.ret ?_ hq hv
 have:∀x∈datL,x.size≤100:=by decide
 exact this x hx
def CmdSz (c:Command):Prop:=c.Key.size≤100∧c.Value.size≤100
theorem commandD (N:Nat) {s:l00Src} {t u:Nat} (h:SrcOK s t) (ht:t≤3999000) (hu:t+10≤u):Dr u (spec_l00Src_command.m N s) CmdSz:=by
 have z:ByteArray.empty.size≤100:=by decide
 unfold spec_l00Src_command.m
 refine (nextD N h (by omega) (show (1:Int)≤5 by omega) (by omega) (Nat.le_refl _)).bind fun b1 q1 u1 p1 h1 l1=>?_
 simp only []
 rw [decide_eq_true p1.1,show decide (b1<(([(1:Int),(1:Int),(2:Int),(2:Int),(3:Int)]).length:Int))=true from decide_eq_true p1.2,cond_true,cond_true]
 refine (nextD N h1 (by omega) (show (1:Int)≤3 by omega) (by omega) (Nat.le_refl _)).bind fun b2 q2 u2 p2 h2 l2=>?_
 refine (nextD N h2 (by omega) (show (1:Int)≤5 by omega) (by omega) (Nat.le_refl _)).bind fun b3 q3 u3 p3 h3 l3=>?_
 refine (keyD N h3 (by omega) (Nat.le_refl _)).bind fun b4 q4 u4 p4 h4 l4=>?_
 refine (datumD N h4 (by omega) (Nat.le_refl _)).bind fun b5 q5 u5 p5 h5 l5=>?_
 simp only []
 generalize (([(1:Int),(1:Int),(2:Int),(2:Int),(3:Int)]).getD (Int.toNat b1) (0:Int))=kk
 cases kk==3 with
 | true=>
  refine (chanceD N h5 (by omega) (show (1:Int)≤4 by omega) (by omega) (Nat.le_refl _)).bind fun b6 q6 u6 p6 h6 l6=>?_
  cases b6 with
  | true=>
   refine (nextD N h6 (by omega) (show (1:Int)≤2 by omega) (by omega) (Nat.le_refl _)).bind fun b7 q7 u7 p7 h7 l7=>?_
   refine (nextD N h7 (by omega) (show (1:Int)≤3 by omega) (by omega) (Nat.le_refl _)).bind fun b8 q8 u8 p8 h8 l8=>?_
   exact .ret ⟨z,z⟩ h8 (by omega)
  | false=>exact .ret ⟨p4,z⟩ h6 (by omega)
 | false=>
  refine (chanceD N h5 (by omega) (show (1:Int)≤4 by omega) (by omega) (Nat.le_refl _)).bind fun b6 q6 u6 p6 h6 l6=>?_
  cases b6 with
  | true=>
   refine (nextD N h6 (by omega) (show (1:Int)≤2 by omega) (by omega) (Nat.le_refl _)).bind fun b7 q7 u7 p7 h7 l7=>?_
   refine (nextD N h7 (by omega) (show (1:Int)≤3 by omega) (by omega) (Nat.le_refl _)).bind fun b8 q8 u8 p8 h8 l8=>?_
   exact .ret ⟨z,z⟩ h8 (by omega)
  | false=>exact .ret ⟨p4,p5⟩ h6 (by omega)
theorem bytesD (N:Nat) {c:Command} (h:CmdSz c):∃l,spec_l02Bytes.m N c=some l∧l.length≤1000:=by
 obtain ⟨h1,h2⟩:=h
 have k1:(bytesOf c.Key).length=c.Key.size:=by simp [bytesOf]
 have k2:(bytesOf c.Value).length=c.Value.size:=by simp [bytesOf]
 unfold spec_l02Bytes.m
 have two:∀x:Int,spec_l02Two.m N x=some [wu8 (w64 (Int.tdiv x 256)),wu8 x]:=fun x=>rfl
 simp only [two,ob_some]
 rw [roomB (by simp) (by omega),roomB (by simp) (by omega),roomB (by simp) (by omega),roomB (by simp only [List.length_append,List.length_singleton,List.length_cons,List.length_nil];omega) (by omega),roomB (by simp only [List.length_append,List.length_singleton,List.length_cons,List.length_nil];omega) (by omega),roomB (by simp only [List.length_append,List.length_singleton,List.length_cons,List.length_nil];omega) (by omega)]
 simp only [cond_true]
 exact ⟨_,rfl,by simp only [List.length_append,List.length_singleton,List.length_cons,List.length_nil];omega⟩
theorem strOf_size (a:List Int):(strOf a).size=a.length:=by show ((a.map _).toArray).size=_;rw [List.size_toArray,List.length_map]
theorem act0 {k n d:Int} (h:k≠6):Act (GroupAct.mk k n d ByteArray.empty):=⟨fun e=>absurd e h,Nat.zero_le _⟩
theorem groupActD (N:Nat) {s:l00Src} {t u:Nat} (h:SrcOK s t) (ht:t≤3990000) {n:Int} (n1:1≤n) (n5:n≤5) (hu:t+30≤u):Dr u (spec_l00Src_groupAct.m N s n) Act:=by
 unfold spec_l00Src_groupAct.m
 refine (nextD N h (by omega) (show (1:Int)≤4 by omega) (by omega) (Nat.le_refl _)).bind fun b1 q1 u1 p1 h1 l1=>?_
 refine (nextD N h1 (by omega) (show (1:Int)≤12 by omega) (by omega) (Nat.le_refl _)).bind fun b2 q2 u2 p2 h2 l2=>?_
 refine (nextD N h2 (by omega) (show (1:Int)≤5 by omega) (by omega) (Nat.le_refl _)).bind fun b3 q3 u3 p3 h3 l3=>?_
 simp only []
 rw [decide_eq_true p3.1,show decide (b3<(([(0:Int),(0:Int),(0:Int),b1,b2]).length:Int))=true from decide_eq_true p3.2,cond_true,cond_true]
 refine (nextD N h3 (by omega) (show (1:Int)≤16 by omega) (by omega) (Nat.le_refl _)).bind fun b4 q4 u4 p4 h4 l4=>?_
 simp only []
 have tick:Dr u (ob (spec_l00Src_next_.m N q4 n) fun y5=>ob (spec_l00Src_next_.m N y5.2 (8:Int)) fun y6=>some ((GroupAct.mk (1:Int) y5.1 y6.1 ByteArray.empty),y6.2)) Act:=by
  refine (nextD N h4 (by omega) n1 (by omega) (Nat.le_refl _)).bind fun b5 q5 u5 p5 h5 l5=>?_
  refine (nextD N h5 (by omega) (show (1:Int)≤8 by omega) (by omega) (Nat.le_refl _)).bind fun b6 q6 u6 p6 h6 l6=>?_
  exact .ret (act0 (by decide)) h6 (by omega)
 have prop:Dr u (ob (spec_l00Src_next_.m N q4 n) fun y13=>ob (spec_l00Src_command.m N y13.2) fun y14=>ob (spec_l02Bytes.m N y14.1) fun y15=>some ((GroupAct.mk (5:Int) y13.1 (0:Int) (strOf y15)),y14.2)) Act:=by
  refine (nextD N h4 (by omega) n1 (by omega) (Nat.le_refl _)).bind fun b5 q5 u5 p5 h5 l5=>?_
  refine (commandD N h5 (by omega) (Nat.le_refl _)).bind fun b6 q6 u6 p6 h6 l6=>?_
  obtain ⟨l,e,hl⟩:=bytesD N p6
  simp only []
  rw [e,ob_some]
  refine .ret ⟨fun h=>absurd h (by show ¬ (5:Int)=6;decide),?_⟩ h6 (by omega)
  show (strOf l).size≤D16
  rw [strOf_size];simp only [D16];omega
 cases b4==0 with
 | true=>exact tick
 | false=>
 cases b4==1 with
 | true=>exact tick
 | false=>
 cases b4==2 with
 | true=>exact tick
 | false=>
 cases b4==3 with
 | true=>
  rw [cond_false,cond_false,cond_false,cond_true]
  refine (nextD N h4 (by omega) (show (1:Int)≤2 by omega) (by omega) (Nat.le_refl _)).bind fun b5 q5 u5 p5 h5 l5=>?_
  simp only []
  rw [decide_eq_true p5.1,show decide (b5<(([(3:Int),(4:Int)]).length:Int))=true from decide_eq_true p5.2,cond_true,cond_true]
  refine (nextD N h5 (by omega) (show (1:Int)≤5 by omega) (by omega) (Nat.le_refl _)).bind fun b6 q6 u6 p6 h6 l6=>?_
  refine .ret (act0 ?_) h6 (by omega)
  rcases (show b5=0∨b5=1 by omega) with e | e<;>rw [e]<;>decide
 | false=>
 cases b4==4 with
 | true=>exact prop
 | false=>
 cases b4==5 with
 | true=>exact prop
 | false=>
 cases b4==6 with
 | true=>
  rw [cond_false,cond_false,cond_false,cond_false,cond_false,cond_false,cond_true]
  refine (chanceD N h4 (by omega) (show (1:Int)≤2 by omega) (by omega) (Nat.le_refl _)).bind fun b5 q5 u5 p5 h5 l5=>?_
  cases b5 with
  | false=>exact .ret (act0 (by decide)) h5 (by omega)
  | true=>
   simp only [cond_true]
   refine (nextD N h5 (by omega) (show (1:Int)≤2 by omega) (by omega) (Nat.le_refl _)).bind fun b6 q6 u6 p6 h6 l6=>?_
   simp only []
   rw [decide_eq_true p6.1,show decide (b6<(([(7:Int),(8:Int)]).length:Int))=true from decide_eq_true p6.2,cond_true,cond_true]
   refine (nextD N h6 (by omega) n1 (by omega) (Nat.le_refl _)).bind fun b7 q7 u7 p7 h7 l7=>?_
   refine .ret (act0 ?_) h7 (by omega)
   rcases (show b6=0∨b6=1 by omega) with e | e<;>rw [e]<;>decide
 | false=>
 cases b4==7 with
 | true=>
  rw [cond_false,cond_false,cond_false,cond_false,cond_false,cond_false,cond_false,cond_true]
  refine (chanceD N h4 (by omega) (show (1:Int)≤2 by omega) (by omega) (Nat.le_refl _)).bind fun b5 q5 u5 p5 h5 l5=>?_
  cases b5 with
  | false=>exact .ret (act0 (by decide)) h5 (by omega)
  | true=>
   simp only [cond_true]
   refine (nextD N h5 (by omega) n1 (by omega) (Nat.le_refl _)).bind fun b6 q6 u6 p6 h6 l6=>?_
   refine (pickD N h6 (by omega) _ (by decide) (by decide) (Nat.le_refl _)).bind fun b7 q7 u7 p7 h7 l7=>?_
   have f:Five b7:=by
    simp only [List.mem_cons,List.not_mem_nil,or_false] at p7
    exact p7
   refine .ret ⟨fun _=>f,?_⟩ h7 (by omega)
   have:=f.size
   show b7.size≤D16
   simp only [D16];omega
 | false=>exact .ret (act0 (by decide)) h4 (by omega)
def Acts (k:Nat) (l:List GroupAct):Prop:=l.length≤k∧∀a∈l,Act a
theorem Acts.snoc {k:Nat} {l:List GroupAct} {a:GroupAct} (h:Acts k l) (ha:Act a):Acts (k+1) (l++[a]):=⟨by rw [List.length_append,List.length_singleton];have:=h.1;omega,fun x hx=>by
 rcases List.mem_append.1 hx with q | q
 ·exact h.2 x q
 ·rw [List.mem_singleton.1 q];exact ha⟩
theorem Acts.app {k j:Nat} {l m:List GroupAct} (h:Acts k l) (h':Acts j m):Acts (k+j) (l++m):=⟨by rw [List.length_append];have:=h.1;have:=h'.1;omega,fun x hx=>by
 rcases List.mem_append.1 hx with q | q
 ·exact h.2 x q
 ·exact h'.2 x q⟩
theorem electedD {N:Nat} (hN:Big N) {s:l00Src} {t u:Nat} (h:SrcOK s t) (ht:t≤3990000) (hu:t+20≤u) (v:Int):Dr u (spec_l00Src_elected.m N s v) (Acts 28):=by
 unfold spec_l00Src_elected.m spec_l00Src_elected.m0
 have tail:∀(c:Int) (q:l00Src) (w:Nat) (l:List GroupAct),0≤c→c≤15→SrcOK q w→w≤u→Acts 13 l→Dr u (spec_l00Src_elected.lp7 N s v (c,q.code,q.«at»,q.seed,l)) (Acts 28):=by
  intro c q w l c0 c1 hq hw hl
  unfold spec_l00Src_elected.lp7
  refine miter_all (p:=fun r=>Dr u r (Acts 28)) (fun x:Int×List Int×Int×Int×List GroupAct=>x.1.toNat) (fun x=>∃(j:Int) (l':List GroupAct),x=(j,q.code,q.«at»,q.seed,l')∧0≤j∧l'.length+j.toNat≤28∧∀a∈l',Act a) ?_ N _ ⟨c,l,rfl,c0,by have:=hl.1;omega,hl.2⟩ (by simp only [];omega)
  rintro x ⟨j,l',rfl,j0,j1,j2⟩ rec hrec
  simp only [spec_l00Src_elected.step7]
  by_cases hj:j > 0
  ·rw [decide_eq_true hj,cond_true,roomB (by rw [List.length_singleton];omega) (by omega),cond_true,w_small (x:=j - 1) (by omega) (by omega)]
   refine hrec _ ⟨j - 1,_,rfl,by omega,by rw [List.length_append,List.length_singleton];omega,fun a ha=>?_⟩ (by simp only [];omega)
   rcases List.mem_append.1 ha with q | q
   ·exact j2 a q
   ·rw [List.mem_singleton.1 q];exact act0 (by decide)
  ·rw [decide_eq_false hj,cond_false]
   exact .ret ⟨by omega,j2⟩ hq hw
 unfold spec_l00Src_elected.lp3
 refine miter_all (p:=fun r=>Dr u r (Acts 28)) (fun x:Int×List Int×Int×Int×List GroupAct=>(13 - x.1).toNat) (fun x=>∃(j:Nat) (q:l00Src) (w:Nat) (l':List GroupAct),x=((j:Int),q.code,q.«at»,q.seed,l')∧j≤13∧SrcOK q w∧w≤t+j∧Acts j l') ?_ N _ ⟨0,s,t,[],rfl,by omega,h,by omega,Nat.zero_le _,fun a ha=>absurd ha List.not_mem_nil⟩ (by simp only [];omega)
 rintro x ⟨j,q,w,l',rfl,j1,hq,hw,hl⟩ rec hrec
 have hl1:=hl.1
 simp only [spec_l00Src_elected.step3]
 by_cases hj:j<13
 ·rw [show decide ((j:Int)<13)=true from decide_eq_true (by omega),cond_true]
  refine (nextD N (s:=l00Src.mk q.code q.«at» q.seed) hq (by omega) (show (1:Int)≤4 by omega) (by omega) (Nat.le_refl _)).bind fun b1 q1 u1 p1 h1 l1=>?_
  simp only []
  rw [roomB (by rw [List.length_singleton];omega) (by omega),cond_true,w_up j 13 hj (by omega)]
  exact hrec _ ⟨j+1,q1,u1,_,rfl,hj,h1,by omega,hl.snoc (act0 (by decide))⟩ (by simp only [];omega)
 ·rw [show decide ((j:Int)<13)=false from decide_eq_false (by omega),cond_false]
  refine (nextD N (s:=l00Src.mk q.code q.«at» q.seed) hq (by omega) (show (1:Int)≤12 by omega) (by omega) (Nat.le_refl _)).bind fun b1 q1 u1 p1 h1 l1=>?_
  simp only []
  rw [w_small (x:=4+b1) (by omega) (by omega)]
  exact tail _ q1 u1 l' (by omega) (by omega) h1 (by omega) ⟨by omega,hl.2⟩
theorem groupActsD {N:Nat} (hN:Big N) {s:l00Src} {t u:Nat} (h:SrcOK s t) (ht:t≤100000) (hu:t+100000≤u) {n:Int} (n1:1≤n) (n5:n≤5):Dr u (spec_l00Src_groupActs.m N s n) (Acts 260):=by
 unfold spec_l00Src_groupActs.m spec_l00Src_groupActs.m0
 have main:∀(c:Int) (q:l00Src) (w:Nat) (l:List GroupAct),0≤c→c≤100→SrcOK q w→w≤t+1000→Acts 258 l→Dr u (spec_l00Src_groupActs.lp5 N s n (c,q.code,q.«at»,q.seed,l)) (Acts 260):=by
  intro c q w l c0 c1 hq hw hl
  unfold spec_l00Src_groupActs.lp5
  refine miter_all (p:=fun r=>Dr u r (Acts 260)) (fun x:Int×List Int×Int×Int×List GroupAct=>x.1.toNat) (fun x=>∃(j:Int) (q:l00Src) (w:Nat) (l':List GroupAct),x=(j,q.code,q.«at»,q.seed,l')∧0≤j∧j≤100∧SrcOK q w∧w+100 * j.toNat≤t+20000∧Acts 258 l') ?_ N _ ⟨c,q,w,l,rfl,c0,c1,hq,by omega,hl⟩ (by simp only [];omega)
  rintro x ⟨j,q,w,l',rfl,j0,j1,hq,hw,hl⟩ rec hrec
  simp only [spec_l00Src_groupActs.step5]
  by_cases hj:j > 0
  ·rw [decide_eq_true hj]
   simp only [cond_true]
   by_cases h2:(l'.length:Int)<230
   ·rw [decide_eq_true h2,cond_true]
    refine (groupActD N (s:=l00Src.mk q.code q.«at» q.seed) hq (by omega) n1 n5 (Nat.le_refl _)).bind fun b1 q1 u1 p1 h1 l1=>?_
    simp only []
    rw [roomB (by rw [List.length_singleton];omega) (by omega),cond_true]
    refine (chanceD N h1 (by omega) (show (1:Int)≤30 by omega) (by omega) (Nat.le_refl _)).bind fun b2 q2 u2 p2 h2' l2=>?_
    have a1:Acts 230 (l'++[b1]):=Acts.snoc (k:=229) ⟨by omega,hl.2⟩ p1
    have e1:w64 (j - 1)=j - 1:=w_small (by omega) (by omega)
    cases b2 with
    | false=>
     simp only [cond_false]
     rw [e1]
     exact hrec _ ⟨j - 1,q2,u2,_,rfl,by omega,by omega,h2',by omega,by have:=a1.1;omega,a1.2⟩ (by simp only [];omega)
    | true=>
     simp only [cond_true]
     refine (nextD N h2' (by omega) n1 (by omega) (Nat.le_refl _)).bind fun b3 q3 u3 p3 h3 l3=>?_
     refine (electedD hN h3 (by omega) (Nat.le_refl _) b3).bind fun b4 q4 u4 p4 h4 l4=>?_
     simp only []
     have a2:=a1.app p4
     have a3:=a1.1
     have a4:=p4.1
     rw [roomB (by omega) (by omega),cond_true,e1]
     exact hrec _ ⟨j - 1,q4,u4,_,rfl,by omega,by omega,h4,by omega,a2⟩ (by simp only [];omega)
   ·rw [decide_eq_false h2,cond_false]
    exact .ret ⟨by have:=hl.1;omega,hl.2⟩ hq (by omega)
  ·rw [decide_eq_false hj,cond_false]
   exact .ret ⟨by have:=hl.1;omega,hl.2⟩ hq (by omega)
 refine (chanceD N h (by omega) (show (1:Int)≤5 by omega) (by omega) (Nat.le_refl _)).bind fun b1 q1 u1 p1 h1 l1=>?_
 cases b1 with
 | false=>
  simp only [Bool.not_false,cond_true]
  refine (nextD N h1 (by omega) n1 (by omega) (Nat.le_refl _)).bind fun b2 q2 u2 p2 h2 l2=>?_
  refine (electedD hN h2 (by omega) (Nat.le_refl _) b2).bind fun b3 q3 u3 p3 h3 l3=>?_
  obtain ⟨z,ez,z0,z1⟩:=sizeD N h3 (show (1:Int)≤60 by omega) (by omega)
  simp only []
  rw [ez,ob_some,w_small (x:=z+8) (by omega) (by omega)]
  refine (nextD N h3 (by omega) (show (1:Int)≤z+8 by omega) (by omega) (Nat.le_refl _)).bind fun b4 q4 u4 p4 h4 l4=>?_
  exact main b4 q4 u4 b3 p4.1 (by omega) h4 (by omega) ⟨by have:=p3.1;omega,p3.2⟩
 | true=>
  simp only [Bool.not_true,cond_false]
  obtain ⟨z,ez,z0,z1⟩:=sizeD N h1 (show (1:Int)≤60 by omega) (by omega)
  rw [ez,ob_some,w_small (x:=z+8) (by omega) (by omega)]
  refine (nextD N h1 (by omega) (show (1:Int)≤z+8 by omega) (by omega) (Nat.le_refl _)).bind fun b4 q4 u4 p4 h4 l4=>?_
  exact main b4 q4 u4 [] p4.1 (by omega) h4 (by omega) ⟨Nat.zero_le _,fun a ha=>absurd ha List.not_mem_nil⟩
def st0 (n:Nat):List Int:=(List.range (min n 3)).map fun (j:Nat)=>(j:Int)
def nodes0 (st:List Int) (n:Nat):List Node:=(List.range n).map fun (j:Nat)=>node0 (j:Int) st
theorem map_snoc {α:Type} (f:Nat→α) (i:Nat):(List.range (i+1)).map f=(List.range i).map f++[f i]:=by rw [List.range_succ,List.map_append];rfl
theorem newGroupZ {N:Nat} (hN:Big N) {n:Nat} (n1:1≤n) (n5:n≤5):spec_NewGroup.m N (n:Int)=some (⟨nodes0 (st0 n) n,[],[],[]⟩,0):=by
 unfold spec_NewGroup.m
 rw [l01In,ob_some,inB_iff.2 ⟨show (1:Int)≤n by omega,show (n:Int)≤5 by omega⟩]
 simp only [Bool.not_true,cond_false]
 have last:spec_l11New.lp8 N (n:Int) (.s0 0 (st0 n) [] [] [])=some ⟨nodes0 (st0 n) n,[],[],[]⟩:=by
  unfold spec_l11New.lp8
  have hl:(st0 n).length≤3:=by unfold st0;rw [List.length_map,List.length_range];omega
  have:=miter_up (step:=fun rec=>spec_l11New.step8 N (n:Int) rec) (n:=n) (st:=fun i=>if i=0 then .s0 (i:Int) (st0 n) [] [] [] else .s1 (i:Int) (st0 n) (nodes0 (st0 n) i) [] [] []) (r:=some ⟨nodes0 (st0 n) n,[],[],[]⟩) (fun i hi rec=>by
   have hs:nodes0 (st0 n) (i+1)=nodes0 (st0 n) i++[node0 (i:Int) (st0 n)]:=map_snoc _ i
   have hln:(nodes0 (st0 n) i).length=i:=by unfold nodes0;rw [List.length_map,List.length_range]
   rw [if_neg (show ¬ i+1=0 by omega),hs]
   by_cases h0:i=0
   ·subst h0
    rw [if_pos rfl]
    simp only [spec_l11New.step8,lt_dec hi,cond_true,l10New N hN _ (st0 n) (by omega),ob_some]
    rw [roomB (by rw [List.length_singleton];omega) (by omega),cond_true,w_up 0 _ hi (by omega)];rfl
   ·rw [if_neg h0]
    simp only [spec_l11New.step8,lt_dec hi,cond_true,l10New N hN _ (st0 n) (by omega),ob_some]
    rw [roomB (by rw [List.length_singleton];omega) (by omega),cond_true,w_up i _ hi (by omega)]) (fun rec=>by
   rw [if_neg (by omega)]
   simp only [spec_l11New.step8,ge_dec,cond_false]) n 0 N (by omega) (by omega)
  exact this
 have em:(if (3:Int)<(n:Int) then 3 else (n:Int))=((min n 3:Nat):Int):=by split<;>omega
 have new:spec_l11New.m N (n:Int)=some ⟨nodes0 (st0 n) n,[],[],[]⟩:=by
  unfold spec_l11New.m spec_l11New.m0 spec_l11New.lp3
  have:=miter_up (step:=fun rec=>spec_l11New.step3 N (n:Int) (spec_l11New.lp8 N (n:Int)) rec) (n:=min n 3) (st:=fun i=>((i:Int),(List.range i).map fun (j:Nat)=>(j:Int))) (r:=some ⟨nodes0 (st0 n) n,[],[],[]⟩) (fun i hi rec=>by
   simp only [spec_l11New.step3]
   rw [em,lt_dec hi,cond_true,roomB (by rw [List.length_map,List.length_range,List.length_singleton];omega) (by omega),cond_true,w_up i _ hi (by omega),map_snoc]) (fun rec=>by
   simp only [spec_l11New.step3]
   rw [em,ge_dec,cond_false]
   exact last) (min n 3) 0 N (by omega) (by omega)
  exact this
 rw [new,ob_some]
theorem nd0 (st:List Int) (n:Nat) (v:Int):ndOf st (nodes0 st n) v=node0 v st:=by
 unfold ndOf
 split
 ·rename_i h
  unfold nodes0 at h ⊢
  rw [List.length_map,List.length_range] at h
  rw [List.getD_eq_getElem?_getD,List.getElem?_map,List.getElem?_range (by omega)]
  show node0 ((v.toNat:Nat):Int) st=_
  rw [show ((v.toNat:Nat):Int)=v by omega]
 ·rfl
theorem st0_is (n:Nat) (n1:1≤n) (n5:n≤5):st0 n=[0]∨st0 n=[0,1]∨st0 n=[0,1,2]:=by
 rcases (show n=1∨n=2∨n=3∨n=4∨n=5 by omega) with e | e | e | e | e<;>rw [e]
 ·exact .inl rfl
 ·exact .inr (.inl rfl)
 ·exact .inr (.inr rfl)
 ·exact .inr (.inr rfl)
 ·exact .inr (.inr rfl)
theorem st0_one (n:Nat) (n1:1≤n) (n5:n≤5) (h:st0 n=[0]):n=1:=by
 rcases (show n=1∨n=2∨n=3∨n=4∨n=5 by omega) with e | e | e | e | e
 ·exact e
 ·rw [e] at h;exact absurd h (by decide)
 ·rw [e] at h;exact absurd h (by decide)
 ·rw [e] at h;exact absurd h (by decide)
 ·rw [e] at h;exact absurd h (by decide)
theorem KL.new {st:List Int} (hs:st=[0]∨st=[0,1]∨st=[0,1,2]) {v:Int} (v0:0≤v) (v4:v≤4):KL (node0 v st):=by
 have w:w64 (5+v)=5+v:=w_small (by omega) (by omega)
 have ids:idsB (ix st) st.length=true∧0<st.length:=by rcases hs with e | e | e<;>rw [e]<;>exact ⟨rfl,by decide⟩
 refine ⟨v0,by show v≤6;omega,Int.le_refl _,by show (0:Int)≤1000000;decide,by show (-1:Int)≤-1;decide,by show (-1:Int)≤6;decide,fun e he=>absurd he List.not_mem_nil,Nat.zero_le _,ids.1,ids.2,rfl,Int.le_refl _,by show (0:Int)≤2;decide,rfl,rfl,Int.le_refl _,Int.le_refl _,Int.le_refl _,by show (0:Int)≤1000;decide,by show 5≤w64 (5+v);omega,by show w64 (5+v)≤100;omega,rep_nx 0,rep_mt,.inl rfl,.inl rfl⟩
theorem GS.init {n:Nat} (n1:1≤n) (n5:n≤5):GS (st0 n) g0 0 ⟨nodes0 (st0 n) n,[],[],[]⟩:=by
 have hl:(nodes0 (st0 n) n).length=n:=by unfold nodes0;rw [List.length_map,List.length_range]
 have hs:=st0_is n n1 n5
 have hx:∀x∈nodes0 (st0 n) n,∃v:Int,0≤v∧v≤4∧x=node0 v (st0 n):=fun x hx=>by
  obtain ⟨j,hj,e⟩:=List.mem_map.1 hx
  rw [List.mem_range] at hj
  exact ⟨(j:Int),by omega,by omega,e.symm⟩
 refine ⟨by show 0<(nodes0 (st0 n) n).length;omega,by show (nodes0 (st0 n) n).length≤5;omega,fun q=>by show (nodes0 (st0 n) n).length=1;rw [hl];exact st0_one n n1 n5 q,Nat.zero_le _,Nat.le_refl _,Nat.le_refl _,fun m hm=>absurd hm List.not_mem_nil,fun x h=>?_,fun x h=>?_,fun m hm=>absurd hm List.not_mem_nil,fun m hm=>absurd hm List.not_mem_nil,fun m hm=>absurd hm List.not_mem_nil,Inv.init hs fun v=>?_⟩
 ·obtain ⟨v,v0,v4,rfl⟩:=hx x h
  exact KL.new hs v0 v4
 ·obtain ⟨v,v0,v4,rfl⟩:=hx x h
  exact .inl (Int.le_refl _)
 ·show (ndOf (st0 n) (nodes0 (st0 n) n) v).Id=v∧_
  rw [nd0];exact ⟨rfl,rfl,rfl,rfl,rfl,rfl⟩
theorem ownG {N:Nat} (hN:Big N) {st:List Int} {gh:Gh} {i:Nat} {g:Group} (I:GS st gh i g) (hi:i≤1000):spec_l11Own.m N g=some g:=by
 have il:=I.l
 have id:=I.d
 have iw:=I.w
 have n5:=I.n5
 have last:∀A B C,spec_l11Own.lp13 N g ((0:Int),A,B,[],C)=some ⟨A,B,g.Leads,C⟩:=fun A B C=>by
  unfold spec_l11Own.lp13
  have:=miter_up (step:=fun rec=>spec_l11Own.step13 N g rec) (n:=g.Leads.length) (st:=fun k=>((k:Int),A,B,g.Leads.take k,C)) (r:=some ⟨A,B,g.Leads,C⟩) (fun k hk rec=>by
   have hc:=I.ls _ (getD_mem hk Lead.dz)
   simp only [spec_l11Own.step13,lt_dec hk,nn_dec,cond_true,Int.toNat_natCast]
   rw [roomB (by simp only [List.length_nil];omega) (by omega),roomB (by rw [List.length_take,List.length_singleton];omega) (by omega),w_up k _ hk (by omega),take_s hk Lead.dz]
   rfl) (fun rec=>by
   simp only [spec_l11Own.step13,ge_dec,cond_false,List.take_length]) g.Leads.length 0 N (by omega) (by omega)
  exact this
 have mid:∀A C,spec_l11Own.lp7 N g ((0:Int),A,[],[],C)=some ⟨A,g.Wire,g.Leads,C⟩:=fun A C=>by
  unfold spec_l11Own.lp7
  have:=miter_up (step:=fun rec=>spec_l11Own.step7 N g (spec_l11Own.lp13 N g) rec) (n:=g.Wire.length) (st:=fun k=>((k:Int),A,g.Wire.take k,([]:List Lead),C)) (r:=some ⟨A,g.Wire,g.Leads,C⟩) (fun k hk rec=>by
   have hm:=I.wk _ (getD_mem hk Message.dz)
   have h6:=hm.i60
   have h0:=hm.i0
   simp only [spec_l11Own.step7,lt_dec hk,nn_dec,cond_true,Int.toNat_natCast]
   rw [roomB (by simp only [List.length_nil];omega) (by omega),roomB (by rw [List.length_take,List.length_singleton];omega) (by omega),w_up k _ hk (by omega),take_s hk Message.dz]
   rfl) (fun rec=>by
   simp only [spec_l11Own.step7,ge_dec,cond_false,List.take_length]
   exact last A g.Wire C) g.Wire.length 0 N (by omega) (by omega)
  exact this
 unfold spec_l11Own.m spec_l11Own.m0
 rw [roomB (by simp only [List.length_nil];omega) (by omega),cond_true]
 unfold spec_l11Own.lp3
 have:=miter_up (step:=fun rec=>spec_l11Own.step3 N g (spec_l11Own.lp7 N g) rec) (n:=g.Nodes.length) (st:=fun k=>((k:Int),g.Nodes.take k,([]:List Message),([]:List Lead),g.Dones)) (r:=some g) (fun k hk rec=>by
  have kl:=I.kl _ (getD_mem hk Node.dz)
  simp only [spec_l11Own.step3,lt_dec hk,nn_dec,cond_true,Int.toNat_natCast,ownS _ kl.gt.g.sz,ob_some]
  rw [roomB (by rw [List.length_take,List.length_singleton];omega) (by omega),cond_true,w_up k _ hk (by omega),take_s hk Node.dz]) (fun rec=>by
  simp only [spec_l11Own.step3,ge_dec,cond_false,List.take_length]
  exact mid g.Nodes g.Dones) g.Nodes.length 0 N (by omega) (by omega)
 exact this
theorem groupRunZ {N:Nat} (hN:Big N) {n:Nat} (n1:1≤n) (n5:n≤5) (acts:List GroupAct) (hl:acts.length≤260) (ha:∀a∈acts,Act a):∃g codes gh,spec_GroupRun.m N (n:Int) acts=some (g,codes,0)∧GS (st0 n) gh acts.length g∧g.Nodes.length=n:=by
 unfold spec_GroupRun.m spec_GroupRun.m0
 rw [decide_eq_false (show ¬ (acts.length:Int) > 4096 by omega),newGroupZ hN (by omega) n5,ob_some,decide_eq_false (show ¬ (acts.length:Int) > 260 by omega)]
 simp only [cond_false,show ((0:Int) != 0)=false from rfl]
 unfold spec_GroupRun.lp10
 refine miter_all (p:=fun (r:Option (Group×List Int×Int))=>∃g codes gh,r=some (g,codes,0)∧GS (st0 n) gh acts.length g∧g.Nodes.length=n) (fun s=>match s with | .s0 v _ _ _ _ _=>((acts.length:Int) - v).toNat | .s1 v _ _ _ _ _=>((acts.length:Int) - v).toNat) (fun s=>∃(i:Nat) (g:Group) (codes:List Int) (gh:Gh),(s = .s0 (i:Int) g.Nodes g.Wire g.Leads g.Dones codes∨s = .s1 (i:Int) g.Nodes g.Wire g.Leads g.Dones codes)∧i≤acts.length∧codes.length=i∧GS (st0 n) gh i g∧g.Nodes.length=n) ?_ N _ ⟨0,⟨nodes0 (st0 n) n,[],[],[]⟩,[],g0,.inl rfl,Nat.zero_le _,rfl,GS.init (by omega) n5,by show (nodes0 (st0 n) n).length=n;unfold nodes0;rw [List.length_map,List.length_range]⟩ (by show ((acts.length:Int) - 0).toNat<N;omega)
 rintro s ⟨i,g,codes,gh,hs,hi,hc,I,hn⟩ rec hrec
 have down:((acts.length:Int) - ((i+1:Nat):Int)).toNat<((acts.length:Int) - (i:Int)).toNat∨¬ i<acts.length:=by omega
 have own:¬ i<acts.length→∃g' codes' gh',(ob (spec_l11Own.m N (Group.mk g.Nodes g.Wire g.Leads g.Dones)) fun y=>some (y,codes,(0:Int)))=some (g',codes',0)∧GS (st0 n) gh' acts.length g'∧g'.Nodes.length=n:=fun h=>by
  have e:i=acts.length:=by omega
  have o:spec_l11Own.m N (Group.mk g.Nodes g.Wire g.Leads g.Dones)=some g:=ownG hN I (by omega)
  rw [o,ob_some]
  exact ⟨g,codes,gh,rfl,by rw [← e];exact I,hn⟩
 by_cases h:i<acts.length
 ·obtain ⟨g1,c,gh1,e,I1,nn1⟩:=stepZ hN I (by omega) (ha _ (getD_mem h GroupAct.dz))
  have e:spec_l11Step.m N (Group.mk g.Nodes g.Wire g.Leads g.Dones) (acts.getD i GroupAct.dz)=some (g1,c):=e
  have hsz:=(ha _ (getD_mem h GroupAct.dz)).size
  simp only [D16] at hsz
  have go:∀f:Option (Group×List Int×Int),f=rec (.s1 ((i+1:Nat):Int) g1.Nodes g1.Wire g1.Leads g1.Dones (codes++[c]))→∃g' codes' gh',f=some (g',codes',0)∧GS (st0 n) gh' acts.length g'∧g'.Nodes.length=n:=fun f hf=>by
   rw [hf]
   refine hrec _ ⟨i+1,g1,codes++[c],gh1,.inr rfl,h,by rw [List.length_append,List.length_singleton,hc],I1,nn1.trans hn⟩ ?_
   rcases hs with rfl | rfl
   ·show ((acts.length:Int) - ((i+1:Nat):Int)).toNat<((acts.length:Int) - (i:Int)).toNat;omega
   ·show ((acts.length:Int) - ((i+1:Nat):Int)).toNat<((acts.length:Int) - (i:Int)).toNat;omega
  rcases hs with rfl | rfl
  ·refine go _ ?_
   simp only [spec_GroupRun.step10,lt_dec h,nn_dec,cond_true,Int.toNat_natCast]
   rw [decide_eq_false (show ¬ ((acts.getD i GroupAct.dz).Data.size:Int) > 65536 by omega),cond_false,e,ob_some,roomB (by rw [List.length_singleton];omega) (by omega),cond_true,w_up i _ h (by omega)]
  ·refine go _ ?_
   simp only [spec_GroupRun.step10,lt_dec h,nn_dec,cond_true,Int.toNat_natCast]
   rw [decide_eq_false (show ¬ ((acts.getD i GroupAct.dz).Data.size:Int) > 65536 by omega),cond_false,e,ob_some,roomB (by rw [List.length_singleton];omega) (by omega),cond_true,w_up i _ h (by omega)]
 ·rcases hs with rfl | rfl
  ·simp only [spec_GroupRun.step10]
   rw [decide_eq_false (show ¬ (i:Int)<(acts.length:Int) by omega),cond_false]
   exact own h
  ·simp only [spec_GroupRun.step10]
   rw [decide_eq_false (show ¬ (i:Int)<(acts.length:Int) by omega),cond_false]
   exact own h
theorem KL.ok {st:List Int} {g:Gh} {x:Node} {v:Int} (h:KL x) (hh:Hist st g) (n:NI st g v x):okB x=true:=by
 have c1:=h.c1
 have ll:=h.ll
 have t1:=h.t1
 have log:logB x.Log x.Term=true:=by
  unfold logB
  rw [allF_iff]
  intro j _ hj
  have hj:j<x.Log.length:=by omega
  have m:ex x.Log j∈x.Log:=by unfold ex;exact getD_mem hj _
  have p:=hh.posL n.gl hj
  have q:=n.tle j hj
  have d:=h.dl _ m
  have e:entB (ex x.Log j)=(inB (ex x.Log j).Term 1 1000000&&datB (ex x.Log j)):=rfl
  rw [e,d,inB_iff.2 ⟨p,by omega⟩,decide_eq_false (show ¬ (ex x.Log j).Term > x.Term by omega)]
  by_cases j0:0<j
  ·have mo:=hh.monoL n.gl (show j - 1≤j by omega) hj
   rw [decide_eq_true j0,decide_eq_false (show ¬ (ex x.Log (j - 1)).Term > (ex x.Log j).Term by omega)];rfl
  ·rw [decide_eq_false j0];rfl
 have reach:reachB x.Next x.Match x.Log.length=true:=by
  unfold reachB
  rw [allF_iff]
  intro j _ hj
  have a:=h.nx j (by omega)
  have b:=h.mt j (by omega)
  unfold reachP
  rw [w_small (x:=(x.Log.length:Int)+1) (by omega) (by omega),w_small (x:=ix x.Next j - 1) (by omega) (by omega),inB_iff.2 a,inB_iff.2 b];rfl
 have up:(x.Up||x.Role==0)=true:=by
  rcases h.up with e | e
  ·rw [e];rfl
  ·rw [e];simp
 have st:stB ⟨x.Term,x.Vote,x.Log⟩=true:=by
  unfold stB
  rw [inB_iff.2 ⟨h.t0,h.t1⟩,inB_iff.2 ⟨h.v0,h.v1⟩,decide_eq_true (show (x.Log.length:Int)≤60 by omega),log];rfl
 unfold okB
 rw [inB_iff.2 ⟨h.id0,h.id6⟩,st,h.ss,decide_eq_true h.s0,h.vt,inB_iff.2 ⟨h.r0,h.r1⟩,decide_eq_true h.n7,decide_eq_true h.m7,inB_iff.2 ⟨h.c0,h.c1⟩,inB_iff.2 ⟨h.e0,h.e1⟩,inB_iff.2 ⟨h.w0,h.w1⟩,reach,up]
 rfl
theorem GS.okAt {st:List Int} {gh:Gh} {i:Nat} {g:Group} (h:GS st gh i g) {v:Nat} (hv:v<g.Nodes.length):okB (g.Nodes.getD v Node.dz)=true∧KL (g.Nodes.getD v Node.dz):=by
 obtain ⟨kl,_,en,_⟩:=h.at (v:=(v:Int)) (by omega) (by omega)
 have n:=h.inv.ni (v:Int)
 rw [en] at n
 rw [Int.toNat_natCast] at kl n
 exact ⟨kl.ok h.inv.hist n,kl⟩
theorem nodeD {N:Nat} (hN:Big N) {s:l00Src} {t u:Nat} (h:SrcOK s t) (ht:t≤1000) (hu:t+200000≤u):Dr u (spec_l00Src_node.m N s) (fun x=>okB x=true∧KL x):=by
 unfold spec_l00Src_node.m
 have grp:Dr (t+150000) (spec_l00Src_group_.m N s) (fun g=>∃st gh i,GS st gh i g):=by
  unfold spec_l00Src_group_.m
  refine (nextD N h (by omega) (show (1:Int)≤5 by omega) (by omega) (Nat.le_refl _)).bind fun b1 q1 u1 p1 h1 l1=>?_
  obtain ⟨k,rfl⟩:=Int.eq_ofNat_of_zero_le p1.1
  have hw:w64 ((1:Int)+(k:Int))=((1+k:Nat):Int):=by rw [w_small (by omega) (by omega)];omega
  simp only []
  rw [hw]
  refine (groupActsD hN h1 (by omega) (Nat.le_refl _) (n:=((1+k:Nat):Int)) (by omega) (by omega)).bind fun b2 q2 u2 p2 h2 l2=>?_
  obtain ⟨g,codes,gh,e,I,gn⟩:=groupRunZ hN (n:=1+k) (by omega) (by omega) b2 p2.1 p2.2
  simp only []
  rw [e,ob_some]
  exact .ret ⟨_,gh,_,I⟩ h2 (by omega)
 refine grp.bind fun g q v hg hq hv=>?_
 obtain ⟨st,gh,i,I⟩:=hg
 have n0:=I.n0
 have n5:=I.n5
 refine (nextD N hq (by omega) (show (1:Int)≤(g.Nodes.length:Int) by omega) (by omega) (Nat.le_refl _)).bind fun b1 q1 u1 p1 h1 l1=>?_
 simp only []
 rw [decide_eq_true p1.1,decide_eq_true p1.2]
 exact .ret (I.okAt (by omega)) h1 (by omega)
theorem nodeOf {N:Nat} (hN:Big N) (a:List Int) (hl:a.length≤1048576) (hb':∀x∈a,0≤x∧x<256):∃x,spec_NodeOf.m N a=some x∧okB x=true∧KL x:=by
 obtain ⟨x,q,u,e,h,_⟩:=nodeD hN (srcNew (by omega) hb') (by omega) (Nat.le_refl _)
 unfold spec_NodeOf.m
 rw [srcS,ob_some,e,ob_some]
 exact ⟨x,rfl,h⟩
theorem wfBytesR {a:List Int} (h:∃n,WfE E (WfA E n) (.slice 5 (.int .u8)) a):∀x∈a,0≤x∧x<256:=by
 obtain ⟨n,h⟩:=h
 cases n with
 | zero=>exact False.elim h
 | succ n=>
  intro x hx
  have:=h.2 x hx
  have hw:(Lit.int .u8 x).wf=true:=by cases n<;>exact this
  simp only [Lit.wf,Bool.and_eq_true,decide_eq_true_eq] at hw
  have h1:IntKind.min .u8=0:=rfl
  have h2:IntKind.max .u8=255:=rfl
  rw [h1,h2] at hw
  omega
def hasP (L:List Int) (x:Int):Nat→Bool
 | 0=>false
 | k+1=>hasP L x k||(ix L k==x)
theorem hasP_iff (L:List Int) (x:Int):∀k,hasP L x k=true↔∃j,j<k∧ix L j=x
 | 0=>by
  rw [hasP]
  exact ⟨fun h=>(by cases h),fun ⟨j,h,_⟩=>absurd h (Nat.not_lt_zero _)⟩
 | k+1=>by
  rw [hasP,Bool.or_eq_true,hasP_iff L x k,beq_iff_eq]
  constructor
  ·rintro (⟨j,a,b⟩ | h)
   ·exact ⟨j,by omega,b⟩
   ·exact ⟨k,by omega,h⟩
  ·rintro ⟨j,a,b⟩
   by_cases e:j=k
   ·subst e;exact .inr b
   ·exact .inl ⟨j,by omega,b⟩
theorem hasP_all (L:List Int) (x:Int):hasP L x L.length=hasB L x:=by
 rw [Bool.eq_iff_iff,hasP_iff,hasB_iff]
 constructor
 ·rintro ⟨j,a,b⟩
  rw [← b];exact ix_mem a
 ·intro h
  obtain ⟨j,a,b⟩:=List.mem_iff_getElem.1 h
  exact ⟨j,a,by rw [ix,getD_at a];exact b⟩
theorem hasP_go (L:List Int) (x:Int) (k:Nat):hasP L x (k+1)=(hasP L x k||(ix L k==x)):=rfl
abbrev Rec27:=Int×Int×Int×Int×Int×(List Entry)×(List Int)×Int×(List Int)×(List Int)×(List Int)×Int×Int×Int×Bool×(List Int)×(List Int)→Option Bool
abbrev at27 (x:Node) (L M:List Int) (c i:Int):Int×Int×Int×Int×Int×(List Entry)×(List Int)×Int×(List Int)×(List Int)×(List Int)×Int×Int×Int×Bool×(List Int)×(List Int):=(c,i,x.Id,x.Term,x.Vote,x.Log,x.Start,x.Role,x.Votes,x.Next,x.Match,x.Commit,x.Elapsed,x.Wait,x.Up,L,M)
def tgt (r:Rec27) (x:Node) (L M:List Int) (c i:Int) (a:Bool):Option Bool:=bif !(a==hasB L i) then r (at27 x L M (w64 (c+1)) (w64 (i+1))) else r (at27 x L M c (w64 (i+1)))
theorem lp36a {N:Nat} (hN:Big N) (a0 a1:List Int) (r:Rec27) (x:Node) (L M:List Int) (hL:L.length≤100) (c i:Int) (a:Bool):laws_FnConfigs.lp36 N a0 a1 r (.s1 c i a 0 x.Id x.Term x.Vote x.Log x.Start x.Role x.Votes x.Next x.Match x.Commit x.Elapsed x.Wait x.Up L M)=tgt r x L M c i a:=by
 unfold laws_FnConfigs.lp36
 have:=miter_up (step:=fun rec=>laws_FnConfigs.step36 N a0 a1 r rec) (n:=L.length) (st:=fun k=>if k=0 then .s1 c i a (k:Int) x.Id x.Term x.Vote x.Log x.Start x.Role x.Votes x.Next x.Match x.Commit x.Elapsed x.Wait x.Up L M else if hasP L i (k - 1)=true then .s7 c i a (k:Int) x.Id x.Term x.Vote x.Log x.Start x.Role x.Votes x.Next x.Match x.Commit x.Elapsed x.Wait x.Up L M else .s4 c i a (hasP L i k) (k:Int) x.Id x.Term x.Vote x.Log x.Start x.Role x.Votes x.Next x.Match x.Commit x.Elapsed x.Wait x.Up L M) (r:=tgt r x L M c i a) (fun k hk rec=>by
  rw [if_neg (show ¬ k+1=0 by omega),Nat.add_sub_cancel,hasP_go]
  by_cases k0:k=0
  ·subst k0
   rw [if_pos rfl]
   simp only [laws_FnConfigs.step36,lt_dec hk,nn_dec,cond_true,cond_false,Int.toNat_natCast,ixe,hasP,Bool.false_or]
   rw [w_up 0 _ hk (by omega)];rfl
  ·rw [if_neg k0]
   have e:hasP L i k=(hasP L i (k - 1)||(ix L (k - 1)==i)):=by
    have:=hasP_go L i (k - 1)
    rwa [show k - 1+1=k by omega] at this
   cases hp:hasP L i (k - 1) with
   | true=>
    rw [hp,Bool.true_or] at e
    rw [if_pos rfl,if_pos e]
    simp only [laws_FnConfigs.step36,lt_dec hk,cond_true]
    rw [w_up k _ hk (by omega)]
   | false=>
    rw [if_neg (by decide)]
    cases hq:hasP L i k with
    | true=>
     rw [if_pos rfl]
     simp only [laws_FnConfigs.step36,lt_dec hk,cond_true]
     rw [w_up k _ hk (by omega)]
    | false=>
     rw [if_neg (by decide)]
     simp only [laws_FnConfigs.step36,lt_dec hk,nn_dec,cond_true,cond_false,Int.toNat_natCast,ixe,Bool.false_or]
     rw [w_up k _ hk (by omega)]) (fun rec=>by
  have al:=hasP_all L i
  unfold tgt
  rw [← al]
  by_cases k0:L.length=0
  ·rw [if_pos k0]
   simp only [laws_FnConfigs.step36,ge_dec,cond_false]
   rw [k0,hasP]
  ·rw [if_neg k0]
   have e:hasP L i L.length=(hasP L i (L.length - 1)||(ix L (L.length - 1)==i)):=by
    have:=hasP_go L i (L.length - 1)
    rwa [show L.length - 1+1=L.length by omega] at this
   cases hp:hasP L i (L.length - 1) with
   | true=>
    rw [hp,Bool.true_or] at e
    rw [if_pos rfl,e]
    simp only [laws_FnConfigs.step36,ge_dec,cond_false]
   | false=>
    rw [if_neg (by decide)]
    simp only [laws_FnConfigs.step36,ge_dec,cond_false]) L.length 0 N (by omega) (by omega)
 exact this
theorem lp36f {N:Nat} (hN:Big N) (a0 a1:List Int) (r:Rec27) (x:Node) (L M:List Int) (hL:L.length≤100) (c i:Int):laws_FnConfigs.lp36 N a0 a1 r (.s0 c i 0 x.Id x.Term x.Vote x.Log x.Start x.Role x.Votes x.Next x.Match x.Commit x.Elapsed x.Wait x.Up L M)=tgt r x L M c i false:=by
 unfold laws_FnConfigs.lp36
 have:=miter_up (step:=fun rec=>laws_FnConfigs.step36 N a0 a1 r rec) (n:=L.length) (st:=fun k=>if k=0 then .s0 c i (k:Int) x.Id x.Term x.Vote x.Log x.Start x.Role x.Votes x.Next x.Match x.Commit x.Elapsed x.Wait x.Up L M else if hasP L i (k - 1)=true then .s5 c i (k:Int) x.Id x.Term x.Vote x.Log x.Start x.Role x.Votes x.Next x.Match x.Commit x.Elapsed x.Wait x.Up L M else .s2 c i (hasP L i k) (k:Int) x.Id x.Term x.Vote x.Log x.Start x.Role x.Votes x.Next x.Match x.Commit x.Elapsed x.Wait x.Up L M) (r:=tgt r x L M c i false) (fun k hk rec=>by
  rw [if_neg (show ¬ k+1=0 by omega),Nat.add_sub_cancel,hasP_go]
  by_cases k0:k=0
  ·subst k0
   rw [if_pos rfl]
   simp only [laws_FnConfigs.step36,lt_dec hk,nn_dec,cond_true,cond_false,Int.toNat_natCast,ixe,hasP,Bool.false_or]
   rw [w_up 0 _ hk (by omega)];rfl
  ·rw [if_neg k0]
   have e:hasP L i k=(hasP L i (k - 1)||(ix L (k - 1)==i)):=by
    have:=hasP_go L i (k - 1)
    rwa [show k - 1+1=k by omega] at this
   cases hp:hasP L i (k - 1) with
   | true=>
    rw [hp,Bool.true_or] at e
    rw [if_pos rfl,if_pos e]
    simp only [laws_FnConfigs.step36,lt_dec hk,cond_true]
    rw [w_up k _ hk (by omega)]
   | false=>
    rw [if_neg (by decide)]
    cases hq:hasP L i k with
    | true=>
     rw [if_pos rfl]
     simp only [laws_FnConfigs.step36,lt_dec hk,cond_true]
     rw [w_up k _ hk (by omega)]
    | false=>
     rw [if_neg (by decide)]
     simp only [laws_FnConfigs.step36,lt_dec hk,nn_dec,cond_true,cond_false,Int.toNat_natCast,ixe,Bool.false_or]
     rw [w_up k _ hk (by omega)]) (fun rec=>by
  have al:=hasP_all L i
  unfold tgt
  rw [← al]
  by_cases k0:L.length=0
  ·rw [if_pos k0]
   simp only [laws_FnConfigs.step36,ge_dec,cond_false]
   rw [k0,hasP]
  ·rw [if_neg k0]
   have e:hasP L i L.length=(hasP L i (L.length - 1)||(ix L (L.length - 1)==i)):=by
    have:=hasP_go L i (L.length - 1)
    rwa [show L.length - 1+1=L.length by omega] at this
   cases hp:hasP L i (L.length - 1) with
   | true=>
    rw [hp,Bool.true_or] at e
    rw [if_pos rfl,e]
    simp only [laws_FnConfigs.step36,ge_dec,cond_false]
   | false=>
    rw [if_neg (by decide)]
    simp only [laws_FnConfigs.step36,ge_dec,cond_false]) L.length 0 N (by omega) (by omega)
 exact this
theorem lp36t {N:Nat} (hN:Big N) (a0 a1:List Int) (r:Rec27) (x:Node) (L M:List Int) (hL:L.length≤100) (c i:Int):laws_FnConfigs.lp36 N a0 a1 r (.s3 c i 0 x.Id x.Term x.Vote x.Log x.Start x.Role x.Votes x.Next x.Match x.Commit x.Elapsed x.Wait x.Up L M)=tgt r x L M c i true:=by
 unfold laws_FnConfigs.lp36
 have:=miter_up (step:=fun rec=>laws_FnConfigs.step36 N a0 a1 r rec) (n:=L.length) (st:=fun k=>if k=0 then .s3 c i (k:Int) x.Id x.Term x.Vote x.Log x.Start x.Role x.Votes x.Next x.Match x.Commit x.Elapsed x.Wait x.Up L M else if hasP L i (k - 1)=true then .s8 c i (k:Int) x.Id x.Term x.Vote x.Log x.Start x.Role x.Votes x.Next x.Match x.Commit x.Elapsed x.Wait x.Up L M else .s6 c i (hasP L i k) (k:Int) x.Id x.Term x.Vote x.Log x.Start x.Role x.Votes x.Next x.Match x.Commit x.Elapsed x.Wait x.Up L M) (r:=tgt r x L M c i true) (fun k hk rec=>by
  rw [if_neg (show ¬ k+1=0 by omega),Nat.add_sub_cancel,hasP_go]
  by_cases k0:k=0
  ·subst k0
   rw [if_pos rfl]
   simp only [laws_FnConfigs.step36,lt_dec hk,nn_dec,cond_true,cond_false,Int.toNat_natCast,ixe,hasP,Bool.false_or]
   rw [w_up 0 _ hk (by omega)];rfl
  ·rw [if_neg k0]
   have e:hasP L i k=(hasP L i (k - 1)||(ix L (k - 1)==i)):=by
    have:=hasP_go L i (k - 1)
    rwa [show k - 1+1=k by omega] at this
   cases hp:hasP L i (k - 1) with
   | true=>
    rw [hp,Bool.true_or] at e
    rw [if_pos rfl,if_pos e]
    simp only [laws_FnConfigs.step36,lt_dec hk,cond_true]
    rw [w_up k _ hk (by omega)]
   | false=>
    rw [if_neg (by decide)]
    cases hq:hasP L i k with
    | true=>
     rw [if_pos rfl]
     simp only [laws_FnConfigs.step36,lt_dec hk,cond_true]
     rw [w_up k _ hk (by omega)]
    | false=>
     rw [if_neg (by decide)]
     simp only [laws_FnConfigs.step36,lt_dec hk,nn_dec,cond_true,cond_false,Int.toNat_natCast,ixe,Bool.false_or]
     rw [w_up k _ hk (by omega)]) (fun rec=>by
  have al:=hasP_all L i
  unfold tgt
  rw [← al]
  by_cases k0:L.length=0
  ·rw [if_pos k0]
   simp only [laws_FnConfigs.step36,ge_dec,cond_false]
   rw [k0,hasP]
  ·rw [if_neg k0]
   have e:hasP L i L.length=(hasP L i (L.length - 1)||(ix L (L.length - 1)==i)):=by
    have:=hasP_go L i (L.length - 1)
    rwa [show L.length - 1+1=L.length by omega] at this
   cases hp:hasP L i (L.length - 1) with
   | true=>
    rw [hp,Bool.true_or] at e
    rw [if_pos rfl,e]
    simp only [laws_FnConfigs.step36,ge_dec,cond_false]
   | false=>
    rw [if_neg (by decide)]
    simp only [laws_FnConfigs.step36,ge_dec,cond_false]) L.length 0 N (by omega) (by omega)
 exact this
theorem lp32a {N:Nat} (hN:Big N) (a0 a1:List Int) (r:Rec27) (x:Node) (L M:List Int) (hL:L.length≤100) (hM:M.length≤100) (c i:Int):laws_FnConfigs.lp32 N a0 a1 r (.s0 c i 0 x.Id x.Term x.Vote x.Log x.Start x.Role x.Votes x.Next x.Match x.Commit x.Elapsed x.Wait x.Up L M)=tgt r x L M c i (hasB M i):=by
 unfold laws_FnConfigs.lp32
 have:=miter_up (step:=fun rec=>laws_FnConfigs.step32 N a0 a1 (laws_FnConfigs.lp36 N a0 a1 r) rec) (n:=M.length) (st:=fun k=>if k=0 then .s0 c i (k:Int) x.Id x.Term x.Vote x.Log x.Start x.Role x.Votes x.Next x.Match x.Commit x.Elapsed x.Wait x.Up L M else if hasP M i (k - 1)=true then .s2 c i (k:Int) x.Id x.Term x.Vote x.Log x.Start x.Role x.Votes x.Next x.Match x.Commit x.Elapsed x.Wait x.Up L M else .s1 c i (hasP M i k) (k:Int) x.Id x.Term x.Vote x.Log x.Start x.Role x.Votes x.Next x.Match x.Commit x.Elapsed x.Wait x.Up L M) (r:=tgt r x L M c i (hasB M i)) (fun k hk rec=>by
  rw [if_neg (show ¬ k+1=0 by omega),Nat.add_sub_cancel,hasP_go]
  by_cases k0:k=0
  ·subst k0
   rw [if_pos rfl]
   simp only [laws_FnConfigs.step32,lt_dec hk,nn_dec,cond_true,cond_false,Int.toNat_natCast,ixe,hasP,Bool.false_or]
   rw [w_up 0 _ hk (by omega)];rfl
  ·rw [if_neg k0]
   have e:hasP M i k=(hasP M i (k - 1)||(ix M (k - 1)==i)):=by
    have:=hasP_go M i (k - 1)
    rwa [show k - 1+1=k by omega] at this
   cases hp:hasP M i (k - 1) with
   | true=>
    rw [hp,Bool.true_or] at e
    rw [if_pos rfl,if_pos e]
    simp only [laws_FnConfigs.step32,lt_dec hk,cond_true]
    rw [w_up k _ hk (by omega)]
   | false=>
    rw [if_neg (by decide)]
    cases hq:hasP M i k with
    | true=>
     rw [if_pos rfl]
     simp only [laws_FnConfigs.step32,lt_dec hk,cond_true]
     rw [w_up k _ hk (by omega)]
    | false=>
     rw [if_neg (by decide)]
     simp only [laws_FnConfigs.step32,lt_dec hk,nn_dec,cond_true,cond_false,Int.toNat_natCast,ixe,Bool.false_or]
     rw [w_up k _ hk (by omega)]) (fun rec=>by
  have al:=hasP_all M i
  rw [← al]
  by_cases k0:M.length=0
  ·rw [if_pos k0]
   simp only [laws_FnConfigs.step32,ge_dec,cond_false]
   rw [lp36f hN a0 a1 r x L M hL c i,k0,hasP]
  ·rw [if_neg k0]
   have e:hasP M i M.length=(hasP M i (M.length - 1)||(ix M (M.length - 1)==i)):=by
    have:=hasP_go M i (M.length - 1)
    rwa [show M.length - 1+1=M.length by omega] at this
   cases hp:hasP M i (M.length - 1) with
   | true=>
    rw [hp,Bool.true_or] at e
    rw [if_pos rfl,e]
    simp only [laws_FnConfigs.step32,ge_dec,cond_false]
    exact lp36t hN a0 a1 r x L M hL c i
   | false=>
    rw [if_neg (by decide)]
    simp only [laws_FnConfigs.step32,ge_dec,cond_false]
    exact lp36a hN a0 a1 r x L M hL c i _) M.length 0 N (by omega) (by omega)
 exact this
theorem lp27a {N:Nat} (hN:Big N) (a0 a1:List Int) (x:Node) (L M:List Int) (hL:L.length≤100) (hM:M.length≤100) (h1:cnB (dif M L) 7=1) (hr:x.Role=2) (c0:0<x.Commit) (c1:x.Commit≤x.Log.length) (ll:x.Log.length≤60) (ht:(ex x.Log (x.Commit - 1).toNat).Term=x.Term):laws_FnConfigs.lp27 N a0 a1 (at27 x L M 0 0)=some true:=by
 unfold laws_FnConfigs.lp27
 have:=miter_up (step:=fun rec=>laws_FnConfigs.step27 N a0 a1 (laws_FnConfigs.lp32 N a0 a1 rec) rec) (n:=7) (st:=fun k=>at27 x L M ((cnB (dif M L) k:Nat):Int) (k:Int)) (r:=some true) (fun k hk rec=>by
  have le:=cnB_le (dif M L) k
  simp only [laws_FnConfigs.step27]
  rw [decide_eq_true (show (k:Int)<7 by omega),cond_true,lp32a hN a0 a1 rec x L M hL hM]
  unfold tgt
  have ed:(!(hasB M (k:Int)==hasB L (k:Int)))=dif M L k:=rfl
  rw [ed,w_up k 7 hk (by omega),w_small (x:=((cnB (dif M L) k:Nat):Int)+1) (by omega) (by omega),cnB]
  cases dif M L k with
  | true=>rfl
  | false=>rfl) (fun rec=>by
  have w:w64 (x.Commit - 1)=x.Commit - 1:=w_small (by omega) (by omega)
  have e1:((((cnB (dif M L) 7:Nat):Int))==1)=true:=by rw [h1];rfl
  have e2:(x.Role==2)=true:=beq_iff_eq.2 hr
  have e3:((x.Log.getD (x.Commit - 1).toNat Entry.dz).Term==x.Term)=true:=beq_iff_eq.2 ht
  simp only [laws_FnConfigs.step27]
  rw [show decide (((7:Nat):Int)<7)=false from rfl,cond_false,e1,e2,w,e3,decide_eq_true (show x.Commit > 0 from c0),decide_eq_true (show 0≤x.Commit - 1 by omega),decide_eq_true (show x.Commit - 1<(x.Log.length:Int) by omega)]
  rfl) 7 0 N (by omega) (by omega)
 exact this
theorem lp21a {N:Nat} (hN:Big N) (a0 a1:List Int) (x:Node) (L M:List Int) (h27:laws_FnConfigs.lp27 N a0 a1 (at27 x L M 0 0)=some true) (c0:0≤x.Commit) (c1:x.Commit≤x.Log.length) (ll:x.Log.length≤60) (hk:∀j,x.Commit.toNat≤j→j<x.Log.length→((ex x.Log j).Kind==2)=false):laws_FnConfigs.lp21 N a0 a1 (x.Commit,x.Id,x.Term,x.Vote,x.Log,x.Start,x.Role,x.Votes,x.Next,x.Match,x.Commit,x.Elapsed,x.Wait,x.Up,L,M)=some true:=by
 unfold laws_FnConfigs.lp21
 have un:∀ {α R:Type} (g:(α→Option R)→α→Option R) (K:Nat) (s:α),miter g (K+1) s=g (miter g K) s:=fun _ _ _=>rfl
 have fix:∀k:Nat,x.Commit.toNat≤k→k≤x.Log.length→∀K,x.Log.length - k<K→miter (fun rec=>laws_FnConfigs.step21 N a0 a1 (laws_FnConfigs.lp27 N a0 a1) rec) K ((k:Int),x.Id,x.Term,x.Vote,x.Log,x.Start,x.Role,x.Votes,x.Next,x.Match,x.Commit,x.Elapsed,x.Wait,x.Up,L,M)=some true:=by
  intro k
  induction hd:x.Log.length - k generalizing k with
  | zero=>
   intro k1 k2 K hK
   obtain ⟨K,rfl⟩:∃j,K=j+1:=⟨K - 1,by omega⟩
   rw [un]
   simp only [laws_FnConfigs.step21]
   rw [decide_eq_false (show ¬ (k:Int)<(x.Log.length:Int) by omega),cond_false]
   exact h27
  | succ d ih=>
   intro k1 k2 K hK
   obtain ⟨K,rfl⟩:∃j,K=j+1:=⟨K - 1,by omega⟩
   rw [un]
   have hlt:k<x.Log.length:=by omega
   have kk:((x.Log.getD k Entry.dz).Kind==2)=false:=hk k k1 hlt
   simp only [laws_FnConfigs.step21,lt_dec hlt,nn_dec,cond_true,Int.toNat_natCast,kk,cond_false]
   rw [w_up k _ hlt (by omega)]
   exact ih (k+1) (by omega) (by omega) (by omega) K (by omega)
 have:=fix x.Commit.toNat (Nat.le_refl _) (by omega) N (by omega)
 rwa [show ((x.Commit.toNat:Nat):Int)=x.Commit by omega] at this
theorem sameInt {N:Nat} (hN:Big N) (X:List Int) (hl:X.length≤100):laws_sameInts.m N X X=some true:=by
 unfold laws_sameInts.m laws_sameInts.m0
 rw [show ((X.length:Int) != (X.length:Int))=false by simp,cond_false]
 unfold laws_sameInts.lp4
 have:=miter_up (step:=fun rec=>laws_sameInts.step4 N X X rec) (n:=X.length) (st:=fun i=>(i:Int)) (r:=some true) (fun i hi rec=>by
  simp only [laws_sameInts.step4,lt_dec hi,nn_dec,cond_true,Int.toNat_natCast,bne_self_eq_false,cond_false]
  rw [w_up i _ hi (by omega)]) (fun rec=>by
  simp only [laws_sameInts.step4,ge_dec,cond_false]) X.length 0 N (by omega) (by omega)
 exact this
theorem ids_snoc {L:List Int} (h:idsB (ix L) L.length=true) {i:Int} (i0:0≤i) (i6:i≤6) (hl:∀y∈L,y<i):idsB (ix (L++[i])) (L++[i]).length=true:=by
 have at1:∀j,j<L.length→ix (L++[i]) j=ix L j:=fun j hj=>by
  unfold ix
  rw [List.getD_eq_getElem?_getD,List.getElem?_append_left hj,← List.getD_eq_getElem?_getD]
 have at2:ix (L++[i]) L.length=i:=by
  unfold ix
  rw [List.getD_eq_getElem?_getD,List.getElem?_append_right (Nat.le_refl _)];simp
 unfold idsB at h ⊢
 rw [allF_iff] at h ⊢
 intro j _ hj
 rw [List.length_append,List.length_singleton] at hj
 by_cases e:j<L.length
 ·have:=h j (Nat.zero_le _) (by omega)
  rw [at1 j e,at1 (j - 1) (by omega)]
  exact this
 ·have e:j=L.length:=by omega
  subst e
  rw [at2,inB_iff.2 ⟨i0,i6⟩,Bool.true_and,Bool.not_eq_true',Bool.and_eq_false_iff]
  by_cases z:0<L.length
  ·right
   rw [at1 _ (by omega),decide_eq_false_iff_not]
   have:=hl _ (ix_mem (M:=L) (j:=L.length - 1) (by omega))
   omega
  ·left;exact decide_eq_false z
theorem configsL {N:Nat} (hN:Big N) (a0 a1:List Int) (b0:∀x∈a0,0≤x∧x<256) (b1:∀x∈a1,0≤x∧x<256):laws_FnConfigs.m N a0 a1=some true:=by
 unfold laws_FnConfigs.m laws_FnConfigs.m0
 by_cases l0:a0.length > 1048576
 ·rw [decide_eq_true (show (a0.length:Int) > 1048576 by omega)];rfl
 rw [decide_eq_false (show ¬ (a0.length:Int) > 1048576 by omega),cond_false]
 by_cases l1:a1.length > 1048576
 ·rw [decide_eq_true (show (a1.length:Int) > 1048576 by omega)];rfl
 rw [decide_eq_false (show ¬ (a1.length:Int) > 1048576 by omega)]
 simp only [cond_false]
 obtain ⟨x,e,hx,kl⟩:=nodeOf hN a0 (by omega) b0
 rw [e,ob_some]
 have sz:=kl.gt.g.sz
 have da:=kl.gt.g.da
 have hM:=kl.gt.g.M.len
 have c0:=kl.c0
 have c1:=kl.c1
 have ll:=kl.ll
 have fin:∀L:List Int,idsB (ix L) L.length=true→L.length≤7→0<L.length→alwB x L=true→laws_FnConfigs.lp21 N a0 a1 (x.Commit,x.Id,x.Term,x.Vote,x.Log,x.Start,x.Role,x.Votes,x.Next,x.Match,x.Commit,x.Elapsed,x.Wait,x.Up,L,memL x.Log x.Start x.Log.length)=some true:=by
  intro L _ l7 _ al
  unfold alwB calm at al
  simp only [Bool.and_eq_true,Bool.not_eq_true',beq_iff_eq,beq_eq_false_iff_ne,allF_iff] at al
  obtain ⟨q1,q2,q3,q4,q5⟩:=al
  have hM':(memL x.Log x.Start x.Log.length).length≤7:=hM
  refine lp21a hN a0 a1 x L _ (lp27a hN a0 a1 x L _ (by omega) (by omega) (by omega) q2 (by omega) c1 ll q4) c0 c1 ll fun j j1 j2=>?_
  have:=q5 j j1 (by omega)
  exact beq_eq_false_iff_ne.2 this
 unfold laws_FnConfigs.lp6
 refine miter_all (p:=fun r=>r=some true) (fun v=>(7 - v.1).toNat) (fun v=>∃(i:Nat) (L:List Int),v=((i:Int),x.Id,x.Term,x.Vote,x.Log,x.Start,x.Role,x.Votes,x.Next,x.Match,x.Commit,x.Elapsed,x.Wait,x.Up,L)∧i≤7∧L.length≤i∧idsB (ix L) L.length=true∧∀y∈L,y<(i:Int)) ?_ N _ ⟨0,[],rfl,by omega,Nat.le_refl _,rfl,fun y hy=>absurd hy List.not_mem_nil⟩ (by show (7 - (0:Int)).toNat<N;omega)
 rintro v ⟨i,L,rfl,i7,li,hid,hlt⟩ rec hrec
 simp only [laws_FnConfigs.step6,nodeEta]
 by_cases hi:i<7
 ·obtain ⟨b,eb,_,_⟩:=lawsAt N a1 (i:Int) 2 (by omega) b1 (by omega) (by omega) (by omega) (by omega)
  rw [show decide ((i:Int)<7)=true from decide_eq_true (by omega),cond_true,eb,ob_some,w_up i 7 hi (by omega)]
  cases b==1 with
  | true=>
   rw [cond_true,roomB (by rw [List.length_singleton];omega) (by omega),cond_true]
   exact hrec _ ⟨i+1,L++[(i:Int)],rfl,hi,by rw [List.length_append,List.length_singleton];omega,ids_snoc hid (by omega) (by omega) hlt,fun y hy=>by
    rcases List.mem_append.1 hy with q | q
    ·have:=hlt y q;omega
    ·rw [List.mem_singleton.1 q];omega⟩ (by show (7 - ((i+1:Nat):Int)).toNat<(7 - (i:Int)).toNat;omega)
  | false=>
   rw [cond_false]
   exact hrec _ ⟨i+1,L,rfl,hi,by omega,hid,fun y hy=>by have:=hlt y hy;omega⟩ (by show (7 - ((i+1:Nat):Int)).toNat<(7 - (i:Int)).toNat;omega)
 ·rw [show decide ((i:Int)<7)=false from decide_eq_false (by omega),cond_false]
  by_cases hz:L.length=0
  ·rw [show ((L.length:Int)==0)=true by rw [beq_iff_eq];omega];rfl
  ·rw [show ((L.length:Int)==0)=false by rw [beq_eq_false_iff_ne];omega,cond_false]
   have hL:L.length≤M20:=by simp only [M20];omega
   rw [implCA hN x L sz da hL,specCA hN x L sz da hL,implMem hN x sz da,specMem hN x sz da]
   have eA:alwR x L=(alwB x L,0):=by
    unfold alwR
    rw [decide_eq_false (show ¬ (L.length:Int) > 4096 by omega),hx,hid,decide_eq_true (show 0<L.length by omega)];rfl
   have eM:memR x=(memL x.Log x.Start x.Log.length,0):=by unfold memR;rw [hx];rfl
   have hM':(memL x.Log x.Start x.Log.length).length≤7:=hM
   have sI:=sameInt hN (memL x.Log x.Start x.Log.length) (by omega)
   rw [eA,eM]
   simp only [ob_some,show ((0:Int) != 0)=false from rfl,cond_false,beq_self_eq_true,Bool.not_true,sI]
   cases al:alwB x L with
   | false=>rfl
   | true=>
    rw [Bool.not_true,cond_false]
    exact fin L hid (by omega) (by omega) al
theorem pureFnConfigs (a0 a1:List Int) (h0:∃n,WfE E (WfA E n) (.slice 5 (.int .u8)) a0) (h1:∃n,WfE E (WfA E n) (.slice 5 (.int .u8)) a1):∃N,laws_FnConfigs.m N a0 a1=some true:=⟨16777216,configsL (Nat.le_refl _) a0 a1 (wfBytesR h0) (wfBytesR h1)⟩
end Mir.Y
