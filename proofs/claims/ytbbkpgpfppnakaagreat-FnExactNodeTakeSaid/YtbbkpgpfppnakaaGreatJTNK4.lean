/- NodeTake. -/
import Derived.Test.YtbbkpgpfppnakaaGreatJTNK3
namespace Mir.Y
set_option linter.unusedVariables false
set_option linter.unusedSimpArgs false
open Go
def kindR (y:Node) (m:Message):Node×List Message:=bif m.Kind==1 then voteR y m else bif m.Kind==2 then votedR y m else bif m.Kind==3 then entR y m else ansR y m
def atTerm (x:Node) (m:Message):Node:=bif decide (m.Term > x.Term) then downN (bumpN x m.Term) else x
def takeR (x:Node) (m:Message):Node×List Message:=kindR (atTerm x m) m
structure MsgOk (m:Message):Prop where
 kind:m.Kind=1∨m.Kind=2∨m.Kind=3∨m.Kind=4
 f0:0≤m.From
 f6:m.From≤6
 i0:0≤m.Index
 i60:m.Index≤60
 ents:(m.Entries.length:Int)≤60 - m.Index
theorem MsgOk.of {m:Message} (h:msgB m=true):MsgOk m:=by
 unfold msgB at h
 simp only [Bool.and_eq_true,inB_iff] at h
 obtain ⟨k,f,_,_,_,i,_,_,e⟩:=h
 refine ⟨by omega,f.1,f.2,i.1,i.2,?_⟩
 cases hk:m.Kind != 3 with
 | true=>rw [hk,cond_true,decide_eq_true_eq] at e;omega
 | false=>rw [hk,cond_false,Bool.and_eq_true,decide_eq_true_eq] at e;exact e.1
theorem GT.atTerm {x:Node} (h:GT x) (m:Message):GT (atTerm x m):=by
 unfold Mir.Y.atTerm
 cases decide (m.Term > x.Term) with
 | true=>exact (h.bump _).down
 | false=>exact h
theorem kindS {N:Nat} (hN:Big N) {y:Node} (h:GT y) {m:Message} (hm:MsgOk m):(bif m.Kind==1 then ob (spec_l10Vote.m N y m) (fun r=>some (r.1,r.2)) else bif m.Kind==2 then ob (spec_l10Voted.m N y m) (fun r=>some (r.1,r.2)) else bif m.Kind==3 then ob (spec_l10Entries.m N y m) (fun r=>some (r.1,r.2)) else ob (spec_l10Answer.m N y m) (fun r=>some (r.1,r.2)))=some (kindR y m):=by
 have hl:=h.g.ll
 have he:=hm.ents
 have:=hm.i0
 rw [(voteBoth y (by omega) m).1,(votedBoth hN h m).1,(entBoth hN h.g m hm.i0 hm.i60 (by omega)).1,(ansBoth hN h m hm.f0 hm.f6 hm.i0 hm.i60).1]
 unfold kindR
 cases m.Kind==1<;>cases m.Kind==2<;>cases m.Kind==3<;>rfl
theorem kindI {N:Nat} (hN:Big N) {y:Node} (h:GT y) {m:Message} (hm:MsgOk m):(bif m.Kind==1 then ob (impl_worker_vote.m N ⟨y,[]⟩ m) (fun r=>some r) else bif m.Kind==2 then ob (impl_worker_voted.m N ⟨y,[]⟩ m) (fun r=>some r) else bif m.Kind==3 then ob (impl_worker_takeAppend.m N ⟨y,[]⟩ m) (fun r=>some r) else bif m.Kind==4 then ob (impl_worker_appended.m N ⟨y,[]⟩ m) (fun r=>some r) else some ⟨y,[]⟩)=some ⟨(kindR y m).1,(kindR y m).2⟩:=by
 have hl:=h.g.ll
 have he:=hm.ents
 have:=hm.i0
 rw [(voteBoth y (by omega) m).2,(votedBoth hN h m).2,(entBoth hN h.g m hm.i0 hm.i60 (by omega)).2,(ansBoth hN h m hm.f0 hm.f6 hm.i0 hm.i60).2]
 unfold kindR
 rcases hm.kind with e | e | e | e<;>rw [e]<;>rfl
theorem takeBoth {N:Nat} (hN:Big N) {x:Node} (h:GT x) {m:Message} (hm:MsgOk m):spec_l10Take.m N x m=some (takeR x m)∧impl_worker_take.m N ⟨x,[]⟩ m=some ⟨(takeR x m).1,(takeR x m).2⟩:=by
 have hy:=h.atTerm m
 have hb:=h.bump m.Term
 have ks:=kindS hN hy hm
 have ki:=kindI hN hy hm
 have ds:=downS hN (bumpN x m.Term) hb.g.n7 hb.g.m7
 have di:=followW hN ⟨bumpN x m.Term,[]⟩
 have eb:Node.mk x.Id m.Term (-1) x.Log x.Start x.Role x.Votes x.Next x.Match x.Commit x.Elapsed x.Wait x.Up=bumpN x m.Term:=rfl
 unfold takeR
 unfold spec_l10Take.m impl_worker_take.m
 unfold atTerm at ks ki ⊢
 rw [ownS x h.g.sz]
 simp only [ob_some,nodeEta,workEta,eb]
 cases hq:decide (m.Term > x.Term) with
 | true=>
  rw [hq,cond_true] at ks ki
  simp only [cond_true]
  rw [ds,di,ob_some,ob_some]
  exact ⟨ks,ki⟩
 | false=>
  rw [hq,cond_false] at ks ki
  simp only [cond_false]
  exact ⟨ks,ki⟩
structure Small (r:Node×List Message):Prop where
 sz:NodeSz r.1 1048576
 da:NodeData r.1
 n:r.2.length≤10
 e:∀m∈r.2,m.Entries.length≤100
theorem GN.small {x:Node} (h:GN x):Small (x,[]):=⟨h.sz,h.da,Nat.zero_le _,fun m hm=>absurd hm List.not_mem_nil⟩
theorem GN.small1 {x:Node} (h:GN x) {m:Message} (hm:m.Entries.length≤100):Small (x,[m]):=⟨h.sz,h.da,by show 1≤10;omega,fun m' h'=>by rw [List.mem_singleton] at h';rw [h'];exact hm⟩
theorem GN.vote {x:Node} (h:GN x) (c:Int):GN (voteN x c):=⟨⟨h.sz.Log,h.sz.Start,h.sz.Votes,h.sz.Next,h.sz.Match⟩,h.da,h.mm,h.st,h.c0,h.c1,h.n7,h.m7,h.nx,h.ll⟩
theorem win_small {z:Node} (h:GN z):Small (winR z):=by
 unfold winR
 have hl:=h.lead
 have:=told_len (x:=leadN z) h.M
 cases mostB (hasB z.Votes) (mems z) with
 | false=>exact h.small
 | true=>exact ⟨⟨hl.sz.Log,hl.sz.Start,hl.sz.Votes,hl.sz.Next,hl.sz.Match⟩,hl.da,by show (told (leadN z) (mems z)).length≤10;omega,told_ent hl.tells⟩
theorem GN.fresh {x:Node} (h:GN x):GN (fresh x):=by
 have d:=h.down
 exact ⟨⟨d.sz.Log,d.sz.Start,d.sz.Votes,d.sz.Next,d.sz.Match⟩,d.da,d.mm,d.st,d.c0,d.c1,d.n7,d.m7,d.nx,d.ll⟩
theorem sto_small {L es:List Entry} {k:Nat} (hL:L.length≤60) (he:es.length≤60) (dL:∀e∈L,e.Data.size≤M20) (de:∀e∈es,e.Data.size≤M20):(stoL L k es).length≤120∧∀e∈stoL L k es,e.Data.size≤M20:=by
 unfold stoL
 split
 ·refine ⟨by rw [List.length_append,List.length_take,List.length_drop];omega,fun e h=>?_⟩
  rcases List.mem_append.1 h with h | h
  ·exact dL e (List.mem_of_mem_take h)
  ·exact de e (List.mem_of_mem_drop h)
 ·exact ⟨by omega,dL⟩
theorem take_small {x:Node} (h:GT x) {m:Message} (hm:MsgOk m) (hd:MsgSz m):Small (takeR x m):=by
 unfold takeR
 have hy:=h.atTerm m
 generalize atTerm x m=y at hy
 unfold kindR
 have hl:=hy.g.ll
 have he:=hm.ents
 have h0:=hm.i0
 cases m.Kind==1 with
 | true=>
  rw [cond_true]
  unfold voteR
  cases grB y m with
  | true=>exact (hy.g.vote _).small1 (Nat.zero_le _)
  | false=>exact hy.g.small1 (Nat.zero_le _)
 | false=>
 cases m.Kind==2 with
 | true=>
  rw [cond_false,cond_true]
  unfold votedR
  have h7:y.Votes.length≤7:=(mem_of hy.vt).len
  have hz:=hy.g.withV (v:=insV y.Votes m.From) (by rw [insV_len];simp only [M20];omega)
  cases y.Role != 1 with
  | true=>exact hy.g.small
  | false=>
  cases m.Term != y.Term with
  | true=>exact hy.g.small
  | false=>
  cases !m.Ok with
  | true=>exact hy.g.small
  | false=>
  cases !hasB y.Votes m.From with
  | true=>exact win_small hz
  | false=>exact win_small hy.g
 | false=>
 cases m.Kind==3 with
 | true=>
  rw [cond_false,cond_false,cond_true]
  unfold entR
  cases decide (m.Term<y.Term) with
  | true=>exact hy.g.small1 (Nat.zero_le _)
  | false=>
  cases decide (m.Index > (y.Log.length:Int))||(tv y m.Index != m.LogTerm) with
  | true=>exact hy.g.fresh.small1 (Nat.zero_le _)
  | false=>
  obtain ⟨a,b⟩:=sto_small (k:=m.Index.toNat) hl (show m.Entries.length≤60 by omega) hy.g.da hd.dat
  have f:=hy.g.fresh.sz
  exact ⟨⟨by show (stoL _ _ _).length≤_;omega,f.Start,f.Votes,f.Next,f.Match⟩,b,by show 1≤10;omega,fun m' h'=>by
   rw [show m'=goodM y m from List.mem_singleton.1 h'];exact Nat.zero_le _⟩
 | false=>
  rw [cond_false,cond_false,cond_false]
  unfold ansR
  have ga:=(hy.okAns hm.f0 hm.f6 hm.i0).2.2
  have gb:=hy.bkAns (m:=m) hm.f0 hm.f6 hm.i0
  cases y.Role != 2 with
  | true=>exact hy.g.small
  | false=>
  cases m.Term != y.Term with
  | true=>exact hy.g.small
  | false=>
  cases m.Ok with
  | true=>exact ⟨⟨ga.sz.Log,ga.sz.Start,ga.sz.Votes,ga.sz.Next,ga.sz.Match⟩,ga.da,Nat.zero_le _,fun m hm=>absurd hm List.not_mem_nil⟩
  | false=>exact gb.small1 (by show (y.Log.drop _).length≤100;rw [List.length_drop];omega)
def nkR (x:Node) (m:Message):Node×List Message×Int:=
 bif okB x then (bif msgB m then (bif m.To != x.Id then (zN,[],4) else bif !x.Up then (x,[],5) else bif okB (takeR x m).1 then ((takeR x m).1,(takeR x m).2,0) else (x,[],3)) else (zN,[],1)) else (zN,[],1)
theorem nkBoth {N:Nat} (hN:Big N) (x:Node) (m:Message) (hs:NodeSz x M20) (hd:NodeData x) (hm:MsgSz m):spec_NodeTake.m N x m=some (nkR x m)∧impl_NodeTake.m N x m=some (nkR x m)∧NodeSz (nkR x m).1 1048576∧(nkR x m).2.1.length≤10∧∀m'∈(nkR x m).2.1,m'.Entries.length≤100:=by
 have nil:∀m'∈([]:List Message),m'.Entries.length≤100:=fun m' h'=>absurd h' List.not_mem_nil
 unfold spec_NodeTake.m impl_NodeTake.m nkR
 simp only [nodeEta]
 rw [specOK hN x hs hd,implOK hN x hs hd,specMsg hN m hm,implMsg hN m hm]
 simp only [ob_some,cond_false]
 cases hk:okB x with
 | false=>exact ⟨rfl,rfl,zN_sz,Nat.zero_le _,nil⟩
 | true=>
 cases hb:msgB m with
 | false=>exact ⟨rfl,rfl,zN_sz,Nat.zero_le _,nil⟩
 | true=>
 cases m.To != x.Id with
 | true=>exact ⟨rfl,rfl,zN_sz,Nat.zero_le _,nil⟩
 | false=>
 rw [ownS x hs,copyN x hs]
 cases x.Up with
 | false=>exact ⟨rfl,rfl,hs,Nat.zero_le _,nil⟩
 | true=>
 have h:=GT.of hs hd hk
 have ho:=MsgOk.of hb
 obtain ⟨t1,t2⟩:=takeBoth hN h ho
 obtain ⟨o1,o2,o3,o4⟩:=take_small h ho hm
 simp only [Bool.not_true,cond_false,cond_true,ob_some,t1,t2,nodeEta]
 rw [specOK hN _ o1 o2,implOK hN _ o1 o2,ob_some,ob_some]
 unfold impl_worker_asNode.m
 simp only [nodeEta,copyN _ o1,ob_some]
 cases okB (takeR x m).1 with
 | false=>exact ⟨rfl,rfl,hs,Nat.zero_le _,nil⟩
 | true=>exact ⟨rfl,rfl,o1,o3,o4⟩
theorem szIntT (N:Nat) (a:List Int) (c:Int) (h0:0≤c) (hc:c≤1048576) (hl:a.length≤maxLen):∃y:Int,laws_szIntS.m N a c=some y∧y≤c∧(0≤y→y+a.length≤c):=by
 unfold laws_szIntS.m
 rw [w_sub h0 hc hl]
 by_cases hy:c - (a.length:Int)<0
 ·rw [decide_eq_true hy];exact ⟨-1,rfl,by omega,fun h=>by omega⟩
 ·rw [decide_eq_false hy];exact ⟨_,rfl,by omega,fun h=>by omega⟩
theorem szEntryT {N:Nat} (hN:Big N) (a:List Entry) (c:Int) (h0:0≤c) (hc:c≤1048576) (hl:a.length≤maxLen) (hd:∀x∈a,x.Data.size≤maxLen):∃y:Int,laws_szEntryS.m N a c=some y∧y≤c∧(0≤y→y+a.length≤c∧∀x∈a,x.Data.size≤M20):=by
 unfold laws_szEntryS.m laws_szEntryS.m0
 rw [w_sub h0 hc hl]
 by_cases hy:c - (a.length:Int)<0
 ·rw [decide_eq_true hy];exact ⟨-1,rfl,by omega,fun h=>by omega⟩
 ·rw [decide_eq_false hy,cond_false]
  have hal:a.length≤M20:=by simp only [M20];omega
  obtain ⟨y,h1,h2,h3⟩:=loop_sz (step:=fun rec=>laws_szEntryS.step5 N a c rec) (P:=fun x:Entry=>x.Data.size≤M20) (c:=c - a.length) (fun i hi v hv hvc=>by
   have hx:=hd a[i] (List.getElem_mem hi)
   have hq:laws_szEntry.m N a[i] v=some (bif decide (v - (a[i].Data.size:Int)<0) then -1 else v - (a[i].Data.size:Int)):=by
    unfold laws_szEntry.m
    rw [w_sub hv (by omega) hx]
    cases decide (v - (a[i].Data.size:Int)<0)<;>rfl
   refine ⟨_,?_,?_,fun rec=>by
    simp only [laws_szEntryS.step5,lt_dec hi,nn_dec,cond_true,Int.toNat_natCast,getD_at hi,hq,ob_some]
    rw [w_up i _ hi hal]⟩
   ·by_cases hz:v - (a[i].Data.size:Int)<0
    ·rw [decide_eq_true hz,cond_true];omega
    ·rw [decide_eq_false hz,cond_false];omega
   ·by_cases hz:v - (a[i].Data.size:Int)<0
    ·rw [decide_eq_true hz,cond_true];intro h;omega
    ·rw [decide_eq_false hz,cond_false];intro h;simp only [M20];omega) (fun v rec=>by simp [laws_szEntryS.step5]) a.length 0 N (c - a.length) (by omega) (by simp only [M20] at hal;omega) (by omega) (by omega)
  refine ⟨y,h1,by omega,fun h=>⟨by omega,fun x hx=>?_⟩⟩
  obtain ⟨j,hj,rfl⟩:=List.getElem_of_mem hx
  exact h3 h j (Nat.zero_le _) hj
def tot (x:Node):Int:=x.Log.length+x.Start.length+x.Votes.length+x.Next.length+x.Match.length
theorem szNodeT {N:Nat} (hN:Big N) (x:Node) (c:Int) (h0:0≤c) (hc:c≤1048576) (hw:NodeWf x):∃y:Int,laws_szNode.m N x c=some y∧y≤c∧(0≤y→y+tot x≤c∧NodeSz x M20∧NodeData x):=by
 unfold laws_szNode.m tot
 obtain ⟨y1,e1,l1,k1⟩:=szEntryT hN x.Log c h0 hc hw.Log hw.Data
 rw [e1,ob_some]
 by_cases n1:y1<0
 ·rw [decide_eq_true n1];exact ⟨-1,rfl,by omega,fun h=>by omega⟩
 rw [decide_eq_false n1,cond_false]
 obtain ⟨y2,e2,l2,k2⟩:=szIntT N x.Start y1 (by omega) (by omega) hw.Start
 rw [e2,ob_some]
 by_cases n2:y2<0
 ·rw [decide_eq_true n2];exact ⟨-1,rfl,by omega,fun h=>by omega⟩
 rw [decide_eq_false n2,cond_false]
 obtain ⟨y3,e3,l3,k3⟩:=szIntT N x.Votes y2 (by omega) (by omega) hw.Votes
 rw [e3,ob_some]
 by_cases n3:y3<0
 ·rw [decide_eq_true n3];exact ⟨-1,rfl,by omega,fun h=>by omega⟩
 rw [decide_eq_false n3,cond_false]
 obtain ⟨y4,e4,l4,k4⟩:=szIntT N x.Next y3 (by omega) (by omega) hw.Next
 rw [e4,ob_some]
 by_cases n4:y4<0
 ·rw [decide_eq_true n4];exact ⟨-1,rfl,by omega,fun h=>by omega⟩
 rw [decide_eq_false n4,cond_false]
 obtain ⟨y5,e5,l5,k5⟩:=szIntT N x.Match y4 (by omega) (by omega) hw.Match
 rw [e5,ob_some]
 by_cases n5:y5<0
 ·rw [decide_eq_true n5];exact ⟨-1,rfl,by omega,fun h=>by omega⟩
 rw [decide_eq_false n5,cond_false]
 obtain ⟨a,b⟩:=k1 (by omega)
 have b2:=k2 (by omega)
 have b3:=k3 (by omega)
 have b4:=k4 (by omega)
 exact ⟨y5,rfl,by omega,fun h=>by
  have b5:=k5 h
  exact ⟨by omega,⟨by simp only [M20];omega,by simp only [M20];omega,by simp only [M20];omega,by simp only [M20];omega,by simp only [M20];omega⟩,b⟩⟩
theorem markNodeT {N:Nat} (hN:Big N) (x:Node) (c:Int) (h:NodeSz x 1048576) (h0:0≤c) (hc:c≤1000000):∃k y,laws_markNode.m N x c=some (k,y)∧c≤k∧k≤c+3 * tot x:=by
 have cnt:∀ {k:Int} {a:List Int},0≤k→k≤7340032→a.length≤1048576→(marks fInt k a).1=k+a.length:=fun hk hk2 ha=>by
  rw [marks_count fInt_count (by omega) (by omega) hk (by omega)];omega
 have cE:(marks (fEnt N) c x.Log).1=c+3 * x.Log.length:=marks_count (fEnt_count N) (by omega) (by omega) h0 (by have:=h.Log;omega)
 obtain ⟨l1,l2,l3,l4,l5⟩:=h
 have e2:=cnt (k:=(marks (fEnt N) c x.Log).1) (by omega) (by omega) l2
 have e3:=cnt (k:=(marks fInt (marks (fEnt N) c x.Log).1 x.Start).1) (by omega) (by omega) l3
 have e4:=cnt (k:=(marks fInt (marks fInt (marks (fEnt N) c x.Log).1 x.Start).1 x.Votes).1) (by omega) (by omega) l4
 have e5:=cnt (k:=(marks fInt (marks fInt (marks fInt (marks (fEnt N) c x.Log).1 x.Start).1 x.Votes).1 x.Next).1) (by omega) (by omega) l5
 unfold laws_markNode.m tot
 simp only [markEntryS hN x.Log c l1 h0 (by omega),ob_some,markIntS hN _ _ l2,markIntS hN _ _ l3,markIntS hN _ _ l4,markIntS hN _ _ l5]
 exact ⟨_,_,rfl,by omega,by omega⟩
structure MsgWf (m:Message):Prop where
 len:m.Entries.length≤maxLen
 dat:∀e∈m.Entries,e.Data.size≤maxLen
theorem wfMsg {x:Message} (h:∃n,WfE E (WfA E n) (.st 27) x):MsgWf x:=by
 obtain ⟨n,h⟩:=h
 cases n with
 | zero=>exact h.2.2.2.2.2.2.2.1.elim
 | succ n=>
  obtain ⟨_,_,_,_,_,_,_,h8,_⟩:=h
  exact ⟨h8.1,fun e he=>wfText (h8.2 e he).2.2.1⟩
theorem szMsg {N:Nat} (hN:Big N) (m:Message) (c:Int) (h0:0≤c) (hc:c≤1048576) (hw:MsgWf m):∃y:Int,laws_szMessage.m N m c=some y∧(0≤y→y+m.Entries.length≤c∧MsgSz m):=by
 unfold laws_szMessage.m
 obtain ⟨y,e,l,k⟩:=szEntryT hN m.Entries c h0 hc hw.len hw.dat
 rw [e,ob_some]
 by_cases n1:y<0
 ·rw [decide_eq_true n1];exact ⟨-1,rfl,fun h=>by omega⟩
 rw [decide_eq_false n1,cond_false]
 obtain ⟨a,b⟩:=k (by omega)
 exact ⟨y,rfl,fun h=>⟨a,by simp only [M20];omega,b⟩⟩
theorem msgEta (m:Message):Message.mk m.Kind m.From m.To m.Term m.Index m.LogTerm m.Commit m.Entries m.Ok=m:=rfl
theorem toMsg {N:Nat} (hN:Big N) (m:Message) (h:MsgSz m):laws_toMessage.m N m=some m:=by
 unfold laws_toMessage.m
 rw [toEntryS hN _ h.len];rfl
theorem markMsgT {N:Nat} (hN:Big N) (m:Message) (c:Int) (h:MsgSz m) (h0:0≤c) (hb:c+3 * m.Entries.length≤8388608):∃k y,laws_markMessage.m N m c=some (k,y)∧c≤k:=by
 unfold laws_markMessage.m
 rw [markEntryS hN _ _ h.len h0 hb,ob_some]
 exact ⟨_,_,rfl,by rw [marks_count (fEnt_count N) (by omega) (by omega) h0 (by omega)];omega⟩
theorem pureNodeTake (a0:Node) (a1:Message) (h0:∃n,WfE E (WfA E n) (.st 25) a0) (h1:∃n,WfE E (WfA E n) (.st 27) a1):∃N,laws_FnExactNodeTake.m N a0 a1=some true:=by
 refine ⟨16777216,?_⟩
 generalize hN':16777216=N
 have hN:Big N:=by omega
 unfold laws_FnExactNodeTake.m
 obtain ⟨y,e,_,hy⟩:=szNodeT hN a0 1048576 (by omega) (by omega) (wfNode h0)
 rw [nodeEta,e,ob_some]
 by_cases h:y<0
 ·rw [decide_eq_true h];rfl
 rw [decide_eq_false h,cond_false]
 obtain ⟨htot,hs,hd⟩:=hy (by omega)
 have ht0:0≤tot a0:=by unfold tot;omega
 obtain ⟨y',e',hy'⟩:=szMsg hN a1 y (by omega) (by omega) (wfMsg h1)
 rw [e',ob_some]
 by_cases h':y'<0
 ·rw [decide_eq_true h'];rfl
 rw [decide_eq_false h',cond_false]
 obtain ⟨hml,hm1⟩:=hy' (by omega)
 obtain ⟨p1,p2,p3,p4,p5⟩:=nkBoth hN a0 a1 hs hd hm1
 generalize nkR a0 a1=r at p1 p2 p3 p4 p5
 simp only [toNode hN a0 hs,toMsg hN a1 hm1,ob_some,nodeEta,msgEta,p1,p2]
 obtain ⟨k1,y1,hk1,b1,b2⟩:=markNodeT hN a0 1 hs (by omega) (by omega)
 obtain ⟨k2,y2,hk2,b3⟩:=markMsgT hN a1 k1 hm1 (by omega) (by omega)
 obtain ⟨k,z,hm,_,hh,hk,hk',hf⟩:=markNode hN r.1 1 p3 (by omega) (by omega)
 have q0:=eqMsg hN a1 hm1.len
 have q1:=eqMsgS hN r.2.1 (by omega) (fun m hm=>by have:=p5 m hm;omega)
 have q2:=markMsgS hN r.2.1 k (by omega) p4 (by omega) p5
 have q3:=heldMsgS hN r.2.1 k (by omega) p4 (by omega) p5
 have q4:=marks_msg N r.2.1 k (by omega) (by omega) p5
 simp only [eqNode hN r.1 p3,eqNode hN a0 hs,hk1,hk2,hm,ob_some,mkNode r.1 z hf,hh,q0,q1,q2,q3,Bool.not_true,cond_false,bne_self_eq_false,decide_eq_false (show ¬ k2<0 by omega),decide_eq_false (show ¬ k<0 by omega),decide_eq_false (show ¬ (marks (fMsg N) k r.2.1).1<0 by omega)]
end Mir.Y
