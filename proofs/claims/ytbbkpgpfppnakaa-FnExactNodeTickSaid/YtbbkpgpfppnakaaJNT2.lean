/- NodeTick. -/
import Derived.Test.YtbbkpgpfppnakaaJNT1
namespace Mir.Y
set_option linter.unusedVariables false
set_option linter.unusedSimpArgs false
open Go
def electN (x:Node) (d:Int):Node:=⟨x.Id,x.Term+1,x.Id,x.Log,x.Start,1,[x.Id],x.Next,x.Match,x.Commit,0,5+Int.tmod d 8,x.Up⟩
def voteM (y:Node) (to:Int):Message:=⟨1,y.Id,to,y.Term,(y.Log.length:Int),tv y (y.Log.length:Int),0,[],false⟩
def electR (x:Node) (d:Int):Node×List Message:=
 bif mostB (hasB [x.Id]) (mems x) then (withC (leadN (electN x d)) (advC (leadN (electN x d)) (mems x) (leadL (electN x d)).length),told (leadN (electN x d)) (mems x))
 else (electN x d,((mems x).filter (notId (electN x d))).map (voteM (electN x d)))
theorem GN.elect {x:Node} (h:GN x) (d:Int):GN (electN x d):=⟨⟨h.sz.Log,h.sz.Start,by show [x.Id].length≤_;simp [M20],h.sz.Next,h.sz.Match⟩,h.da,h.mm,h.st,h.c0,h.c1,h.n7,h.m7,h.nx,h.ll⟩
theorem electBoth {N:Nat} (hN:Big N) {x:Node} (h:GN x) (t0:0≤x.Term) (t1:x.Term<1000000) {d:Int} (d0:0≤d) (d1:d≤1000000):spec_l10Elect.m N x d=some (electR x d)∧impl_worker_stand.m N ⟨x,[]⟩ d=some ⟨(electR x d).1,(electR x d).2⟩:=by
 have he:=h.elect d
 have hm:mems (electN x d)=mems x:=rfl
 have hms:=he.ms hN
 rw [hm] at hms
 have hM:=h.M
 have hl:=hM.len
 have hll:=h.ll
 have w1:w64 (x.Term+1)=x.Term+1:=w_small (by omega) (by omega)
 have m0:=Int.tmod_nonneg 8 d0
 have m1:=Int.tmod_lt_of_pos d (show (0:Int)<8 by omega)
 have w2:w64 (5+Int.tmod d 8)=5+Int.tmod d 8:=w_small (by omega) (by omega)
 obtain ⟨c,e1,e2,e3,e4,e5⟩:=leadBoth hN he
 rw [hm] at e1 e4 e5
 have most:=l10Most hN [x.Id] (mems x) (by simp) (by omega)
 have most2:impl_worker_isMost__impl_worker_leadIf_1_.m N ⟨electN x d,[]⟩ ⟨electN x d,[]⟩=some (mostB (hasB [x.Id]) (mems x)):=isMostV hN ⟨electN x d,[]⟩ (mems x) (by have:=he.mi hN;rwa [hm] at this) hM (by show [x.Id].length≤_;simp [M20])
 have ty:spec_l10Term.m N (electN x d) (x.Log.length:Int)=some (tv (electN x d) (x.Log.length:Int)):=termV (electN x d) _ (by omega) (Int.le_refl _) (by show x.Log.length≤100;omega)
 constructor
 ·unfold spec_l10Elect.m spec_l10Elect.m0
  rw [w1,w2,show (!decide ((8:Int)=0))=true from rfl,cond_true]
  show ob (spec_l10Members_.m N (electN x d)) _=_
  rw [mem_ hN hms,ob_some]
  show ob (spec_l10Most.m N [x.Id] (mems x)) _=_
  rw [most,ob_some]
  unfold electR
  cases mostB (hasB [x.Id]) (mems x) with
  | true=>
   simp only [cond_true]
   show ob (spec_l10Lead.m N (electN x d)) _=_
   rw [e4,ob_some,e1]
  | false=>
   simp only [cond_false]
   unfold spec_l10Elect.lp12
   have:=miter_up (step:=fun rec=>spec_l10Elect.step12 N x d rec) (n:=(mems x).length) (st:=fun i=>(mems x,(i:Int),x.Term+1,(1:Int),(0:Int),5+Int.tmod d 8,x.Log,[x.Id],x.Next,x.Match,(0:Int),(0:Int),(0:Int),(0:Int),(0:Int),(0:Int),(0:Int),(((mems x).take i).filter (notId (electN x d))).map (voteM (electN x d)))) (r:=some (electN x d,((mems x).filter (notId (electN x d))).map (voteM (electN x d)))) (fun i hi rec=>by
    have hle:((((mems x).take i).filter (notId (electN x d))).map (voteM (electN x d))).length≤100:=by
     have:=List.length_filter_le (notId (electN x d)) ((mems x).take i)
     rw [List.length_take] at this
     rw [List.length_map];omega
    have htk:(mems x).take (i+1)=(mems x).take i++[ix (mems x) i]:=by rw [List.take_add_one,List.getElem?_eq_getElem hi,ix,getD_at hi];rfl
    have hb:(ix (mems x) i != x.Id)=notId (electN x d) (ix (mems x) i):=rfl
    have ty':spec_l10Term.m N (Node.mk x.Id (x.Term+1) x.Id x.Log x.Start 1 [x.Id] x.Next x.Match x.Commit 0 (5+Int.tmod d 8) x.Up) (x.Log.length:Int)=some (tv (electN x d) (x.Log.length:Int)):=ty
    simp only [spec_l10Elect.step12,lt_dec hi,nn_dec,cond_true,Int.toNat_natCast,ixe,ty',ob_some]
    rw [w_up i _ hi (by omega),roomB (by rw [List.length_singleton];omega) (by omega),cond_true,htk,List.filter_append,List.map_append,hb]
    cases hq:notId (electN x d) (ix (mems x) i)
    ·simp [List.filter,hq]
    ·simp only [List.filter,hq,cond_true,List.map_cons,List.map_nil];rfl) (fun rec=>by
    simp only [spec_l10Elect.step12,ge_dec,cond_false,List.take_length]
    rfl) (mems x).length 0 N (by omega) (by omega)
   exact this
 ·unfold impl_worker_stand.m impl_worker_stand.m0
  simp only []
  rw [w1,w2,show (!decide ((8:Int)=0))=true from rfl,cond_true]
  have li:impl_worker_leadIf.m N ⟨electN x d,[]⟩=some (bif mostB (hasB [x.Id]) (mems x) then (true,⟨withC (leadN (electN x d)) c,told (leadN (electN x d)) (mems x)⟩) else (false,⟨electN x d,[]⟩)):=by
   unfold impl_worker_leadIf.m
   simp only [nodeEta]
   rw [most2,ob_some]
   cases mostB (hasB [x.Id]) (mems x) with
   | true=>rw [cond_true,cond_true,e5,ob_some]
   | false=>rfl
  show ob (impl_worker_leadIf.m N ⟨electN x d,[]⟩) _=_
  rw [li,ob_some]
  unfold electR
  cases mostB (hasB [x.Id]) (mems x) with
  | true=>simp only [cond_true,nodeEta];rw [e1]
  | false=>
   simp only [cond_false,nodeEta]
   rw [othersI hN (electN x d) (mems x) [] (by have:=he.mi hN;rwa [hm] at this) hM,ob_some]
   generalize hO':(mems x).filter (notId (electN x d))=O
   have hOl:O.length≤7:=by rw [← hO'];have:=List.length_filter_le (notId (electN x d)) (mems x);omega
   unfold impl_worker_stand.lp4
   have:=miter_up (step:=fun rec=>impl_worker_stand.step4 N ⟨x,[]⟩ d rec) (n:=O.length) (st:=fun i=>((O.length:Int),(i:Int),x.Id,x.Term+1,x.Id,(1:Int),x.Commit,(0:Int),5+Int.tmod d 8,x.Up,x.Log,x.Start,[x.Id],x.Next,x.Match,(O.take i).map (voteM (electN x d)),O)) (r:=some ⟨electN x d,O.map (voteM (electN x d))⟩) (fun i hi rec=>by
    have hle:((O.take i).map (voteM (electN x d))).length≤100:=by rw [List.length_map,List.length_take];omega
    have htk:O.take (i+1)=O.take i++[ix O i]:=by rw [List.take_add_one,List.getElem?_eq_getElem hi,ix,getD_at hi];rfl
    have ty':impl_Node_termAt.m N (Node.mk x.Id (x.Term+1) x.Id x.Log x.Start 1 [x.Id] x.Next x.Match x.Commit 0 (5+Int.tmod d 8) x.Up) (x.Log.length:Int)=some (tv (electN x d) (x.Log.length:Int)):=by rw [term_eq];exact ty
    simp only [impl_worker_stand.step4,lt_dec hi,nn_dec,cond_true,Int.toNat_natCast,ixe,ty',ob_some]
    unfold impl_worker_send_.m
    simp only [nodeEta]
    rw [roomB (by rw [List.length_singleton];omega) (by omega),cond_true,ob_some,w_up i _ hi (by omega),htk,List.map_append]
    rfl) (fun rec=>by
    simp only [impl_worker_stand.step4,ge_dec,cond_false,List.take_length]
    rfl) O.length 0 N (by omega) (by omega)
   exact this
def te (x:Node):Int:=if x.Elapsed+1<1000 then x.Elapsed+1 else 1000
def withE (x:Node) (e:Int):Node:=⟨x.Id,x.Term,x.Vote,x.Log,x.Start,x.Role,x.Votes,x.Next,x.Match,x.Commit,e,x.Wait,x.Up⟩
theorem GN.withE {x:Node} (h:GN x) (e:Int):GN (withE x e):=⟨⟨h.sz.Log,h.sz.Start,h.sz.Votes,h.sz.Next,h.sz.Match⟩,h.da,h.mm,h.st,h.c0,h.c1,h.n7,h.m7,h.nx,h.ll⟩
def tickR (x:Node) (d:Int):Node×List Message:=
 bif x.Role==2 then (bif decide (te x<2) then (withE x (te x),[]) else (withE x 0,told (withE x 0) (mems x)))
 else bif decide (te x<x.Wait) then (withE x (te x),[]) else bif !hasB (mems x) x.Id then (withE x (te x),[]) else bif x.Term==1000000 then (withE x (te x),[]) else electR (withE x (te x)) d
theorem okEl {x:Node} (h:okB x=true):0≤x.Term∧x.Term≤1000000∧0≤x.Elapsed∧x.Elapsed≤1000:=by
 unfold okB stB inB at h
 simp only [Bool.and_eq_true,decide_eq_true_eq] at h
 obtain ⟨_,h1,_,_,_,_,_,_,_,h2,_⟩:=h
 exact ⟨h1.1.1,h1.1.2,h2.1,h2.2⟩
theorem tickBoth {N:Nat} (hN:Big N) {x:Node} (h:GN x) (hk:okB x=true) {d:Int} (d0:0≤d) (d1:d≤1000000):spec_l10Tick.m N x d=some (tickR x d)∧impl_worker_tick.m N ⟨x,[]⟩ d=some ⟨(tickR x d).1,(tickR x d).2⟩:=by
 obtain ⟨t0,t1,q0,q1⟩:=okEl hk
 have w1:w64 (x.Elapsed+1)=x.Elapsed+1:=w_small (by omega) (by omega)
 have ete:(if x.Elapsed+1<(1000:Int) then x.Elapsed+1 else (1000:Int))=te x:=rfl
 have hM:=h.M
 have hl:=hM.len
 have h0:=h.withE 0
 have h1:=h.withE (te x)
 have hms0:spec_l10Members.m N (withE x 0)=some (mems x):=h0.ms hN
 have hms1:spec_l10Members.m N (withE x (te x))=some (mems x):=h1.ms hN
 have hmi0:impl_Node_members.m N (withE x 0)=some (mems x):=h0.mi hN
 have hmi1:impl_Node_members.m N (withE x (te x))=some (mems x):=h1.mi hN
 have ts:=specTell hN (withE x 0) (mems x) hms0 hM h0.tells
 have ti:=implTellAllC hN (withE x 0) (mems x) x.Commit hmi0 hM h0.tells
 have ew:withC (withE x 0) x.Commit=withE x 0:=rfl
 rw [ew] at ti
 have hh:=l10Has hN (mems x) x.Id (by simp only [M20];omega)
 have hc:=contains hN (mems x) x.Id (by simp only [M20];omega)
 constructor
 ·unfold spec_l10Tick.m tickR
  rw [ownS x h.sz,ob_some,w1,ete]
  cases x.Role==2 with
  | true=>
   rw [cond_true,cond_true]
   cases decide (te x<2) with
   | true=>rfl
   | false=>
    rw [cond_false,cond_false]
    show ob (spec_l10Tell.m N (withE x 0)) _=_
    rw [ts];rfl
  | false=>
   rw [cond_false,cond_false]
   cases decide (te x<x.Wait) with
   | true=>rfl
   | false=>
    rw [cond_false,cond_false]
    show ob (spec_l10Members_.m N (withE x (te x))) _=_
    rw [mem_ hN hms1,ob_some,hh,ob_some,cond_false]
    cases hasB (mems x) x.Id with
    | false=>rfl
    | true=>
     rw [Bool.not_true,cond_false,cond_false,cond_false]
     cases ht:x.Term==1000000 with
     | true=>rfl
     | false=>
      rw [cond_false,cond_false]
      have hne:x.Term≠1000000:=by rwa [beq_eq_false_iff_ne] at ht
      show ob (spec_l10Elect.m N (withE x (te x)) d) _=_
      rw [(electBoth hN h1 t0 (by show x.Term<1000000;omega) d0 d1).1];rfl
 ·unfold impl_worker_tick.m tickR
  simp only []
  rw [w1,ete]
  have hne2:(x.Role != 2) = !(x.Role==2):=rfl
  rw [hne2]
  cases hr:x.Role==2 with
  | true=>
   rw [cond_true,cond_true,cond_true]
   by_cases h2:te x<2
   ·rw [decide_eq_false (show ¬ te x≥2 by omega),decide_eq_true h2];rfl
   ·rw [decide_eq_true (show te x≥2 by omega),decide_eq_false h2,cond_true,cond_false]
    show ob (impl_worker_tellAll.m N ⟨withE x 0,[]⟩ x.Commit) _=_
    rw [ti];rfl
  | false=>
   rw [cond_false,Bool.not_false,cond_true,cond_false,cond_true]
   by_cases h2:te x<x.Wait
   ·rw [decide_eq_false (show ¬ te x≥x.Wait by omega),decide_eq_true h2];rfl
   ·rw [decide_eq_true (show te x≥x.Wait by omega),decide_eq_false h2,cond_true,cond_false,cond_true]
    by_cases ht:x.Term<1000000
    ·rw [decide_eq_true ht,cond_true]
     show ob (impl_Node_members.m N (withE x (te x))) _=_
     rw [hmi1,ob_some,hc,ob_some,cond_true]
     cases hasB (mems x) x.Id with
     | false=>rfl
     | true=>
      rw [cond_true,Bool.not_true,cond_false,show (x.Term==1000000)=false by rw [beq_eq_false_iff_ne];omega,cond_false]
      show ob (impl_worker_stand.m N ⟨withE x (te x),[]⟩ d) _=_
      rw [(electBoth hN h1 t0 ht d0 d1).2];rfl
    ·rw [decide_eq_false ht,cond_false,show (x.Term==1000000)=true by rw [beq_iff_eq];omega]
     cases hasB (mems x) x.Id<;>rfl
theorem electR_ok {x:Node} (h:GN x) (d:Int):NodeSz (electR x d).1 1048576∧(electR x d).2.length≤10∧∀m∈(electR x d).2,m.Entries.length≤100:=by
 have he:=(h.elect d).lead
 have hM:=h.M
 unfold electR
 cases mostB (hasB [x.Id]) (mems x) with
 | true=>
  refine ⟨⟨he.sz.Log,he.sz.Start,he.sz.Votes,he.sz.Next,he.sz.Match⟩,?_,told_ent he.tells⟩
  have:=told_len (x:=leadN (electN x d)) hM
  show (told _ _).length≤10;omega
 | false=>
  refine ⟨(h.elect d).sz,?_,fun m hm=>?_⟩
  ·show (((mems x).filter _).map _).length≤10
   have:=List.length_filter_le (notId (electN x d)) (mems x)
   have:=hM.len
   rw [List.length_map];omega
  ·obtain ⟨v,_,rfl⟩:=List.mem_map.1 hm
   exact Nat.zero_le _
theorem tickR_ok {x:Node} (h:GN x) (d:Int):NodeSz (tickR x d).1 1048576∧(tickR x d).2.length≤10∧∀m∈(tickR x d).2,m.Entries.length≤100:=by
 have e0:∀e,NodeSz (withE x e) 1048576:=fun e=>⟨h.sz.Log,h.sz.Start,h.sz.Votes,h.sz.Next,h.sz.Match⟩
 have same:∀e,NodeSz ((withE x e,([]:List Message)).1) 1048576∧((withE x e,([]:List Message)).2).length≤10∧∀m∈(withE x e,([]:List Message)).2,m.Entries.length≤100:=fun e=>⟨e0 e,Nat.zero_le _,fun m hm=>absurd hm List.not_mem_nil⟩
 unfold tickR
 cases x.Role==2 with
 | true=>
  cases decide (te x<2) with
  | true=>exact same _
  | false=>
   refine ⟨e0 0,?_,told_ent (h.withE 0).tells⟩
   have:=told_len (x:=withE x 0) h.M
   show (told _ _).length≤10;omega
 | false=>
  cases decide (te x<x.Wait) with
  | true=>exact same _
  | false=>
   cases hasB (mems x) x.Id with
   | false=>exact same _
   | true=>
    cases x.Term==1000000 with
    | true=>exact same _
    | false=>exact electR_ok (h.withE (te x)) d
def ntR (x:Node) (d:Int):Node×List Message×Int:=bif okB x then bif inB d 0 1000000 then bif x.Up then ((tickR x d).1,(tickR x d).2,0) else (x,[],5) else (zN,[],4) else (zN,[],1)
theorem ntBoth {N:Nat} (hN:Big N) (x:Node) (d:Int) (hs:NodeSz x M20) (hd:NodeData x):spec_NodeTick.m N x d=some (ntR x d)∧impl_NodeTick.m N x d=some (ntR x d)∧NodeSz (ntR x d).1 1048576∧(ntR x d).2.1.length≤10∧∀m∈(ntR x d).2.1,m.Entries.length≤100:=by
 have nil:∀m∈([]:List Message),m.Entries.length≤100:=fun m hm=>absurd hm List.not_mem_nil
 unfold spec_NodeTick.m impl_NodeTick.m ntR
 simp only [nodeEta]
 rw [specOK hN x hs hd,implOK hN x hs hd,l01In,within]
 simp only [ob_some]
 cases hk:okB x with
 | false=>exact ⟨rfl,rfl,zN_sz,Nat.zero_le _,nil⟩
 | true=>
 cases hi:inB d 0 1000000 with
 | false=>exact ⟨rfl,rfl,zN_sz,Nat.zero_le _,nil⟩
 | true=>
 cases hu:x.Up with
 | false=>
  rw [ownS x hs,copyN x hs]
  exact ⟨rfl,rfl,hs,Nat.zero_le _,nil⟩
 | true=>
 have h:=GN.of hs hd hk
 unfold inB at hi
 simp only [Bool.and_eq_true,decide_eq_true_eq] at hi
 obtain ⟨t1,t2⟩:=tickBoth hN h hk hi.1 hi.2
 obtain ⟨o1,o2,o3⟩:=tickR_ok h d
 refine ⟨?_,?_,o1,o2,o3⟩
 ·rw [t1];rfl
 ·rw [copyN x hs]
  simp only [ob_some,Bool.not_true,cond_false,nodeEta]
  rw [t2,ob_some]
  unfold impl_worker_asNode.m
  simp only [nodeEta]
  rw [copyN _ o1];rfl
theorem pureNodeTick (a0:Node) (a1:Int) (h0:∃n,WfE E (WfA E n) (.st 25) a0) (h1:∃n,WfE E (WfA E n) (.int .i64) a1):∃N,laws_FnExactNodeTick.m N a0 a1=some true:=by
 refine ⟨16777216,?_⟩
 generalize hN':16777216=N
 have hN:Big N:=by omega
 unfold laws_FnExactNodeTick.m
 obtain ⟨y,e,_,hy⟩:=szNode hN a0 1048576 (by omega) (by omega) (wfNode h0)
 rw [nodeEta,e,ob_some]
 by_cases h:y<0
 ·rw [decide_eq_true h];rfl
 rw [decide_eq_false h,cond_false]
 obtain ⟨hs,hd⟩:=hy (by omega)
 obtain ⟨p1,p2,p3,p4,p5⟩:=ntBoth hN a0 a1 hs hd
 generalize ntR a0 a1=r at p1 p2 p3 p4 p5
 simp only [toNode hN a0 hs,ob_some,nodeEta,p1,p2]
 obtain ⟨k1,y1,hm1,_,_,hk1,_,_⟩:=markNode hN a0 1 hs (by omega) (by omega)
 obtain ⟨k,z,hm,_,hh,hk,hk',hf⟩:=markNode hN r.1 1 p3 (by omega) (by omega)
 have q1:=eqMsgS hN r.2.1 (by omega) (fun m hm=>by have:=p5 m hm;omega)
 have q2:=markMsgS hN r.2.1 k (by omega) p4 (by omega) p5
 have q3:=heldMsgS hN r.2.1 k (by omega) p4 (by omega) p5
 have q4:=marks_msg N r.2.1 k (by omega) (by omega) p5
 simp only [eqNode hN r.1 p3,eqNode hN a0 hs,hm1,hm,ob_some,mkNode r.1 z hf,hh,q1,q2,q3,Bool.not_true,cond_false,bne_self_eq_false,decide_eq_false (show ¬ k1<0 by omega),decide_eq_false (show ¬ k<0 by omega),decide_eq_false (show ¬ (marks (fMsg N) k r.2.1).1<0 by omega)]
end Mir.Y
