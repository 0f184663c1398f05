/- NodeTake: messages, votes. -/
import Derived.Test.YtbbkpgpfppnakaaGreatJTNT2
namespace Mir.Y
set_option linter.unusedVariables false
set_option linter.unusedSimpArgs false
open Go
structure MsgSz (m:Message):Prop where
 len:m.Entries.length≤M20
 dat:∀e∈m.Entries,e.Data.size≤M20
def entsB (m:Message):Bool:=logB m.Entries m.Term&&((decide (m.Entries.length=0)||decide ((ex m.Entries 0).Term≥m.LogTerm))&&(decide (m.Index > 0)||(m.LogTerm==0)))
def msgB (m:Message):Bool:=inB m.Kind 1 4&&(inB m.From 0 6&&(inB m.To 0 6&&(!(m.From==m.To)&&(inB m.Term 1 1000000&&(inB m.Index 0 60&&(inB m.LogTerm 0 m.Term&&(inB m.Commit 0 60&&bif m.Kind != 3 then decide (m.Entries.length=0) else decide ((m.Entries.length:Int)≤60 - m.Index)&&entsB m)))))))
theorem ifNotH {p:Bool} {X:Option Bool} {q:Bool} (h:p=true→X=some q):(bif !p then some false else X)=some (p&&q):=by
 cases p with
 | false=>rfl
 | true=>exact h rfl
theorem ifNoH {p:Bool} {X:Option Bool} {q:Bool} (h:p=false→X=some q):(bif p then some false else X)=some (!p&&q):=by
 cases p with
 | true=>rfl
 | false=>exact h rfl
theorem inB_iff {a lo hi:Int}:inB a lo hi=true↔lo≤a∧a≤hi:=by
 unfold inB;simp
theorem specMsg {N:Nat} (hN:Big N) (m:Message) (h:MsgSz m):spec_l10MessageOK.m N m=some (msgB m):=by
 unfold spec_l10MessageOK.m msgB
 simp only [l01In,ob_some,cond_false]
 refine ifNotH fun _=>ifNotH fun _=>ifNotH fun _=>ifNoH fun _=>ifNotH fun ht=>ifNotH fun hi=>ifNotH fun _=>ifNotH fun _=>?_
 rw [inB_iff] at hi ht
 rw [w_small (x:=60 - m.Index) (by omega) (by omega)]
 by_cases hl:(m.Entries.length:Int) > 60 - m.Index
 ·rw [decide_eq_true hl,decide_eq_false (show ¬ m.Entries.length=0 by omega),decide_eq_false (show ¬ (m.Entries.length:Int)≤60 - m.Index by omega)]
  cases m.Kind != 3<;>rfl
 rw [decide_eq_false hl,decide_eq_true (show (m.Entries.length:Int)≤60 - m.Index by omega),cond_false,Bool.true_and]
 have e0:((m.Entries.length:Int)==0)=decide (m.Entries.length=0):=by rw [Bool.eq_iff_iff];simp
 cases m.Kind != 3 with
 | true=>rw [cond_true,cond_true,e0]
 | false=>
 rw [cond_false,cond_false,specState hN ⟨m.Term,0,m.Entries⟩ h.len h.dat,ob_some]
 have es:stB ⟨m.Term,0,m.Entries⟩=logB m.Entries m.Term:=by
  unfold stB
  rw [inB_iff.2 (show (0:Int)≤m.Term∧m.Term≤1000000 by omega),show inB (0:Int) (-1) 6=true from rfl,decide_eq_true (show (m.Entries.length:Int)≤60 by omega)];rfl
 rw [es,e0]
 unfold entsB
 cases logB m.Entries m.Term with
 | false=>rfl
 | true=>
 rw [cond_true]
 by_cases hz:m.Entries.length=0
 ·rw [decide_eq_true hz]
  by_cases hg:m.Index > 0
  ·simp [hg]
  ·simp [hg]
 ·rw [decide_eq_false hz,decide_eq_true (show (0:Int)<(m.Entries.length:Int) by omega)]
  simp only [exe,cond_true,cond_false,show decide ((0:Int)≤0)=true from rfl,Bool.false_or]
  by_cases hq:(ex m.Entries 0).Term≥m.LogTerm
  ·simp only [hq,decide_true,cond_true];cases decide (m.Index > 0)<;>rfl
  ·simp only [hq,decide_false,cond_false];cases decide (m.Index > 0)<;>rfl
def pv (m:Message) (i:Nat):Int:=if i=0 then m.LogTerm else (ex m.Entries (i - 1)).Term
theorem implEnt {N:Nat} (hN:Big N) (m:Message) (h:MsgSz m) (h0:0≤m.Index) (h1:m.Index≤60) (hl:m.Entries.length≤60):impl_Message_entriesOK.m N m=some (allF (fun i=>entB (ex m.Entries i)&&inB (ex m.Entries i).Term (pv m i) m.Term) 0 m.Entries.length&&(decide ((m.Entries.length:Int)≤60 - m.Index)&&(decide (m.Index > 0)||(m.LogTerm==0)))):=by
 unfold impl_Message_entriesOK.m impl_Message_entriesOK.m0 impl_Message_entriesOK.lp3
 have:=loop_all (step:=fun rec=>impl_Message_entriesOK.step3 N m rec) (n:=m.Entries.length) (st:=fun i=>(pv m i,(m.Entries.length:Int),(i:Int))) (p:=fun i=>entB (ex m.Entries i)&&inB (ex m.Entries i).Term (pv m i) m.Term) (f:=some false) (t:=some (decide ((m.Entries.length:Int)≤60 - m.Index)&&(decide (m.Index > 0)||(m.LogTerm==0)))) (fun i hi rec=>by
  have ep:(ex m.Entries i).Term=pv m (i+1):=by unfold pv;rw [if_neg (by omega),Nat.add_sub_cancel]
  simp only [impl_Message_entriesOK.step3,lt_dec hi,nn_dec,cond_true,Int.toNat_natCast,exe,implEntry hN _ (ex_size h.dat hi),within,ob_some,cond_false]
  rw [w_up i _ hi (by omega)]
  cases entB (ex m.Entries i) with
  | false=>rfl
  | true=>
   simp only [Bool.not_true,cond_false,Bool.true_and]
   cases inB (ex m.Entries i).Term (pv m i) m.Term with
   | false=>rfl
   | true=>rw [ep];rfl) (fun rec=>by
  simp only [impl_Message_entriesOK.step3,ge_dec,cond_false]
  rw [w_small (x:=m.Index+(m.Entries.length:Int)) (by omega) (by omega)]
  by_cases hq:m.Index+(m.Entries.length:Int)≤60
  ·rw [decide_eq_true hq,decide_eq_true (show (m.Entries.length:Int)≤60 - m.Index by omega)]
   by_cases hg:m.Index > 0<;>simp [hg]
  ·rw [decide_eq_false hq,decide_eq_false (show ¬ (m.Entries.length:Int)≤60 - m.Index by omega)];rfl) m.Entries.length 0 N (by omega) (by omega)
 refine (show _=_ from this).trans ?_
 cases allF _ 0 m.Entries.length<;>rfl
theorem ents_eq (m:Message):allF (fun i=>entB (ex m.Entries i)&&inB (ex m.Entries i).Term (pv m i) m.Term) 0 m.Entries.length=(logB m.Entries m.Term&&(decide (m.Entries.length=0)||decide ((ex m.Entries 0).Term≥m.LogTerm))):=by
 rw [Bool.eq_iff_iff]
 unfold logB
 rw [Bool.and_eq_true,allF_iff,allF_iff]
 simp only [Bool.and_eq_true,inB_iff,Bool.or_eq_true,decide_eq_true_eq,Bool.not_eq_true',Bool.and_eq_false_iff,decide_eq_false_iff_not]
 constructor
 ·intro h
  refine ⟨fun j hj hk=>?_,?_⟩
  ·obtain ⟨a,b,c⟩:=h j hj hk
   refine ⟨a,by omega,?_⟩
   by_cases h0:0<j
   ·right;unfold pv at b;rw [if_neg (by omega)] at b;omega
   ·left;exact h0
  ·by_cases h0:m.Entries.length=0
   ·left;exact h0
   ·right
    have:=(h 0 (Nat.le_refl _) (by omega)).2.1
    exact this
 ·rintro ⟨h,h2⟩ j hj hk
  obtain ⟨a,b,c⟩:=h j hj hk
  refine ⟨a,?_,by omega⟩
  unfold pv
  by_cases h0:j=0
  ·subst h0
   rw [if_pos rfl]
   rcases h2 with h2 | h2
   ·omega
   ·exact h2
  ·rw [if_neg h0]
   rcases c with c | c
   ·omega
   ·omega
theorem implMsg {N:Nat} (hN:Big N) (m:Message) (h:MsgSz m):impl_messageOK.m N m=some (msgB m):=by
 unfold impl_messageOK.m msgB
 simp only [within,isNumber,ob_some,cond_false]
 refine ifNotH fun _=>ifNotH fun _=>ifNotH fun _=>ifNoH fun _=>ifNotH fun ht=>?_
 have sw:∀a b c:Bool,(a&&(b&&c))=(b&&(a&&c)):=by decide
 rw [sw]
 refine ifNotH fun _=>ifNotH fun hi=>ifNotH fun _=>?_
 rw [inB_iff] at hi ht
 have e0:((m.Entries.length:Int)==0)=decide (m.Entries.length=0):=by rw [Bool.eq_iff_iff];simp
 cases m.Kind != 3 with
 | true=>rw [cond_true,cond_true,e0]
 | false=>
 rw [cond_false,cond_false]
 by_cases hl:(m.Entries.length:Int)≤60
 ·rw [decide_eq_true hl,cond_true,implEnt hN m h hi.1 hi.2 (by omega),ob_some,cond_true,ents_eq]
  unfold entsB
  cases logB m.Entries m.Term<;>cases decide ((m.Entries.length:Int)≤60 - m.Index)<;>cases (decide (m.Entries.length=0)||decide ((ex m.Entries 0).Term≥m.LogTerm))<;>rfl
 ·rw [decide_eq_false hl,decide_eq_false (show ¬ (m.Entries.length:Int)≤60 - m.Index by omega)];rfl
def downN (x:Node):Node:=⟨x.Id,x.Term,x.Vote,x.Log,x.Start,0,[],List.replicate 7 1,List.replicate 7 0,x.Commit,x.Elapsed,x.Wait,x.Up⟩
theorem downS {N:Nat} (hN:Big N) (x:Node) (n7:x.Next.length=7) (m7:x.Match.length=7):spec_l10Down.m N x=some (downN x):=by
 unfold spec_l10Down.m spec_l10Down.m0 spec_l10Down.lp4
 have:=miter_up (step:=fun rec=>spec_l10Down.step4 N x rec) (n:=7) (st:=fun j=>((j:Int),(0:Int),([]:List Int),List.replicate j (1:Int)++x.Next.drop j,List.replicate j (0:Int)++x.Match.drop j,(0:Int),(0:Int),(0:Int),(0:Int),(0:Int),(0:Int),(0:Int))) (r:=some (downN x)) (fun j hj rec=>by
  have l1:=fill7 (v:=1) n7 j (by omega)
  have l2:=fill7 (v:=0) m7 j (by omega)
  simp only [spec_l10Down.step4,decide_eq_true (show (j:Int)<7 by omega),nn_dec,l1,l2,decide_eq_true (show (j:Int)<((7:Nat):Int) by omega),cond_true,Int.toNat_natCast]
  rw [w_up j 7 hj (by omega),set7 n7 hj,set7 m7 hj]) (fun rec=>by
  have d1:x.Next.drop 7=[]:=List.drop_of_length_le (by rw [n7];omega)
  have d2:x.Match.drop 7=[]:=List.drop_of_length_le (by rw [m7];omega)
  simp only [spec_l10Down.step4,d1,d2,List.append_nil]
  rw [decide_eq_false (show ¬ ((7:Nat):Int)<7 by omega),cond_false]
  rfl) 7 0 N (by omega) (by omega)
 exact this
theorem followW {N:Nat} (hN:Big N) (w:worker):impl_Node_follow.m N w=some ⟨downN w.Node,w.sent⟩:=by
 unfold impl_Node_follow.m
 rw [repeat7 hN,ob_some];rfl
theorem GN.down {x:Node} (h:GN x):GN (downN x):=⟨⟨h.sz.Log,h.sz.Start,Nat.zero_le _,by show (List.replicate 7 _).length≤_;simp [M20],by show (List.replicate 7 _).length≤_;simp [M20]⟩,h.da,h.mm,h.st,h.c0,h.c1,by show (List.replicate 7 _).length=7;simp,by show (List.replicate 7 _).length=7;simp,fun j hj=>by
 show 1≤ix (List.replicate 7 1) j∧ix (List.replicate 7 1) j≤(x.Log.length:Int)+1
 rw [rep7 _ hj];omega,h.ll⟩
structure GT (x:Node):Prop where
 g:GN x
 vt:idsB (ix x.Votes) x.Votes.length=true
 mt:∀j,j<7→0≤ix x.Match j∧ix x.Match j≤ix x.Next j - 1
theorem GT.of {x:Node} (hs:NodeSz x M20) (hd:NodeData x) (hk:okB x=true):GT x:=by
 have o:=okN hk
 refine ⟨GN.of hs hd hk,?_,fun j hj=>?_⟩
 ·unfold okB at hk
  simp only [Bool.and_eq_true,decide_eq_true_eq] at hk
  exact hk.2.2.2.2.1
 ·have hn:=o.nx j hj
  have hl:=o.ll
  unfold okB at hk
  simp only [Bool.and_eq_true,decide_eq_true_eq] at hk
  obtain ⟨_,_,_,_,_,_,_,_,_,_,_,hr,_⟩:=hk
  unfold reachB at hr
  rw [allF_iff] at hr
  have:=hr j (Nat.zero_le _) (by omega)
  unfold reachP inB at this
  simp only [Bool.and_eq_true,decide_eq_true_eq] at this
  rw [w_small (x:=ix x.Next j - 1) (by omega) (by omega)] at this
  exact this.2
theorem GT.down {x:Node} (h:GT x):GT (downN x):=⟨h.g.down,rfl,fun j hj=>by
 show 0≤ix (List.replicate 7 0) j∧ix (List.replicate 7 0) j≤ix (List.replicate 7 1) j - 1
 rw [rep7 _ hj,rep7 _ hj];omega⟩
def bumpN (x:Node) (t:Int):Node:=⟨x.Id,t,-1,x.Log,x.Start,x.Role,x.Votes,x.Next,x.Match,x.Commit,x.Elapsed,x.Wait,x.Up⟩
theorem GT.bump {x:Node} (h:GT x) (t:Int):GT (bumpN x t):=⟨⟨⟨h.g.sz.Log,h.g.sz.Start,h.g.sz.Votes,h.g.sz.Next,h.g.sz.Match⟩,h.g.da,h.g.mm,h.g.st,h.g.c0,h.g.c1,h.g.n7,h.g.m7,h.g.nx,h.g.ll⟩,h.vt,h.mt⟩
theorem implSend {N:Nat} (y:Node) (sent:List Message) (hs:sent.length≤100) (m:Message):impl_worker_send.m N ⟨y,sent⟩ m=some ⟨y,sent++[⟨m.Kind,y.Id,m.To,y.Term,m.Index,m.LogTerm,m.Commit,m.Entries,m.Ok⟩]⟩:=by
 unfold impl_worker_send.m
 rw [roomB (by rw [List.length_singleton];show sent.length+1≤_;omega) (by omega)];rfl
def upB (y:Node) (i t:Int):Bool:=decide (t > tv y (y.Log.length:Int))||((t==tv y (y.Log.length:Int))&&decide (i≥(y.Log.length:Int)))
theorem upS {N:Nat} (y:Node) (hl:y.Log.length≤100) (i t:Int):spec_l10UpToDate.m N y i t=some (upB y i t):=by
 unfold spec_l10UpToDate.m upB
 rw [termV y _ (by omega) (Int.le_refl _) hl,ob_some]
 cases decide (t > tv y (y.Log.length:Int)) with
 | true=>rfl
 | false=>cases t==tv y (y.Log.length:Int)<;>rfl
def grB (y:Node) (m:Message):Bool:=(m.Term==y.Term)&&(((y.Vote == -1)||(y.Vote==m.From))&&upB y m.Index m.LogTerm)
def voteN (y:Node) (c:Int):Node:=⟨y.Id,y.Term,c,y.Log,y.Start,y.Role,y.Votes,y.Next,y.Match,y.Commit,0,y.Wait,y.Up⟩
def voteR (y:Node) (m:Message):Node×List Message:=(bif grB y m then voteN y m.From else y,[⟨2,y.Id,m.From,y.Term,0,0,0,[],grB y m⟩])
theorem voteBoth {N:Nat} (y:Node) (hl:y.Log.length≤100) (m:Message):spec_l10Vote.m N y m=some (voteR y m)∧impl_worker_vote.m N ⟨y,[]⟩ m=some ⟨(voteR y m).1,(voteR y m).2⟩:=by
 unfold spec_l10Vote.m impl_worker_vote.m voteR grB
 simp only [nodeEta,upTo_eq,upS y hl,implSend _ [] (Nat.zero_le _),ob_some,cond_true,cond_false]
 cases m.Term==y.Term with
 | false=>exact ⟨rfl,rfl⟩
 | true=>
 cases y.Vote == -1 with
 | true=>cases upB y m.Index m.LogTerm<;>exact ⟨rfl,rfl⟩
 | false=>
 cases y.Vote==m.From with
 | false=>exact ⟨rfl,rfl⟩
 | true=>cases upB y m.Index m.LogTerm<;>exact ⟨rfl,rfl⟩
end Mir.Y
