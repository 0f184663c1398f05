/- NodeTake: entries and answers that come. -/
import Derived.Test.YtbbkpgpfppnakaaGreatJTNK2
namespace Mir.Y
set_option linter.unusedVariables false
set_option linter.unusedSimpArgs false
open Go
def stay (L:List Entry) (k:Nat) (es:List Entry) (i:Nat):Bool:=decide (k+i<L.length)&&((ex L (k+i)).Term==(ex es i).Term)
def stoD (L:List Entry) (k:Nat) (es:List Entry):Nat→Nat→Nat
 | 0,i=>i
 | n+1,i=>bif stay L k es i then stoD L k es n (i+1) else i
theorem stoD_all (L:List Entry) (k:Nat) (es:List Entry):∀n i,i≤stoD L k es n i∧stoD L k es n i≤i+n∧(∀j,i≤j→j<stoD L k es n i→stay L k es j=true)∧(stoD L k es n i<i+n→stay L k es (stoD L k es n i)=false)
 | 0,i=>⟨Nat.le_refl _,Nat.le_refl _,fun j h1 h2=>absurd h2 (by show ¬ j<i;omega),fun h=>absurd h (by show ¬ i<i+0;omega)⟩
 | n+1,i=>by
  rw [stoD]
  cases hs:stay L k es i with
  | false=>rw [cond_false];exact ⟨Nat.le_refl _,by omega,fun j h1 h2=>by omega,fun _=>hs⟩
  | true=>
   rw [cond_true]
   obtain ⟨a,b,c,d⟩:=stoD_all L k es n (i+1)
   refine ⟨by omega,by omega,fun j h1 h2=>?_,fun h=>d (by omega)⟩
   by_cases e:j=i
   ·rw [e];exact hs
   ·exact c j (by omega) h2
def stoL (L:List Entry) (k:Nat) (es:List Entry):List Entry:=if stoD L k es es.length 0<es.length then L.take (k+stoD L k es es.length 0)++es.drop (stoD L k es es.length 0) else L
def comN (c i mc:Int):Int:=if c<(if i<mc then i else mc) then (if i<mc then i else mc) else c
def hintV (y:Node) (m:Message):Int:=if (if (0:Int)<m.Index - 1 then m.Index - 1 else 0)<(y.Log.length:Int) then (if (0:Int)<m.Index - 1 then m.Index - 1 else 0) else (y.Log.length:Int)
def fresh (x:Node):Node:=⟨x.Id,x.Term,x.Vote,x.Log,x.Start,0,[],List.replicate 7 1,List.replicate 7 0,x.Commit,0,x.Wait,x.Up⟩
def withLC (x:Node) (l:List Entry) (c:Int):Node:=⟨x.Id,x.Term,x.Vote,l,x.Start,x.Role,x.Votes,x.Next,x.Match,c,x.Elapsed,x.Wait,x.Up⟩
def backM (y:Node) (m:Message):Message:=⟨4,y.Id,m.From,y.Term,hintV y m,0,0,[],false⟩
def goodM (y:Node) (m:Message):Message:=⟨4,y.Id,m.From,y.Term,m.Index+m.Entries.length,0,0,[],true⟩
def entR (y:Node) (m:Message):Node×List Message:=
 bif decide (m.Term<y.Term) then (y,[backM y m]) else
 bif decide (m.Index > (y.Log.length:Int))||(tv y m.Index != m.LogTerm) then (fresh y,[backM y m]) else
 (withLC (fresh y) (stoL y.Log m.Index.toNat m.Entries) (comN y.Commit (m.Index+m.Entries.length) m.Commit),[goodM y m])
theorem stay_len {L:List Entry} {k:Nat} {es:List Entry} {i:Nat} (h:stay L k es i=true):k+i<L.length∧((ex L (k+i)).Term==(ex es i).Term)=true:=by
 unfold stay at h
 simpa using h
theorem sto_len {L:List Entry} {k:Nat} {es:List Entry} (hk:k≤L.length):k+stoD L k es es.length 0≤L.length:=by
 obtain ⟨_,_,c,_⟩:=stoD_all L k es es.length 0
 by_cases h:stoD L k es es.length 0=0
 ·omega
 ·have:=(stay_len (c (stoD L k es es.length 0 - 1) (Nat.zero_le _) (by omega))).1;omega
theorem hint_eq {y:Node} {m:Message} (h0:0≤m.Index) (h1:m.Index≤60):(if (0:Int)<(if m.Index - 1<(y.Log.length:Int) then m.Index - 1 else (y.Log.length:Int)) then (if m.Index - 1<(y.Log.length:Int) then m.Index - 1 else (y.Log.length:Int)) else (0:Int))=hintV y m:=by
 unfold hintV
 repeat' split
 all_goals first | rfl | omega
theorem storeI {N:Nat} (hN:Big N) (z:Node) (sent:List Message) (m:Message) {k:Nat} (hk:m.Index=(k:Int)) (h60:m.Index≤60) (hz:z.Log.length≤60) (hkl:k≤z.Log.length) (he:m.Entries.length≤60):impl_worker_store.m N ⟨z,sent⟩ m=some ⟨withLC z (stoL z.Log k m.Entries) z.Commit,sent⟩:=by
 unfold impl_worker_store.m impl_worker_store.m0 impl_worker_store.lp2
 have hd:=sto_len (es:=m.Entries) hkl
 obtain ⟨_,hle,hs,hn⟩:=stoD_all z.Log k m.Entries m.Entries.length 0
 have el:stoL z.Log k m.Entries=if stoD z.Log k m.Entries m.Entries.length 0<m.Entries.length then z.Log.take (k+stoD z.Log k m.Entries m.Entries.length 0)++m.Entries.drop (stoD z.Log k m.Entries m.Entries.length 0) else z.Log:=rfl
 generalize stoD z.Log k m.Entries m.Entries.length 0=d at hd hle hs hn el
 have e1:∀i:Nat,i≤60→w64 ((w64 (m.Index+(i:Int)))+1)=((k+i+1:Nat):Int):=fun i hi=>by
  rw [w_small (x:=m.Index+(i:Int)) (by omega) (by omega),w_small (by omega) (by omega)];omega
 have e2:∀i:Nat,i≤60→w64 (((k+i+1:Nat):Int) - 1)=((k+i:Nat):Int):=fun i hi=>by rw [w_small (by omega) (by omega)];omega
 have tk:∀i:Nat,k+i<z.Log.length→impl_Node_termAt.m N z ((k+i+1:Nat):Int)=some (ex z.Log (k+i)).Term:=fun i hi=>by
  rw [term_eq,termV z _ (by omega) (by omega) (by omega)]
  unfold tv
  rw [show (((k+i+1:Nat):Int)==0)=false by rw [beq_eq_false_iff_ne];omega,cond_false,show (((k+i+1:Nat):Int) - 1).toNat=k+i by omega]
 have:=miter_up (step:=fun rec=>impl_worker_store.step2 N ⟨z,sent⟩ m rec) (n:=d) (st:=fun i=>((m.Entries.length:Int),(i:Int))) (r:=some ⟨withLC z (stoL z.Log k m.Entries) z.Commit,sent⟩) (fun i hi rec=>by
  obtain ⟨s1,s2⟩:=stay_len (hs i (Nat.zero_le _) hi)
  have hne:((ex z.Log (k+i)).Term != (ex m.Entries i).Term)=false:=by unfold bne;rw [s2];rfl
  simp only [impl_worker_store.step2,lt_dec (show i<m.Entries.length by omega),nn_dec,cond_true,Int.toNat_natCast,nodeEta,exe,e1 i (by omega),tk i s1,ob_some,hne,cond_false]
  rw [decide_eq_false (show ¬ ((k+i+1:Nat):Int) > (z.Log.length:Int) by omega),cond_false,w_up i _ hi (by omega)]) (fun rec=>by
  rw [el]
  by_cases hdl:d<m.Entries.length
  ·have r1:room (((k+d) - 0)+(m.Entries.drop d).length) 32=true:=roomB (by rw [List.length_drop];omega) (by omega)
   have r2:decide (((k+d:Nat):Int)≤((z.Log.length:Nat):Int))=true:=decide_eq_true (by omega)
   have r3:decide ((d:Int)≤((m.Entries.length:Nat):Int))=true:=decide_eq_true (by omega)
   rw [if_pos hdl]
   simp only [impl_worker_store.step2,lt_dec hdl,nn_dec,cond_true,Int.toNat_natCast,nodeEta,exe,e1 d (by omega),e2 d (by omega),r1,r2,r3]
   by_cases hin:k+d<z.Log.length
   ·have hst:=hn (by omega)
    unfold stay at hst
    rw [decide_eq_true hin,Bool.true_and] at hst
    have hne:((ex z.Log (k+d)).Term != (ex m.Entries d).Term)=true:=by unfold bne;rw [hst];rfl
    rw [decide_eq_false (show ¬ ((k+d+1:Nat):Int) > (z.Log.length:Int) by omega),cond_false,tk d hin,ob_some,cond_false,hne,cond_true]
    rfl
   ·rw [decide_eq_true (show ((k+d+1:Nat):Int) > (z.Log.length:Int) by omega),cond_true]
    rfl
  ·rw [if_neg hdl]
   simp only [impl_worker_store.step2,decide_eq_false (show ¬ (d:Int)<(m.Entries.length:Int) by omega),cond_false,nodeEta]
   rfl) d 0 N (by omega) (by omega)
 exact this
theorem entBoth {N:Nat} (hN:Big N) {y:Node} (h:GN y) (m:Message) (h0:0≤m.Index) (h1:m.Index≤60) (he:m.Entries.length≤60):spec_l10Entries.m N y m=some (entR y m)∧impl_worker_takeAppend.m N ⟨y,[]⟩ m=some ⟨(entR y m).1,(entR y m).2⟩:=by
 have hl:=h.ll
 have w1:w64 (m.Index - 1)=m.Index - 1:=w_small (by omega) (by omega)
 have w2:w64 (m.Index+(m.Entries.length:Int))=m.Index+(m.Entries.length:Int):=w_small (by omega) (by omega)
 have ef:Node.mk y.Id y.Term y.Vote y.Log y.Start 0 [] (List.replicate 7 1) (List.replicate 7 0) y.Commit 0 y.Wait y.Up=fresh y:=rfl
 unfold spec_l10Entries.m spec_l10Entries.m0 impl_worker_takeAppend.m entR
 simp only [nodeEta,w1,w2,hint_eq h0 h1,implSend _ [] (Nat.zero_le _),ob_some,downS hN y h.n7 h.m7,followW hN,downN,ef,cond_false]
 cases decide (m.Term<y.Term) with
 | true=>exact ⟨rfl,rfl⟩
 | false=>
 simp only [cond_false]
 by_cases hi:m.Index > (y.Log.length:Int)
 ·rw [decide_eq_true hi];exact ⟨rfl,rfl⟩
 rw [decide_eq_false hi,Bool.false_or]
 simp only [cond_false]
 have et:spec_l10Term.m N (fresh y) m.Index=some (tv y m.Index):=termV (fresh y) _ h0 (by show m.Index≤(y.Log.length:Int);omega) (by show y.Log.length≤100;omega)
 rw [term_eq,et,ob_some,ob_some]
 cases tv y m.Index != m.LogTerm with
 | true=>exact ⟨rfl,rfl⟩
 | false=>
 simp only [cond_false]
 obtain ⟨k,hk⟩:∃k:Nat,m.Index=(k:Int):=⟨m.Index.toNat,by omega⟩
 have hkl:k≤y.Log.length:=by omega
 have etn:m.Index.toNat=k:=by omega
 rw [etn]
 constructor
 ·unfold spec_l10Entries.lp9
  have hd:=sto_len (es:=m.Entries) hkl
  obtain ⟨_,hle,hs,hn⟩:=stoD_all y.Log k m.Entries m.Entries.length 0
  have el:stoL y.Log k m.Entries=if stoD y.Log k m.Entries m.Entries.length 0<m.Entries.length then y.Log.take (k+stoD y.Log k m.Entries m.Entries.length 0)++m.Entries.drop (stoD y.Log k m.Entries m.Entries.length 0) else y.Log:=rfl
  generalize stoD y.Log k m.Entries m.Entries.length 0=d at hd hle hs hn el
  have e1:∀i:Nat,i≤60→w64 (m.Index+(i:Int))=((k+i:Nat):Int):=fun i hi=>by
   rw [w_small (x:=m.Index+(i:Int)) (by omega) (by omega)];omega
  have:=miter_up (step:=fun rec=>spec_l10Entries.step9 N y m rec) (n:=d) (st:=fun i=>((i:Int),y.Id,y.Term,y.Vote,(0:Int),y.Commit,(0:Int),y.Wait,y.Up,y.Log,y.Start,([]:List Int),List.replicate 7 (1:Int),List.replicate 7 (0:Int),(0:Int),(0:Int),(0:Int),(0:Int),(0:Int),(0:Int),(0:Int))) (r:=some (withLC (fresh y) (stoL y.Log k m.Entries) (comN y.Commit (m.Index+m.Entries.length) m.Commit),[goodM y m])) (fun i hi rec=>by
   obtain ⟨s1,s2⟩:=stay_len (hs i (Nat.zero_le _) hi)
   simp only [spec_l10Entries.step9,lt_dec (show i<m.Entries.length by omega),lt_dec s1,nn_dec,cond_true,Int.toNat_natCast,exe,e1 i (by omega),s2]
   rw [w_up i _ hi (by omega)]) (fun rec=>by
   rw [el]
   by_cases hdl:d<m.Entries.length
   ·have r1:room (([]:List Entry).length+((y.Log.drop 0).take ((k+d) - 0)).length) 32=true:=roomB (by rw [List.length_take,List.length_drop];simp only [List.length_nil];omega) (by omega)
    have r2:decide (((k+d:Nat):Int)≤((y.Log.length:Nat):Int))=true:=decide_eq_true (by omega)
    have r3:decide ((d:Int)≤((m.Entries.length:Nat):Int))=true:=decide_eq_true (by omega)
    have r4:decide (0+((k+d) - 0)≤y.Log.length)=true:=decide_eq_true (by omega)
    have r5:room ((([]:List Entry)++((y.Log.drop 0).take ((k+d) - 0))).length+(m.Entries.drop d).length) 32=true:=roomB (by rw [List.nil_append,List.length_take,List.length_drop,List.length_drop];omega) (by omega)
    rw [if_pos hdl]
    simp only [spec_l10Entries.step9,lt_dec hdl,nn_dec,cond_true,Int.toNat_natCast,exe,e1 d (by omega),r1,r2,r3,r4,r5,w2]
    by_cases hin:k+d<y.Log.length
    ·have hst:=hn (by omega)
     unfold stay at hst
     rw [decide_eq_true hin,Bool.true_and] at hst
     rw [lt_dec hin,cond_true,hst]
     rfl
    ·rw [decide_eq_false (show ¬ ((k+d:Nat):Int)<(y.Log.length:Int) by omega),cond_false]
     rfl
   ·rw [if_neg hdl]
    simp only [spec_l10Entries.step9,decide_eq_false (show ¬ (d:Int)<(m.Entries.length:Int) by omega),cond_false,w2]
    rfl) d 0 N (by omega) (by omega)
  exact this
 ·rw [storeI hN (fresh y) [] m hk h1 hl hkl he]
  simp only [ob_some]
  have:=implSend (N:=N) (withLC (fresh y) (stoL y.Log k m.Entries) (comN y.Commit (m.Index+m.Entries.length) m.Commit)) [] (Nat.zero_le _) (Message.mk 4 0 m.From 0 (m.Index+(m.Entries.length:Int)) 0 0 [] true)
  show ob (impl_worker_send.m N ⟨withLC (fresh y) (stoL y.Log k m.Entries) (comN y.Commit (m.Index+m.Entries.length) m.Commit),[]⟩ _) _=_
  rw [this,ob_some]
  rfl
def withNM (x:Node) (nx mt:List Int):Node:=⟨x.Id,x.Term,x.Vote,x.Log,x.Start,x.Role,x.Votes,nx,mt,x.Commit,x.Elapsed,x.Wait,x.Up⟩
def mtV (y:Node) (m:Message):Int:=if ix y.Match m.From.toNat<(if (y.Log.length:Int)<m.Index then (y.Log.length:Int) else m.Index) then (if (y.Log.length:Int)<m.Index then (y.Log.length:Int) else m.Index) else ix y.Match m.From.toNat
def nxV (y:Node) (m:Message):Int:=if ix y.Next m.From.toNat<mtV y m+1 then mtV y m+1 else ix y.Next m.From.toNat
def bkV (y:Node) (m:Message):Int:=if ix y.Match m.From.toNat+1<(if m.Index+1<ix y.Next m.From.toNat - 1 then m.Index+1 else ix y.Next m.From.toNat - 1) then (if m.Index+1<ix y.Next m.From.toNat - 1 then m.Index+1 else ix y.Next m.From.toNat - 1) else ix y.Match m.From.toNat+1
def okAns (y:Node) (m:Message):Node:=withNM y (y.Next.set m.From.toNat (nxV y m)) (y.Match.set m.From.toNat (mtV y m))
def bkAns (y:Node) (m:Message):Node:=withNM y (y.Next.set m.From.toNat (bkV y m)) y.Match
def ansR (y:Node) (m:Message):Node×List Message:=
 bif y.Role != 2 then (y,[]) else bif m.Term != y.Term then (y,[]) else
 bif m.Ok then (withC (okAns y m) (advC (okAns y m) (mems y) y.Log.length),[]) else (bkAns y m,[msgTo (bkAns y m) m.From])
theorem ix_set {l:List Int} {i:Nat} (hi:i<l.length) (v:Int) (j:Nat):ix (l.set i v) j=if j=i then v else ix l j:=by
 unfold ix
 rw [List.getD_eq_getElem?_getD,List.getElem?_set]
 by_cases h:j=i
 ·subst h;rw [if_pos rfl,if_pos rfl,if_pos hi];rfl
 ·rw [if_neg (by omega),if_neg h,← List.getD_eq_getElem?_getD]
theorem GN.nm {x:Node} (h:GN x) {nx mt:List Int} (h1:nx.length=7) (h2:mt.length=7) (h3:∀j,j<7→1≤ix nx j∧ix nx j≤x.Log.length+1):GN (withNM x nx mt):=⟨⟨h.sz.Log,h.sz.Start,h.sz.Votes,by show nx.length≤_;rw [h1];simp [M20],by show mt.length≤_;rw [h2];simp [M20]⟩,h.da,h.mm,h.st,h.c0,h.c1,h1,h2,h3,h.ll⟩
theorem GT.okAns {y:Node} (h:GT y) {m:Message} (f0:0≤m.From) (f6:m.From≤6) (h0:0≤m.Index):0≤mtV y m∧mtV y m≤y.Log.length∧GN (okAns y m):=by
 have hm:=h.mt m.From.toNat (by omega)
 have hn:=h.g.nx m.From.toNat (by omega)
 have b1:0≤mtV y m∧mtV y m≤y.Log.length:=by unfold mtV;split<;>split<;>omega
 refine ⟨b1.1,b1.2,h.g.nm (by rw [List.length_set];exact h.g.n7) (by rw [List.length_set];exact h.g.m7) fun j hj=>?_⟩
 rw [ix_set (by rw [h.g.n7];omega)]
 split
 ·unfold nxV;split<;>omega
 ·exact h.g.nx j hj
theorem GT.bkAns {y:Node} (h:GT y) {m:Message} (f0:0≤m.From) (f6:m.From≤6) (h0:0≤m.Index):GN (bkAns y m):=by
 have hm:=h.mt m.From.toNat (by omega)
 have hn:=h.g.nx m.From.toNat (by omega)
 refine h.g.nm (by rw [List.length_set];exact h.g.n7) h.g.m7 fun j hj=>?_
 rw [ix_set (by rw [h.g.n7];omega)]
 split
 ·unfold bkV;split<;>split<;>omega
 ·exact h.g.nx j hj
theorem ansBoth {N:Nat} (hN:Big N) {y:Node} (h:GT y) (m:Message) (f0:0≤m.From) (f6:m.From≤6) (h0:0≤m.Index) (h1:m.Index≤60):spec_l10Answer.m N y m=some (ansR y m)∧impl_worker_appended.m N ⟨y,[]⟩ m=some ⟨(ansR y m).1,(ansR y m).2⟩:=by
 have hl:=h.g.ll
 have hm:=h.mt m.From.toNat (by omega)
 have hn:=h.g.nx m.From.toNat (by omega)
 obtain ⟨b0,b1,ga⟩:=h.okAns f0 f6 h0
 have gb:=h.bkAns f0 f6 h0
 have dn:decide (m.From<(y.Next.length:Int))=true:=decide_eq_true (by rw [h.g.n7];omega)
 have dm:decide (m.From<(y.Match.length:Int))=true:=decide_eq_true (by rw [h.g.m7];omega)
 have dm2:∀v,decide (m.From<((y.Match.set m.From.toNat v).length:Int))=true:=fun v=>decide_eq_true (by rw [List.length_set,h.g.m7];omega)
 have gs:∀v,(y.Match.set m.From.toNat v).getD m.From.toNat 0=v:=fun v=>getD_set' (by rw [h.g.m7];omega) v 0
 have em:(if y.Match.getD m.From.toNat 0<(if (y.Log.length:Int)<m.Index then (y.Log.length:Int) else m.Index) then (if (y.Log.length:Int)<m.Index then (y.Log.length:Int) else m.Index) else y.Match.getD m.From.toNat 0)=mtV y m:=rfl
 have en:(if y.Next.getD m.From.toNat 0<mtV y m+1 then mtV y m+1 else y.Next.getD m.From.toNat 0)=nxV y m:=rfl
 have eb:(if y.Match.getD m.From.toNat 0+1<(if m.Index+1<y.Next.getD m.From.toNat 0 - 1 then m.Index+1 else y.Next.getD m.From.toNat 0 - 1) then (if m.Index+1<y.Next.getD m.From.toNat 0 - 1 then m.Index+1 else y.Next.getD m.From.toNat 0 - 1) else y.Match.getD m.From.toNat 0+1)=bkV y m:=rfl
 have w1:w64 (mtV y m+1)=mtV y m+1:=w_small (by omega) (by omega)
 have w2:w64 (m.Index+1)=m.Index+1:=w_small (by omega) (by omega)
 have w3:w64 (y.Next.getD m.From.toNat 0 - 1)=y.Next.getD m.From.toNat 0 - 1:=w_small (by rw [ixe];omega) (by rw [ixe];omega)
 have w4:w64 (y.Match.getD m.From.toNat 0+1)=y.Match.getD m.From.toNat 0+1:=w_small (by rw [ixe];omega) (by rw [ixe];omega)
 unfold spec_l10Answer.m impl_worker_appended.m ansR
 simp only [nodeEta,cond_false]
 cases y.Role != 2 with
 | true=>exact ⟨rfl,rfl⟩
 | false=>
 cases m.Term != y.Term with
 | true=>exact ⟨rfl,rfl⟩
 | false=>
 simp only [cond_false,decide_eq_true f0,dn,dm,cond_true]
 cases m.Ok with
 | true=>
  simp only [cond_true,cond_false,Bool.not_true]
  rw [em]
  simp only [dm2,gs,cond_true,w1]
  rw [en]
  have hms:spec_l10Members_.m N (okAns y m)=some (mems y):=ga.ms hN
  have hmi:∀x':Node,x'.Log=(okAns y m).Log→x'.Start=(okAns y m).Start→impl_Node_members.m N x'=some (mems y):=fun x' e1 e2=>ga.mi' hN e1 e2
  obtain ⟨c,a1,a2,_,_,a5⟩:=advance hN (okAns y m) (mems y) [] hms hmi h.g.M ga.m7 (by have:=ga.ll;omega) ga.c0 ga.c1
  have a5':c=advC (okAns y m) (mems y) y.Log.length:=a5
  constructor
  ·show ob (spec_l10Advance.m N (okAns y m)) _=_
   rw [a1,ob_some,a5']
  ·show ob (impl_worker_commit.m N ⟨okAns y m,[]⟩) _=_
   rw [a2,ob_some,a5']
 | false=>
  simp only [cond_true,cond_false,Bool.not_false,w2,w3,w4]
  rw [eb]
  have tl:Tells (bkAns y m):=gb.tells
  constructor
  ·show ob (spec_l10Append.m N (bkAns y m) m.From) _=_
   rw [specApp hN _ tl _ f0 f6,ob_some];rfl
  ·show ob (impl_worker_tell_.m N ⟨bkAns y m,[]⟩ m.From (bkAns y m).Commit) _=_
   rw [implTell hN _ tl [] (Nat.zero_le _) _ f0 f6,ob_some];rfl
end Mir.Y
