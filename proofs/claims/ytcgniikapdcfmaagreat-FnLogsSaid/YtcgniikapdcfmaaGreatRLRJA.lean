/- FnLogs: a copy of a group. -/
import Derived.Test.YtcgniikapdcfmaaGreatRLRIA
namespace Mir.Y
set_option linter.unusedVariables false
set_option linter.unusedSimpArgs false
open Go
structure GrpSz (g:Group):Prop where
 n0:0<g.Nodes.length
 n:g.Nodes.length≤100
 w:g.Wire.length≤100
 l:g.Leads.length≤100000
 d:g.Dones.length≤1000000
 ns:∀x∈g.Nodes,NodeSz x M20
 ws:∀m∈g.Wire,m.Entries.length≤M20
 ls:∀x∈g.Leads,x.Log.length≤M20
theorem take_s {α:Type} {a:List α} {i:Nat} (h:i<a.length) (d:α):a.take (i+1)=a.take i++[a.getD i d]:=by
 rw [List.take_add_one,List.getElem?_eq_getElem h,getD_at h];rfl
theorem getD_mem {α:Type} {a:List α} {i:Nat} (h:i<a.length) (d:α):a.getD i d∈a:=by
 rw [getD_at h];exact List.getElem_mem h
theorem copyM {N:Nat} (m:Message) (h:m.Entries.length≤M20):impl_copyMessage.m N m=some m:=by
 unfold impl_copyMessage.m
 rw [cloneEnt N _ h];rfl
theorem copyL1 {N:Nat} (hN:Big N) (g:Group) (h:GrpSz g) (A:List Node) (D:List Done):impl_copyGroup.lp13 N g (.s1 (g.Leads.length:Int) 0 A D)=some ⟨A,[],g.Leads,D⟩:=by
 have hl:=h.l
 unfold impl_copyGroup.lp13
 have:=miter_up (step:=fun rec=>impl_copyGroup.step13 N g rec) (n:=g.Leads.length) (st:=fun i=>if i=0 then .s1 (g.Leads.length:Int) (i:Int) A D else .s5 (g.Leads.length:Int) (i:Int) A (g.Leads.take i) D) (r:=some ⟨A,[],g.Leads,D⟩) (fun i hi rec=>by
  have hc:=cloneEnt N (g.Leads.getD i Lead.dz).Log (h.ls _ (getD_mem hi _))
  have hs:g.Leads.take (i+1)=g.Leads.take i++[g.Leads.getD i Lead.dz]:=by rw [List.take_add_one,List.getElem?_eq_getElem hi,getD_at hi];rfl
  rw [if_neg (show ¬ i+1=0 by omega),hs]
  by_cases h0:i=0
  ·subst h0
   rw [if_pos rfl]
   simp only [impl_copyGroup.step13,lt_dec hi,nn_dec,cond_true,Int.toNat_natCast,hc,ob_some]
   rw [roomB (by simp) (by omega),cond_true,w_up 0 _ hi (by omega)];rfl
  ·rw [if_neg h0]
   simp only [impl_copyGroup.step13,lt_dec hi,nn_dec,cond_true,Int.toNat_natCast,hc,ob_some]
   rw [roomB (by rw [List.length_take,List.length_singleton];omega) (by omega),cond_true,w_up i _ hi (by omega)]) (fun rec=>by
  by_cases h0:g.Leads.length=0
  ·rw [if_pos h0]
   simp only [impl_copyGroup.step13,ge_dec,cond_false]
   rw [List.eq_nil_of_length_eq_zero h0]
  ·rw [if_neg h0]
   simp only [impl_copyGroup.step13,ge_dec,cond_false,List.take_length]) g.Leads.length 0 N (by omega) (by omega)
 exact this
theorem copyL4 {N:Nat} (hN:Big N) (g:Group) (h:GrpSz g) (A:List Node) (B:List Message) (D:List Done):impl_copyGroup.lp13 N g (.s4 (g.Leads.length:Int) 0 A B D)=some ⟨A,B,g.Leads,D⟩:=by
 have hl:=h.l
 unfold impl_copyGroup.lp13
 have:=miter_up (step:=fun rec=>impl_copyGroup.step13 N g rec) (n:=g.Leads.length) (st:=fun i=>if i=0 then .s4 (g.Leads.length:Int) (i:Int) A B D else .s7 (g.Leads.length:Int) (i:Int) A B (g.Leads.take i) D) (r:=some ⟨A,B,g.Leads,D⟩) (fun i hi rec=>by
  have hc:=cloneEnt N (g.Leads.getD i Lead.dz).Log (h.ls _ (getD_mem hi _))
  have hs:g.Leads.take (i+1)=g.Leads.take i++[g.Leads.getD i Lead.dz]:=by rw [List.take_add_one,List.getElem?_eq_getElem hi,getD_at hi];rfl
  rw [if_neg (show ¬ i+1=0 by omega),hs]
  by_cases h0:i=0
  ·subst h0
   rw [if_pos rfl]
   simp only [impl_copyGroup.step13,lt_dec hi,nn_dec,cond_true,Int.toNat_natCast,hc,ob_some]
   rw [roomB (by simp) (by omega),cond_true,w_up 0 _ hi (by omega)];rfl
  ·rw [if_neg h0]
   simp only [impl_copyGroup.step13,lt_dec hi,nn_dec,cond_true,Int.toNat_natCast,hc,ob_some]
   rw [roomB (by rw [List.length_take,List.length_singleton];omega) (by omega),cond_true,w_up i _ hi (by omega)]) (fun rec=>by
  by_cases h0:g.Leads.length=0
  ·rw [if_pos h0]
   simp only [impl_copyGroup.step13,ge_dec,cond_false]
   rw [List.eq_nil_of_length_eq_zero h0]
  ·rw [if_neg h0]
   simp only [impl_copyGroup.step13,ge_dec,cond_false,List.take_length]) g.Leads.length 0 N (by omega) (by omega)
 exact this
theorem copyW {N:Nat} (hN:Big N) (g:Group) (h:GrpSz g) (A:List Node) (D:List Done):impl_copyGroup.lp8 N g (.s1 (g.Wire.length:Int) 0 A D)=some ⟨A,g.Wire,g.Leads,D⟩:=by
 have hl:=h.w
 unfold impl_copyGroup.lp8
 have:=miter_up (step:=fun rec=>impl_copyGroup.step8 N g (impl_copyGroup.lp13 N g) rec) (n:=g.Wire.length) (st:=fun i=>if i=0 then .s1 (g.Wire.length:Int) (i:Int) A D else .s3 (g.Wire.length:Int) (i:Int) A (g.Wire.take i) D) (r:=some ⟨A,g.Wire,g.Leads,D⟩) (fun i hi rec=>by
  have hc:=copyM (N:=N) (g.Wire.getD i Message.dz) (h.ws _ (getD_mem hi _))
  rw [if_neg (show ¬ i+1=0 by omega),take_s hi Message.dz]
  by_cases h0:i=0
  ·subst h0
   rw [if_pos rfl]
   simp only [impl_copyGroup.step8,lt_dec hi,nn_dec,cond_true,Int.toNat_natCast,hc,ob_some]
   rw [roomB (by simp) (by omega),cond_true,w_up 0 _ hi (by omega)];rfl
  ·rw [if_neg h0]
   simp only [impl_copyGroup.step8,lt_dec hi,nn_dec,cond_true,Int.toNat_natCast,hc,ob_some]
   rw [roomB (by rw [List.length_take,List.length_singleton];omega) (by omega),cond_true,w_up i _ hi (by omega)]) (fun rec=>by
  by_cases h0:g.Wire.length=0
  ·rw [if_pos h0]
   simp only [impl_copyGroup.step8,ge_dec,cond_false]
   rw [copyL1 hN g h,List.eq_nil_of_length_eq_zero h0]
  ·rw [if_neg h0]
   simp only [impl_copyGroup.step8,ge_dec,cond_false,List.take_length]
   exact copyL4 hN g h A g.Wire D) g.Wire.length 0 N (by omega) (by omega)
 exact this
theorem copyG {N:Nat} (hN:Big N) (g:Group) (h:GrpSz g):impl_copyGroup.m N g=some g:=by
 have hl:=h.n
 have hd:=h.d
 unfold impl_copyGroup.m impl_copyGroup.m0
 have cd:slices_Clone_impl_Done_impl_Done.m N g.Dones=some g.Dones:=by
  unfold slices_Clone_impl_Done_impl_Done.m
  rw [roomB (by simp only [List.length_nil];omega) (by omega),cond_true,List.nil_append]
  exact amb_right fun hp=>by rw [List.isEmpty_iff] at hp;rw [hp]
 rw [cd,ob_some]
 unfold impl_copyGroup.lp3
 have:=miter_up (step:=fun rec=>impl_copyGroup.step3 N g (impl_copyGroup.lp8 N g) rec) (n:=g.Nodes.length) (st:=fun i=>if i=0 then .s0 (g.Nodes.length:Int) (i:Int) g.Dones else .s1 (g.Nodes.length:Int) (i:Int) (g.Nodes.take i) g.Dones) (r:=some g) (fun i hi rec=>by
  have hc:=copyN (N:=N) (g.Nodes.getD i Node.dz) (h.ns _ (getD_mem hi _))
  rw [if_neg (show ¬ i+1=0 by omega),take_s hi Node.dz]
  by_cases h0:i=0
  ·subst h0
   rw [if_pos rfl]
   simp only [impl_copyGroup.step3,lt_dec hi,nn_dec,cond_true,Int.toNat_natCast,hc,ob_some]
   rw [roomB (by simp) (by omega),cond_true,w_up 0 _ hi (by omega)];rfl
  ·rw [if_neg h0]
   simp only [impl_copyGroup.step3,lt_dec hi,nn_dec,cond_true,Int.toNat_natCast,hc,ob_some]
   rw [roomB (by rw [List.length_take,List.length_singleton];omega) (by omega),cond_true,w_up i _ hi (by omega)]) (fun rec=>by
  have h0:=h.n0
  rw [if_neg (by omega)]
  simp only [impl_copyGroup.step3,ge_dec,cond_false,List.take_length]
  exact copyW hN g h g.Nodes g.Dones) g.Nodes.length 0 N (by omega) (by omega)
 exact this
theorem putL {N:Nat} (hN:Big N) (g:Group) (x:Node) (sent:List Message) (hw:g.Wire.length≤60) (hs:sent.length≤100) (hc:x.Commit≤x.Log.length) (hl:x.Log.length≤60) (V:List Node) (Le:List Lead) (D:List Done) (hD:D.length≤900000) (c:Int) (c0:0≤c) (c1:c≤60):∃Do:List Done,impl_Group_put_.lp6 N g x sent (c+1,V,Le,D)=some ⟨V,g.Wire++sent.take (60 - g.Wire.length),Le,Do⟩∧Do.length≤D.length+60:=by
 unfold impl_Group_put_.lp6
 refine miter_all (p:=fun (r:Option Group)=>∃Do:List Done,r=some (Group.mk V (g.Wire++sent.take (60 - g.Wire.length)) Le Do)∧Do.length≤D.length+60) (fun v:Int×List Node×List Lead×List Done=>(x.Commit+1 - v.1).toNat) (fun v=>∃(p:Int) (Do:List Done),v=(p,V,Le,Do)∧1≤p∧p≤61∧Do.length+61≤D.length+60+p) ?_ N _ ⟨c+1,D,rfl,by omega,by omega,by omega⟩ (by simp only [];omega)
 rintro v ⟨p,Do,rfl,p1,p2,p3⟩ rec hrec
 simp only [impl_Group_put_.step6]
 by_cases hp:p≤x.Commit
 ·rw [decide_eq_true hp,w_small (x:=p - 1) (by omega) (by omega),decide_eq_true (show 0≤p - 1 by omega),decide_eq_true (show p - 1<(x.Log.length:Int) by omega),roomB (by rw [List.length_singleton];omega) (by omega),w_small (x:=p+1) (by omega) (by omega)]
  simp only [cond_true]
  exact hrec _ ⟨p+1,_,rfl,by omega,by omega,by rw [List.length_append,List.length_singleton];omega⟩ (by simp only [];omega)
 ·rw [decide_eq_false hp,w_small (x:=60 - (g.Wire.length:Int)) (by omega) (by omega)]
  simp only [cond_false]
  have e:(if (sent.length:Int)<60 - (g.Wire.length:Int) then (sent.length:Int) else 60 - (g.Wire.length:Int)).toNat=min sent.length (60 - g.Wire.length):=by split<;>omega
  have e2:sent.take (min sent.length (60 - g.Wire.length))=sent.take (60 - g.Wire.length):=by
   rw [← List.take_take];exact List.take_of_length_le (by rw [List.length_take];omega)
  have q0:0≤(if (sent.length:Int)<60 - (g.Wire.length:Int) then (sent.length:Int) else 60 - (g.Wire.length:Int)):=by split<;>omega
  have q1:(if (sent.length:Int)<60 - (g.Wire.length:Int) then (sent.length:Int) else 60 - (g.Wire.length:Int))≤((sent.length:Nat):Int):=by split<;>omega
  have r1:room (g.Wire.length+(sent.take (60 - g.Wire.length)).length) 88=true:=roomB (by rw [List.length_take];omega) (by omega)
  rw [decide_eq_true q0,decide_eq_true q1,e,e2,r1]
  exact ⟨Do,rfl,by omega⟩
theorem putQ {N:Nat} (hN:Big N) (g:Group) (h:GrpSz g) (x:Node) (sent:List Message) (hw:g.Wire.length≤60) (hs:sent.length≤100) (hc:x.Commit≤x.Log.length) (hl:x.Log.length≤60) (hLe:g.Leads.length≤90000) (hD:g.Dones.length≤900000) (i0:0≤x.Id) (i1:x.Id<g.Nodes.length) (c0:0≤(g.Nodes.getD x.Id.toNat Node.dz).Commit) (c1:(g.Nodes.getD x.Id.toNat Node.dz).Commit≤60):∃(Le:List Lead) (Do:List Done),impl_Group_put_.m N g x sent=some ⟨g.Nodes.set x.Id.toNat x,g.Wire++sent.take (60 - g.Wire.length),Le,Do⟩∧Le.length≤g.Leads.length+1∧(∀l∈Le,l.Log.length≤M20)∧Do.length≤g.Dones.length+60:=by
 have w1:w64 ((g.Nodes.getD x.Id.toNat Node.dz).Commit+1)=(g.Nodes.getD x.Id.toNat Node.dz).Commit+1:=w_small (by omega) (by omega)
 have cl:=cloneEnt N x.Log (by omega)
 have r1:room (g.Leads.length+([(Lead.mk x.Term x.Id x.Log)]).length) 40=true:=roomB (by rw [List.length_singleton];omega) (by omega)
 have P:=fun Le=>putL hN g x sent hw hs hc hl (g.Nodes.set x.Id.toNat x) Le g.Dones hD _ c0 c1
 have nl:∀l∈g.Leads++[Lead.mk x.Term x.Id x.Log],l.Log.length≤M20:=fun l hl'=>by
  rcases List.mem_append.1 hl' with q | q
  ·exact h.ls l q
  ·rw [List.mem_singleton.1 q];simp only [M20];show x.Log.length≤_;omega
 obtain ⟨D1,e1,b1⟩:=P g.Leads
 obtain ⟨D2,e2,b2⟩:=P (g.Leads++[Lead.mk x.Term x.Id x.Log])
 have A1:∃(Le:List Lead) (Do:List Done),impl_Group_put_.lp6 N g x sent ((g.Nodes.getD x.Id.toNat Node.dz).Commit+1,g.Nodes.set x.Id.toNat x,g.Leads,g.Dones)=some ⟨g.Nodes.set x.Id.toNat x,g.Wire++sent.take (60 - g.Wire.length),Le,Do⟩∧Le.length≤g.Leads.length+1∧(∀l∈Le,l.Log.length≤M20)∧Do.length≤g.Dones.length+60:=⟨_,_,e1,by omega,h.ls,b1⟩
 have A2:∃(Le:List Lead) (Do:List Done),impl_Group_put_.lp6 N g x sent ((g.Nodes.getD x.Id.toNat Node.dz).Commit+1,g.Nodes.set x.Id.toNat x,g.Leads++[Lead.mk x.Term x.Id x.Log],g.Dones)=some ⟨g.Nodes.set x.Id.toNat x,g.Wire++sent.take (60 - g.Wire.length),Le,Do⟩∧Le.length≤g.Leads.length+1∧(∀l∈Le,l.Log.length≤M20)∧Do.length≤g.Dones.length+60:=⟨_,_,e2,by rw [List.length_append,List.length_singleton];omega,nl,b2⟩
 unfold impl_Group_put_.m impl_Group_put_.m0
 rw [decide_eq_true i0,decide_eq_true i1]
 simp only [cond_true,cond_false,w1,cl,ob_some,r1]
 cases x.Role==2 with
 | false=>exact A1
 | true=>
 cases (g.Nodes.getD x.Id.toNat Node.dz).Role != 2 with
 | true=>exact A2
 | false=>
 cases (g.Nodes.getD x.Id.toNat Node.dz).Term != x.Term with
 | true=>exact A2
 | false=>exact A1
structure NodeFit (x:Node):Prop where
 sz:NodeSz x M20
 data:NodeData x
structure GZ (x:Group):Prop where
 Nodes:x.Nodes.length≤M20
 NodesW:∀n∈x.Nodes,NodeFit n
 Wire:x.Wire.length≤M20
 WireW:∀m∈x.Wire,MsgSz m
def nx (a:List Node) (i:Nat):Node:=a.getD i Node.dz
theorem nxe (a:List Node) (i:Nat):a.getD i Node.dz=nx a i:=rfl
theorem nx_fit {a:List Node} (h:∀x∈a,NodeFit x) {i:Nat} (hi:i<a.length):NodeFit (nx a i):=by
 rw [nx,getD_at hi];exact h _ (List.getElem_mem hi)
def mx (a:List Message) (i:Nat):Message:=a.getD i Message.dz
theorem mxe (a:List Message) (i:Nat):a.getD i Message.dz=mx a i:=rfl
theorem mx_fit {a:List Message} (h:∀x∈a,MsgSz x) {i:Nat} (hi:i<a.length):MsgSz (mx a i):=by
 rw [mx,getD_at hi];exact h _ (List.getElem_mem hi)
def grpB (x:Group):Bool:=inB x.Nodes.length 1 5&&(!decide ((x.Wire.length:Int) > 60)&&(!decide ((x.Leads.length:Int) > 4096)&&(!decide ((x.Dones.length:Int) > 4096)&&(allF (fun i=>okB (nx x.Nodes i) && !((nx x.Nodes i).Id != (i:Int))) 0 x.Nodes.length&&allF (fun i=>msgB (mx x.Wire i)) 0 x.Wire.length))))
theorem wireQ {N:Nat} (hN:Big N) (a:List Message) (hl:a.length≤M20) (h:∀x∈a,MsgSz x):slices_ContainsFunc_impl_Message_impl_Message__impl_GroupOK_1.m N a=some (!allF (fun i=>msgB (mx a i)) 0 a.length):=by
 unfold slices_ContainsFunc_impl_Message_impl_Message__impl_GroupOK_1.m slices_IndexFunc_impl_Message_impl_Message__impl_GroupOK_1.m slices_IndexFunc_impl_Message_impl_Message__impl_GroupOK_1.m0 slices_IndexFunc_impl_Message_impl_Message__impl_GroupOK_1.lp2
 obtain ⟨y,hy,hd⟩:=loop_idx (step:=fun rec=>slices_IndexFunc_impl_Message_impl_Message__impl_GroupOK_1.step2 N a rec) (n:=a.length) (st:=fun i=>((a.length:Int),(i:Int))) (p:=fun i=>!msgB (mx a i)) (fun i hi rec=>by
  simp only [slices_IndexFunc_impl_Message_impl_Message__impl_GroupOK_1.step2,lt_dec hi,nn_dec,cond_true,Int.toNat_natCast,impl_GroupOK_1.m,mxe,implMsg hN _ (mx_fit h hi),ob_some]
  rw [w_up i _ hi hl]) (fun rec=>by simp [slices_IndexFunc_impl_Message_impl_Message__impl_GroupOK_1.step2]) a.length 0 N (by omega) (by simp only [M20] at hl;omega)
 have hy:miter (fun rec=>slices_IndexFunc_impl_Message_impl_Message__impl_GroupOK_1.step2 N a rec) N ((a.length:Int),0)=some y:=hy
 rw [hy,ob_some,hd]
 simp
theorem groupOKQ {N:Nat} (hN:Big N) (x:Group) (h:GZ x):impl_GroupOK.m N x=some (grpB x):=by
 unfold impl_GroupOK.m impl_GroupOK.m0 grpB impl_isList_impl_Lead.m impl_isList_impl_Done.m
 simp only [within,ob_some,cond_false]
 have e1:decide ((x.Leads.length:Int)≤4096) = !decide ((x.Leads.length:Int) > 4096):=by rw [Bool.eq_iff_iff];simp
 have e2:decide ((x.Dones.length:Int)≤4096) = !decide ((x.Dones.length:Int) > 4096):=by rw [Bool.eq_iff_iff];simp
 rw [e1,e2]
 refine ifNot (ifNo (ifNot (ifNot ?_)))
 have hn:=h.Nodes
 unfold impl_GroupOK.lp4
 have:=loop_all (step:=fun rec=>impl_GroupOK.step4 N x rec) (n:=x.Nodes.length) (st:=fun i=>((x.Nodes.length:Int),(i:Int))) (p:=fun i=>okB (nx x.Nodes i) && !((nx x.Nodes i).Id != (i:Int))) (f:=some false) (t:=some (allF (fun i=>msgB (mx x.Wire i)) 0 x.Wire.length)) (fun i hi rec=>by
  simp only [impl_GroupOK.step4,lt_dec hi,nn_dec,cond_true,Int.toNat_natCast,nxe,implOK hN _ (nx_fit h.NodesW hi).sz (nx_fit h.NodesW hi).data,ob_some,cond_false]
  rw [w_up i _ hi hn]
  cases okB (nx x.Nodes i)<;>cases (nx x.Nodes i).Id != (i:Int)<;>rfl) (fun rec=>by
  simp only [impl_GroupOK.step4,ge_dec,cond_false,wireQ hN _ h.Wire h.WireW,ob_some,Bool.not_not]) x.Nodes.length 0 N (by omega) (by simp only [M20] at hn;omega)
 refine (show _=_ from this).trans ?_
 cases allF (fun i=>okB (nx x.Nodes i) && !((nx x.Nodes i).Id != (i:Int))) 0 x.Nodes.length<;>rfl
def eqE (x y:Entry):Bool:=(x.Term==y.Term)&&((x.Kind==y.Kind)&&(seq x.Data y.Data))
def lastT (a b:List Entry):Nat→Nat
 | 0=>0
 | n+1=>bif (ex a n).Term != (ex b n).Term then lastT a b n else n+1
def sameB (a b:List Entry) (n:Nat):Bool:=allF (fun i=>eqE (ex a i) (ex b i)) 0 n
def matchB (a b:List Entry):Bool:=sameB a b (lastT a b (min a.length b.length))
theorem minI (a b:Nat):(if (b:Int)<(a:Int) then (b:Int) else (a:Int))=((min a b:Nat):Int):=by
 split<;>omega
theorem sameFirstQ {N:Nat} (hN:Big N) (a b:List Entry) (k:Nat) (hka:k≤a.length) (hkb:k≤b.length) (ha:a.length≤M20):∃j:Nat,impl_sameFirst.m N (a.take k) (b.take k)=some (j:Int)∧(((j:Int)==(k:Int))=sameB a b k):=by
 unfold impl_sameFirst.m impl_sameFirst.m0 impl_sameFirst.lp2
 simp only [M20] at ha
 have la:(a.take k).length=k:=by simp;omega
 have lb:(b.take k).length=k:=by simp;omega
 have gx:∀i,i<k→ex (a.take k) i=ex a i:=fun i hi=>by simp [ex,List.getD_eq_getElem?_getD,hi]
 have gy:∀i,i<k→ex (b.take k) i=ex b i:=fun i hi=>by simp [ex,List.getD_eq_getElem?_getD,hi]
 have main:∀(d i M:Nat),i+d=k→d<M→∃j:Nat,miter (fun rec=>impl_sameFirst.step2 N (a.take k) (b.take k) rec) M (i:Int)=some (j:Int)∧i≤j∧(((j:Int)==(k:Int))=allF (fun i=>eqE (ex a i) (ex b i)) i d):=by
  intro d
  induction d with
  | zero=>
   intro i M h hM
   obtain ⟨M,rfl⟩:∃M',M=M'+1:=⟨M - 1,by omega⟩
   obtain rfl:i=k:=by omega
   refine ⟨i,?_,Nat.le_refl _,by simp [allF]⟩
   show impl_sameFirst.step2 N _ _ _ _=_
   simp only [impl_sameFirst.step2,la,lb,Int.lt_irrefl,if_false,decide_false,cond_false]
  | succ d ih=>
   intro i M h hM
   obtain ⟨M,rfl⟩:∃M',M=M'+1:=⟨M - 1,by omega⟩
   obtain ⟨j,h1,h2,h3⟩:=ih (i+1) M (by omega) (by omega)
   have hs:(fun rec=>impl_sameFirst.step2 N (a.take k) (b.take k) rec) (miter (fun rec=>impl_sameFirst.step2 N (a.take k) (b.take k) rec) M) (i:Int)=bif eqE (ex a i) (ex b i) then some (j:Int) else some (i:Int):=by
    simp only [impl_sameFirst.step2,la,lb,Int.lt_irrefl,if_false,lt_dec (show i<k by omega),nn_dec,cond_true,Int.toNat_natCast,exe,gx i (by omega),gy i (by omega)]
    rw [w_up i k (by omega) (by omega),h1]
    show (bif eqE (ex a i) (ex b i) then _ else _)=_
    rfl
   cases he:eqE (ex a i) (ex b i) with
   | true=>
    rw [he] at hs
    refine ⟨j,hs,by omega,?_⟩
    rw [h3,allF,he];rfl
   | false=>
    rw [he] at hs
    refine ⟨i,hs,Nat.le_refl _,?_⟩
    rw [allF,he,beq_eq_false_iff_ne.2 (show (i:Int)≠(k:Int) by omega)];rfl
 obtain ⟨j,h1,_,h2⟩:=main k 0 N (by omega) (by omega)
 exact ⟨j,h1,h2⟩
theorem matchQ {N:Nat} (hN:Big N) (x y:Node) (ha:x.Log.length≤M20) (hb:y.Log.length≤M20):impl_logsMatch.m N x y=some (matchB x.Log y.Log):=by
 unfold impl_logsMatch.m impl_logsMatch.m0 impl_logsMatch.lp2 matchB
 rw [minI]
 generalize hn:min x.Log.length y.Log.length=n
 have hna:n≤x.Log.length:=by omega
 have hnb:n≤y.Log.length:=by omega
 have ha':=ha
 simp only [M20] at ha hb
 have fin:∀k,k≤n→(ob (impl_sameFirst.m N (x.Log.take k) (y.Log.take k)) fun y2=>some (y2==(k:Int)))=some (sameB x.Log y.Log k):=by
  intro k hk
  obtain ⟨j,h1,h2⟩:=sameFirstQ hN x.Log y.Log k (by omega) (by omega) ha'
  rw [h1,ob_some,h2]
 have main:∀(k M:Nat),k≤n→k<M→miter (fun rec=>impl_logsMatch.step2 N x y rec) M (k:Int)=some (sameB x.Log y.Log (lastT x.Log y.Log k)):=by
  intro k
  induction k with
  | zero=>
   intro M _ hM
   obtain ⟨M,rfl⟩:∃M',M=M'+1:=⟨M - 1,by omega⟩
   show impl_logsMatch.step2 N x y (miter (fun rec=>impl_logsMatch.step2 N x y rec) M) 0=_
   have f0:=fin 0 (by omega)
   simp only [impl_logsMatch.step2,Int.lt_irrefl,gt_iff_lt,decide_false,cond_false,Int.le_refl,decide_true,cond_true,decide_eq_true (show (0:Int)≤(x.Log.length:Int) by omega),decide_eq_true (show (0:Int)≤(y.Log.length:Int) by omega)]
   exact f0
  | succ k ih=>
   intro M hk hM
   obtain ⟨M,rfl⟩:∃M',M=M'+1:=⟨M - 1,by omega⟩
   show impl_logsMatch.step2 N x y (miter (fun rec=>impl_logsMatch.step2 N x y rec) M) _=_
   have e2:w64 (((k+1:Nat):Int) - 1)=(k:Int):=by rw [w_dn (k+1) (by omega) (by omega)];rfl
   simp only [impl_logsMatch.step2,e2,decide_eq_true (show ((k+1:Nat):Int) > 0 by omega),lt_dec (show k<x.Log.length by omega),lt_dec (show k<y.Log.length by omega),nn_dec,cond_true,Int.toNat_natCast,exe,decide_eq_true (show ((k+1:Nat):Int)≤(x.Log.length:Int) by omega),decide_eq_true (show ((k+1:Nat):Int)≤(y.Log.length:Int) by omega),fin (k+1) hk,lastT]
   cases (ex x.Log k).Term != (ex y.Log k).Term with
   | true=>exact ih M (by omega) (by omega)
   | false=>rfl
 exact main n N (by omega) (by omega)
def pairsB (p:Nat→Nat→Bool) (n:Nat):Bool:=allF (fun i=>allF (p i) 0 i) 0 n
def mP (a:List Node) (i j:Nat):Bool:=matchB (nx a i).Log (nx a j).Log
theorem pairsQ {N:Nat} (hN:Big N) (a:List Node) (hl:a.length≤M20) (h:∀x∈a,NodeFit x):impl_pairsHold_impl_Node__impl_logsMatch.m N a=some (pairsB (mP a) a.length):=by
 unfold impl_pairsHold_impl_Node__impl_logsMatch.m impl_pairsHold_impl_Node__impl_logsMatch.m0
 have hl2:=hl
 simp only [M20] at hl2
 have h5:∀(r2:Int×Int→Option Bool) (i:Nat),i<a.length→impl_pairsHold_impl_Node__impl_logsMatch.lp5 N a r2 ((a.length:Int),(i:Int),a.take i,((a.take i).length:Int),0,(nx a i).Id,(nx a i).Term,(nx a i).Vote,(nx a i).Log,(nx a i).Start,(nx a i).Role,(nx a i).Votes,(nx a i).Next,(nx a i).Match,(nx a i).Commit,(nx a i).Elapsed,(nx a i).Wait,(nx a i).Up)=bif allF (mP a i) 0 i then r2 ((a.length:Int),((i+1:Nat):Int)) else some false:=by
  intro r2 i hi
  have lt:(a.take i).length=i:=by simp;omega
  have gx:∀j,j<i→nx (a.take i) j=nx a j:=fun j hj=>by simp [nx,List.getD_eq_getElem?_getD,hj]
  unfold impl_pairsHold_impl_Node__impl_logsMatch.lp5
  rw [lt]
  have:=loop_all (step:=fun rec=>impl_pairsHold_impl_Node__impl_logsMatch.step5 N a r2 rec) (n:=i) (st:=fun j=>((a.length:Int),(i:Int),a.take i,(i:Int),(j:Int),(nx a i).Id,(nx a i).Term,(nx a i).Vote,(nx a i).Log,(nx a i).Start,(nx a i).Role,(nx a i).Votes,(nx a i).Next,(nx a i).Match,(nx a i).Commit,(nx a i).Elapsed,(nx a i).Wait,(nx a i).Up)) (p:=mP a i) (f:=some false) (t:=r2 ((a.length:Int),((i+1:Nat):Int))) (fun j hj rec=>by
   simp only [impl_pairsHold_impl_Node__impl_logsMatch.step5,lt,lt_dec hj,nn_dec,cond_true,Int.toNat_natCast,nxe,gx j hj,nodeEta,matchQ hN _ _ (nx_fit h hi).sz.Log (nx_fit h (show j<a.length by omega)).sz.Log,ob_some]
   rw [w_up j i hj (by omega)]
   show (bif !mP a i j then _ else _)=_
   cases mP a i j<;>rfl) (fun rec=>by
   simp only [impl_pairsHold_impl_Node__impl_logsMatch.step5,ge_dec,cond_false]
   rw [w_up i _ hi hl]) i 0 N (by omega) (by omega)
  exact this
 unfold impl_pairsHold_impl_Node__impl_logsMatch.lp2
 have:=loop_all (step:=fun rec=>impl_pairsHold_impl_Node__impl_logsMatch.step2 N a (impl_pairsHold_impl_Node__impl_logsMatch.lp5 N a rec) rec) (n:=a.length) (st:=fun i=>((a.length:Int),(i:Int))) (p:=fun i=>allF (mP a i) 0 i) (f:=some false) (t:=some true) (fun i hi rec=>by
  simp only [impl_pairsHold_impl_Node__impl_logsMatch.step2,lt_dec hi,nn_dec,cond_true,Int.toNat_natCast,nxe,decide_eq_true (show (i:Int)≤(a.length:Int) by omega)]
  exact h5 rec i hi) (fun rec=>by simp [impl_pairsHold_impl_Node__impl_logsMatch.step2]) a.length 0 N (by omega) (by omega)
 refine (show _=_ from this).trans ?_
 unfold pairsB
 cases allF (fun i=>allF (mP a i) 0 i) 0 a.length<;>rfl
theorem logsQ {N:Nat} (hN:Big N) (x:Group) (h:GZ x):impl_LogsMatch.m N x=some (bif grpB x then (pairsB (mP x.Nodes) x.Nodes.length,0) else (false,1)):=by
 unfold impl_LogsMatch.m
 rw [groupOKQ hN x h,ob_some,pairsQ hN _ h.Nodes h.NodesW]
 cases grpB x<;>rfl
def Own (r:Node×List Message):Prop:=∀m∈r.2,∀e∈m.Entries,e∈r.1.Log
theorem own_nil (x:Node):Own (x,[]):=fun m hm=>absurd hm List.not_mem_nil
theorem own_one {x:Node} {m:Message} (h:m.Entries=[]):Own (x,[m]):=fun m' hm e he=>by
 rw [List.mem_singleton.1 hm,h] at he;exact absurd he List.not_mem_nil
theorem told_own {x y:Node} (M:List Int) (h:y.Log=x.Log):Own (y,told x M):=fun m hm e he=>by
 obtain ⟨to,_,rfl⟩:=List.mem_map.1 hm
 show e∈y.Log
 rw [h];exact List.mem_of_mem_drop he
theorem win_own (z:Node):Own (winR z):=by
 unfold winR
 cases mostB (hasB z.Votes) (mems z) with
 | true=>exact told_own _ rfl
 | false=>exact own_nil z
theorem tick_own (x:Node) (d:Int):Own (tickR x d):=by
 unfold tickR
 cases x.Role==2 with
 | true=>
  cases decide (te x<2) with
  | true=>exact own_nil _
  | false=>exact told_own _ rfl
 | false=>
  cases decide (te x<x.Wait) with
  | true=>exact own_nil _
  | false=>
  cases !hasB (mems x) x.Id with
  | true=>exact own_nil _
  | false=>
  cases x.Term==1000000 with
  | true=>exact own_nil _
  | false=>
  show Own (electR (withE x (te x)) d)
  unfold electR
  cases mostB (hasB [(withE x (te x)).Id]) (mems (withE x (te x))) with
  | true=>exact told_own _ rfl
  | false=>
   intro m hm e he
   obtain ⟨to,_,rfl⟩:=List.mem_map.1 hm
   exact absurd he List.not_mem_nil
theorem take_own (x:Node) (m:Message):Own (takeR x m):=by
 unfold takeR
 generalize atTerm x m=y
 unfold kindR
 cases m.Kind==1 with
 | true=>
  rw [cond_true]
  unfold voteR
  exact own_one rfl
 | false=>
 cases m.Kind==2 with
 | true=>
  rw [cond_false,cond_true]
  unfold votedR
  cases y.Role != 1 with
  | true=>exact own_nil _
  | false=>
  cases m.Term != y.Term with
  | true=>exact own_nil _
  | false=>
  cases !m.Ok with
  | true=>exact own_nil _
  | false=>
  cases !hasB y.Votes m.From with
  | true=>exact win_own _
  | false=>exact win_own _
 | false=>
 cases m.Kind==3 with
 | true=>
  rw [cond_false,cond_false,cond_true]
  unfold entR
  cases decide (m.Term<y.Term) with
  | true=>exact own_one rfl
  | false=>
  cases decide (m.Index > (y.Log.length:Int))||(tv y m.Index != m.LogTerm) with
  | true=>exact own_one rfl
  | false=>exact own_one rfl
 | false=>
  rw [cond_false,cond_false,cond_false]
  unfold ansR
  cases y.Role != 2 with
  | true=>exact own_nil _
  | false=>
  cases m.Term != y.Term with
  | true=>exact own_nil _
  | false=>
  cases m.Ok with
  | true=>exact own_nil _
  | false=>
   intro m' hm e he
   rw [List.mem_singleton.1 hm] at he
   exact List.mem_of_mem_drop he
theorem advC_le (x:Node) (M:List Int) {L:Int} (h0:0≤x.Commit) (h1:x.Commit≤L):∀k:Nat,(k:Int)≤L→0≤advC x M k∧advC x M k≤L:=by
 intro k
 induction k with
 | zero=>intro _;exact ⟨h0,h1⟩
 | succ k ih=>
  intro hk
  rw [advC]
  cases decide (((k+1:Nat):Int) > x.Commit) with
  | false=>exact ⟨h0,h1⟩
  | true=>
  cases (ex x.Log k).Term==x.Term with
  | false=>exact ⟨h0,h1⟩
  | true=>
  cases mostB (hasIt x ((k+1:Nat):Int)) M with
  | false=>exact ih (by omega)
  | true=>exact ⟨by show (0:Int)≤((k+1:Nat):Int);omega,hk⟩
theorem GN.adv {x:Node} (h:GN x) (M:List Int):GN (withC x (advC x M x.Log.length)):=by
 have:=advC_le x M h.c0 h.c1 x.Log.length (Int.le_refl _)
 exact ⟨⟨h.sz.Log,h.sz.Start,h.sz.Votes,h.sz.Next,h.sz.Match⟩,h.da,h.mm,h.st,this.1,this.2,h.n7,h.m7,h.nx,h.ll⟩
theorem tick_GN {x:Node} (h:GN x) (d:Int):GN (tickR x d).1:=by
 unfold tickR
 cases x.Role==2 with
 | true=>
  cases decide (te x<2) with
  | true=>exact h.withE _
  | false=>exact h.withE _
 | false=>
  cases decide (te x<x.Wait) with
  | true=>exact h.withE _
  | false=>
  cases !hasB (mems x) x.Id with
  | true=>exact h.withE _
  | false=>
  cases x.Term==1000000 with
  | true=>exact h.withE _
  | false=>
  show GN (electR (withE x (te x)) d).1
  have he:=(h.withE (te x)).elect d
  unfold electR
  cases mostB (hasB [(withE x (te x)).Id]) (mems (withE x (te x))) with
  | true=>exact he.lead.adv _
  | false=>exact he
structure Fit (r:Node×List Message):Prop where
 sz:NodeSz r.1 M20
 da:NodeData r.1
 n:r.2.length≤10
 e:∀m∈r.2,MsgSz m
 c1:r.1.Commit≤r.1.Log.length
 ll:r.1.Log.length≤60
theorem fit_of {r:Node×List Message} (sz:NodeSz r.1 M20) (da:NodeData r.1) (n:r.2.length≤10) (e:∀m∈r.2,m.Entries.length≤100) (o:Own r) (c1:r.1.Commit≤r.1.Log.length) (ll:r.1.Log.length≤60):Fit r:=
 ⟨sz,da,n,fun m hm=>⟨by have:=e m hm;simp only [M20];omega,fun x hx=>da x (o m hm x hx)⟩,c1,ll⟩
theorem tick_fit {x:Node} (h:GN x) (d:Int):Fit (tickR x d):=by
 have g:=tick_GN h d
 obtain ⟨a,b,c⟩:=tickR_ok h d
 exact fit_of a g.da b c (tick_own x d) g.c1 g.ll
theorem take_fit {x:Node} (h:GT x) {m:Message} (hm:MsgOk m) (hd:MsgSz m) (hk:okB (takeR x m).1=true):Fit (takeR x m):=by
 obtain ⟨a,b,c,d⟩:=take_small h hm hd
 have o:=okN hk
 exact fit_of a b c d (take_own x m) o.c1 o.ll
theorem prop_fit {x:Node} {k:Int} {d:ByteArray} (h:GN (propN x k d)):Fit (propR x k d):=by
 have g:=h.adv (mems (propN x k d))
 exact fit_of g.sz g.da (by
  have:=told_len (x:=withC (propN x k d) (advC (propN x k d) (mems (propN x k d)) (propN x k d).Log.length)) h.M
  show (told _ _).length≤10;omega) (told_ent g.tells) (told_own _ rfl) g.c1 g.ll
def ndOf (st:List Int) (l:List Node) (v:Int):Node:=if 0≤v∧v<(l.length:Int) then l.getD v.toNat Node.dz else node0 v st
theorem ndOf_in (st:List Int) {l:List Node} {v:Int} (h0:0≤v) (h1:v<l.length):ndOf st l v=l.getD v.toNat Node.dz:=if_pos ⟨h0,h1⟩
theorem ndOf_set (st:List Int) {l:List Node} {v:Int} (h0:0≤v) (h1:v<l.length) (x:Node):ndOf st (l.set v.toNat x)=upd (ndOf st l) v x:=by
 funext w
 unfold upd
 by_cases e:w=v
 ·subst e
  rw [if_pos rfl,ndOf_in st h0 (by rw [List.length_set];exact h1),getD_set' (by omega)]
 ·rw [if_neg e]
  unfold ndOf
  rw [List.length_set]
  split
  ·rename_i h
   rw [List.getD_eq_getElem?_getD,List.getD_eq_getElem?_getD,List.getElem?_set_ne (by omega)]
  ·rfl
theorem mem_set' {α:Type} {l:List α} {i:Nat} {x y:α} (h:y∈l.set i x):y∈l∨y=x:=List.mem_or_eq_of_mem_set h
structure GR (st:List Int) (n:Nat) (g:Group):Prop where
 z:GrpSz g
 len:g.Nodes.length=n
 nd:∀x∈g.Nodes,NodeData x
 ws:∀m∈g.Wire,MsgSz m
 iv:∃gh,Inv st gh (ndOf st g.Nodes)∧∀m∈g.Wire,MI gh m
structure GI (st:List Int) (gh:Gh) (g:Group):Prop where
 z:GrpSz g
 n5:g.Nodes.length≤5
 w:g.Wire.length≤60
 l:g.Leads.length≤4096
 d:g.Dones.length≤4096
 nd:∀x∈g.Nodes,NodeData x
 ok:∀x∈g.Nodes,okB x=true
 ws:∀m∈g.Wire,MsgSz m
 wb:∀m∈g.Wire,msgB m=true
 inv:Inv st gh (ndOf st g.Nodes)
 wi:∀m∈g.Wire,MI gh m
def Dn (st:List Int) (n:Nat) (r:Option (Int×Group)):Prop:=∃c g1,r=some (c,g1)∧(c=0→GR st n g1)
theorem Dn.no {st:List Int} {n:Nat} {c:Int} {g:Group} (h:c≠0):Dn st n (some (c,g)):=⟨c,g,rfl,fun e=>absurd e h⟩
theorem doneQ {N:Nat} (hN:Big N) {st:List Int} {gh:Gh} {g:Group} (I:GI st gh g) {W:List Message} (hW:W.length≤60) (hWs:∀m∈W,m∈g.Wire) {v:Int} (v0:0≤v) (v1:v<g.Nodes.length) {x:Node} {sent:List Message} {c:Int} (h:c=0→Stp st gh (ndOf st g.Nodes) v (x,sent)∧Fit (x,sent)):Dn st g.Nodes.length (impl_Group_done.m N ⟨g.Nodes,W,g.Leads,g.Dones⟩ x sent c):=by
 unfold impl_Group_done.m
 by_cases hc:c=0
 ·obtain ⟨⟨g',e,I',mm⟩,f⟩:=h hc
  subst hc
  have hz:GrpSz ⟨g.Nodes,W,g.Leads,g.Dones⟩:=⟨I.z.n0,I.z.n,by show W.length≤100;omega,I.z.l,I.z.d,I.z.ns,fun m hm=>I.z.ws m (hWs m hm),I.z.ls⟩
  have hid:x.Id=v:=by have:=(I'.ni v).id;rwa [upd_same] at this
  have fn:sent.length≤10:=f.n
  have okv:=okN (I.ok _ (getD_mem (show v.toNat<g.Nodes.length by omega) Node.dz))
  have c1:=okv.c1
  have ll:=okv.ll
  have il:=I.l
  have id':=I.d
  have e1:(g.Nodes.getD x.Id.toNat Node.dz)=g.Nodes.getD v.toNat Node.dz:=by rw [hid]
  obtain ⟨Le,Do,eq,b1,b2,b3⟩:=putQ hN ⟨g.Nodes,W,g.Leads,g.Dones⟩ hz x sent hW (by omega) f.c1 f.ll (by show g.Leads.length≤_;omega) (by show g.Dones.length≤_;omega) (by omega) (by show x.Id<(g.Nodes.length:Int);omega) (by show 0≤(g.Nodes.getD x.Id.toNat Node.dz).Commit;rw [e1];exact okv.c0) (by show (g.Nodes.getD x.Id.toNat Node.dz).Commit≤60;rw [e1];omega)
  rw [show ((0:Int)==0)=true from rfl,cond_true,eq,ob_some]
  refine ⟨0,_,rfl,fun _=>?_⟩
  have hmem:∀y∈g.Nodes.set x.Id.toNat x,y∈g.Nodes∨y=x:=fun y hy=>mem_set' hy
  have b1:Le.length≤g.Leads.length+1:=b1
  have b3:Do.length≤g.Dones.length+60:=b3
  refine ⟨⟨?_,?_,?_,?_,?_,?_,?_,b2⟩,?_,?_,?_,g',?_,?_⟩
  ·show 0<(g.Nodes.set x.Id.toNat x).length;rw [List.length_set];exact I.z.n0
  ·show (g.Nodes.set x.Id.toNat x).length≤100;rw [List.length_set];exact I.z.n
  ·show (W++sent.take (60 - W.length)).length≤100;rw [List.length_append,List.length_take];omega
  ·show Le.length≤100000;omega
  ·show Do.length≤1000000;omega
  ·intro y hy
   rcases hmem y hy with q | q
   ·exact I.z.ns y q
   ·rw [q];exact f.sz
  ·intro m hm
   rcases List.mem_append.1 hm with q | q
   ·exact I.z.ws m (hWs m q)
   ·exact (f.e m (List.mem_of_mem_take q)).len
  ·show (g.Nodes.set x.Id.toNat x).length=_;rw [List.length_set]
  ·intro y hy
   rcases hmem y hy with q | q
   ·exact I.nd y q
   ·rw [q];exact f.da
  ·intro m hm
   rcases List.mem_append.1 hm with q | q
   ·exact I.ws m (hWs m q)
   ·exact f.e m (List.mem_of_mem_take q)
  ·show Inv st g' (ndOf st (g.Nodes.set x.Id.toNat x))
   rw [hid,ndOf_set st v0 v1];exact I'
  ·intro m hm
   rcases List.mem_append.1 hm with q | q
   ·exact (I.wi m (hWs m q)).ext e
   ·exact mm m (List.mem_of_mem_take q)
 ·rw [show (c==0)=false by rw [beq_eq_false_iff_ne];exact hc]
  exact Dn.no hc
theorem GI.at {st:List Int} {gh:Gh} {g:Group} (I:GI st gh g) {v:Int} (v0:0≤v) (v1:v<g.Nodes.length):GT (g.Nodes.getD v.toNat Node.dz)∧ndOf st g.Nodes v=g.Nodes.getD v.toNat Node.dz:=by
 have m:=getD_mem (show v.toNat<g.Nodes.length by omega) Node.dz
 exact ⟨GT.of (I.z.ns _ m) (I.nd _ m) (I.ok _ m),ndOf_in st v0 v1⟩
theorem setQ {st:List Int} {gh:Gh} {g:Group} (I:GI st gh g) {v:Int} (v0:0≤v) (v1:v<g.Nodes.length) {y:Node} (h:Stp st gh (ndOf st g.Nodes) v (y,[])) (sz:NodeSz y M20) (da:NodeData y):GR st g.Nodes.length ⟨g.Nodes.set v.toNat y,g.Wire,g.Leads,g.Dones⟩:=by
 obtain ⟨g',e,I',_⟩:=h
 have hmem:∀z∈g.Nodes.set v.toNat y,z∈g.Nodes∨z=y:=fun z hz=>mem_set' hz
 refine ⟨⟨?_,?_,I.z.w,I.z.l,I.z.d,?_,I.z.ws,I.z.ls⟩,?_,?_,I.ws,g',?_,fun m hm=>(I.wi m hm).ext e⟩
 ·show 0<(g.Nodes.set v.toNat y).length;rw [List.length_set];exact I.z.n0
 ·show (g.Nodes.set v.toNat y).length≤100;rw [List.length_set];exact I.z.n
 ·intro z hz
  rcases hmem z hz with q | q
  ·exact I.z.ns z q
  ·rw [q];exact sz
 ·show (g.Nodes.set v.toNat y).length=_;rw [List.length_set]
 ·intro z hz
  rcases hmem z hz with q | q
  ·exact I.nd z q
  ·rw [q];exact da
 ·show Inv st g' (ndOf st (g.Nodes.set v.toNat y))
  rw [ndOf_set st v0 v1];exact I'
theorem wireR {st:List Int} {gh:Gh} {g:Group} (I:GI st gh g) {W:List Message} (hW:W.length≤100) (hWs:∀m∈W,m∈g.Wire):GR st g.Nodes.length ⟨g.Nodes,W,g.Leads,g.Dones⟩:=
 ⟨⟨I.z.n0,I.z.n,hW,I.z.l,I.z.d,I.z.ns,fun m hm=>I.z.ws m (hWs m hm),I.z.ls⟩,rfl,I.nd,fun m hm=>I.ws m (hWs m hm),gh,I.inv,fun m hm=>I.wi m (hWs m hm)⟩
def Five (d:ByteArray):Prop:=d=⟨#[0,1]⟩∨d=⟨#[0,1,2]⟩∨d=⟨#[0,1,2,3]⟩∨d=⟨#[1,2]⟩∨d=⟨#[0,2,3]⟩
theorem Five.okc {d:ByteArray} (h:Five d) {st:List Int} (hs:st≠[0]):Okc st (bl d d.size):=by
 refine .inr ⟨hs,?_⟩
 rcases h with e | e | e | e | e<;>rw [e]
 ·exact .inl rfl
 ·exact .inr (.inl rfl)
 ·exact .inr (.inr (.inl rfl))
 ·exact .inr (.inr (.inr (.inl rfl)))
 ·exact .inr (.inr (.inr (.inr rfl)))
theorem Five.size {d:ByteArray} (h:Five d):d.size≤4:=by
 rcases h with e | e | e | e | e<;>rw [e]<;>decide
structure Act (a:GroupAct):Prop where
 five:a.Kind=6→Five a.Data
 size:a.Data.size≤M20
theorem propD {N:Nat} (hN:Big N) {st:List Int} {gh:Gh} {g:Group} (I:GI st gh g) {v:Int} (v0:0≤v) (v1:v<g.Nodes.length) {k:Int} {d:ByteArray} (hd:d.size≤M20) (hm:(k==2)=true→memB d=true) (hk:(g.Nodes.getD v.toNat Node.dz).Role=2→(k==2)=true→Five d∧alwB (g.Nodes.getD v.toNat Node.dz) (bl d d.size)=true) (hs:st≠[0]):Dn st g.Nodes.length (ob (impl_propose.m N (g.Nodes.getD v.toNat Node.dz) k d) fun y=>ob (impl_Group_done.m N g y.1 y.2.1 y.2.2) fun z=>some (z.1,z.2)):=by
 obtain ⟨gt,en⟩:=I.at v0 v1
 generalize hx:g.Nodes.getD v.toNat Node.dz=x at gt en hk
 have gp:=fun hl=>gt.g.prop (k:=k) (d:=d) hl hd hm
 rw [proposeQ hN gt.g k d gp,ob_some]
 have fin:∀ {r:Option (Int×Group)},Dn st g.Nodes.length r→Dn st g.Nodes.length (ob r fun z=>some (z.1,z.2)):=fun {r} ⟨c,g1,e,h⟩=>by
  rw [e,ob_some];exact ⟨c,g1,rfl,h⟩
 refine fin ?_
 have key:∀(y:Node) (s:List Message) (c:Int),(c=0→Stp st gh (ndOf st g.Nodes) v (y,s)∧Fit (y,s))→Dn st g.Nodes.length (impl_Group_done.m N g y s c):=fun y s c h=>doneQ hN I I.w (fun m hm=>hm) v0 v1 h
 cases hu : !x.Up with
 | true=>exact key _ _ _ fun h=>absurd h (by show ¬ (5:Int)=0;decide)
 | false=>
 cases hr:x.Role != 2 with
 | true=>exact key _ _ _ fun h=>absurd h (by show ¬ (14:Int)=0;decide)
 | false=>
 cases hl:(x.Log.length:Int)==60 with
 | true=>exact key _ _ _ fun h=>absurd h (by show ¬ (7:Int)=0;decide)
 | false=>
 have r2:x.Role=2:=by simpa using hr
 have hl:¬ (x.Log.length:Int)=60:=by simpa using hl
 have ll:=gt.g.ll
 have gg:=gp (by omega)
 have fit:=prop_fit gg
 refine key _ _ _ fun _=>⟨?_,fit⟩
 have hst:x.Start=st:=by have:=(I.inv.ni v).start;rwa [en] at this
 have sp:=prop_step I.inv (v:=v) (k:=k) (d:=d) (by rw [en];exact r2) (by rw [en];exact gt.g) (by rw [en];exact gg) (fun h2=>by
  obtain ⟨f,al⟩:=hk r2 h2
  unfold alwB calm at al
  simp only [Bool.and_eq_true,Bool.not_eq_true',beq_iff_eq,beq_eq_false_iff_ne,allF_iff] at al
  obtain ⟨a1,_,a3,a4,a5⟩:=al
  have c0:=gt.g.c0
  rw [en]
  rw [hst] at a1
  refine ⟨f.okc hs,by unfold adj;omega,by omega,a4,fun j j1 j2=>?_⟩
  have:=a5 j j1 (by omega)
  exact beq_eq_false_iff_ne.2 this)
 rw [en] at sp
 exact sp
theorem configQ {N:Nat} (hN:Big N) {st:List Int} {gh:Gh} {g:Group} (I:GI st gh g) (hs:st≠[0]) {v:Int} (v0:0≤v) (v1:v<g.Nodes.length) {d:ByteArray} (hf:Five d):Dn st g.Nodes.length (impl_Group_config.m N g (g.Nodes.getD v.toNat Node.dz) d):=by
 obtain ⟨gt,en⟩:=I.at v0 v1
 have h4:=hf.size
 have pd:=propD hN I v0 v1 (k:=2) (d:=d) (by simp only [M20];omega)
 unfold impl_Group_config.m
 rw [readMembers hN d (by simp only [M20];omega),ob_some]
 cases hm:memB d with
 | false=>exact Dn.no (by decide)
 | true=>
 have h0:0<d.size:=by
  unfold memB at hm
  rw [Bool.and_eq_true,decide_eq_true_eq] at hm
  exact hm.2
 have hl:=bl_length d d.size
 simp only [Bool.not_true,cond_false,cond_true]
 rw [hl,w_small (x:=(d.size:Int) - 1) (by omega) (by omega),decide_eq_true (show (0:Int)≤(d.size:Int) - 1 by omega),decide_eq_true (show (d.size:Int) - 1<(d.size:Int) by omega)]
 simp only [cond_true]
 cases decide ((bl d d.size).getD ((d.size:Int) - 1).toNat 0≥(g.Nodes.length:Int)) with
 | true=>exact Dn.no (by decide)
 | false=>
 rw [cond_false]
 cases hr:(g.Nodes.getD v.toNat Node.dz).Role==2 with
 | true=>
  rw [cond_true,implAlw hN _ _ gt.g.sz gt.g.da (by rw [hl];simp only [M20];omega) gt.g.c0 gt.g.c1,ob_some]
  cases ha:alwB (g.Nodes.getD v.toNat Node.dz) (bl d d.size) with
  | false=>exact Dn.no (by decide)
  | true=>exact pd (fun _=>hm) (fun _ _=>⟨hf,ha⟩) hs
 | false=>
  exact pd (fun _=>hm) (fun h _=>by rw [h] at hr;cases hr) hs
theorem ofNodeQ {N:Nat} (hN:Big N) {st:List Int} {gh:Gh} {g:Group} (I:GI st gh g) (hs:st≠[0]) {a:GroupAct} (ha:Act a) (hk:a.Kind=1∨a.Kind=5∨a.Kind=6∨a.Kind=7∨a.Kind=8):Dn st g.Nodes.length (impl_Group_ofNode.m N g a):=by
 have n0:=I.z.n0
 have n5:=I.n5
 unfold impl_Group_ofNode.m
 rw [w_small (x:=(g.Nodes.length:Int) - 1) (by omega) (by omega),within,ob_some]
 cases hi:inB a.N 0 ((g.Nodes.length:Int) - 1) with
 | false=>exact Dn.no (by decide)
 | true=>
 obtain ⟨v0,v1⟩:=inB_iff.1 hi
 have v1:a.N<g.Nodes.length:=by omega
 obtain ⟨gt,en⟩:=I.at v0 v1
 have fin:∀ {r:Option (Int×Group)},Dn st g.Nodes.length r→Dn st g.Nodes.length (ob r fun z=>some (z.1,z.2)):=fun {r} ⟨c,g1,e,h⟩=>by
  rw [e,ob_some];exact ⟨c,g1,rfl,h⟩
 have hz:=I.ok _ (getD_mem (show a.N.toNat<g.Nodes.length by omega) Node.dz)
 simp only [Bool.not_true,cond_false,cond_true,decide_eq_true v0,decide_eq_true v1]
 have start:Dn st g.Nodes.length (some ((0:Int),Group.mk (g.Nodes.set a.N.toNat (startN (g.Nodes.getD a.N.toNat Node.dz))) g.Wire g.Leads g.Dones)):=⟨_,_,rfl,fun _=>setQ I v0 v1 (by have:=start_step I.inv a.N;rwa [en] at this) ⟨gt.g.sz.Log,gt.g.sz.Start,gt.g.sz.Votes,gt.g.sz.Next,gt.g.sz.Match⟩ gt.g.da⟩
 have crash:Dn st g.Nodes.length (ob (impl_NodeCrash.m N (g.Nodes.getD a.N.toNat Node.dz)) fun y3=>some ((0:Int),Group.mk (g.Nodes.set a.N.toNat y3.1) g.Wire g.Leads g.Dones)):=by
  rw [implCrash hN _ gt.g.sz gt.g.da,ob_some]
  have e:crashR (g.Nodes.getD a.N.toNat Node.dz)=(crashN (g.Nodes.getD a.N.toNat Node.dz),0):=by unfold crashR;rw [hz];rfl
  rw [e]
  exact ⟨_,_,rfl,fun _=>setQ I v0 v1 (by have:=crash_step I.inv a.N;rwa [en] at this) ⟨gt.g.sz.Log,gt.g.sz.Start,Nat.zero_le _,by show 7≤M20;simp only [M20];omega,by show 7≤M20;simp only [M20];omega⟩ gt.g.da⟩
 have tick:Dn st g.Nodes.length (ob (impl_NodeTick.m N (g.Nodes.getD a.N.toNat Node.dz) a.Draw) fun y4=>ob (impl_Group_done.m N g y4.1 y4.2.1 y4.2.2) fun y5=>some (y5.1,y5.2)):=by
  rw [nodeTickQ hN _ _ gt.g.sz gt.g.da,ob_some]
  refine fin (doneQ hN I I.w (fun m hm=>hm) v0 v1 ?_)
  unfold ntR
  rw [hz]
  cases inB a.Draw 0 1000000 with
  | false=>exact fun h=>absurd h (by show ¬ (4:Int)=0;decide)
  | true=>
  cases (g.Nodes.getD a.N.toNat Node.dz).Up with
  | false=>exact fun h=>absurd h (by show ¬ (5:Int)=0;decide)
  | true=>
   intro _
   have sp:=tick_step I.inv (v:=a.N) (by omega) (by rw [en];exact gt.g) a.Draw
   rw [en] at sp
   exact ⟨sp,tick_fit gt.g a.Draw⟩
 have prop:Dn st g.Nodes.length (ob (impl_within.m N (a.Data.size:Int) (1:Int) (100:Int)) fun y6=>bif !y6 then some ((1:Int),g) else ob (impl_propose.m N (g.Nodes.getD a.N.toNat Node.dz) (1:Int) a.Data) fun y7=>ob (impl_Group_done.m N g y7.1 y7.2.1 y7.2.2) fun y8=>some (y8.1,y8.2)):=by
  rw [within,ob_some]
  cases inB (a.Data.size:Int) 1 100 with
  | false=>exact Dn.no (by decide)
  | true=>exact propD hN I v0 v1 ha.size (fun h=>absurd h (by decide)) (fun _ h=>absurd h (by decide)) hs
 rcases hk with e | e | e | e | e
 ·rw [e]
  simp only [show ((1:Int)==8)=false from rfl,show ((1:Int)==7)=false from rfl,show ((1:Int)==1)=true from rfl,cond_false,cond_true]
  cases !(g.Nodes.getD a.N.toNat Node.dz).Up with
  | true=>exact Dn.no (by decide)
  | false=>exact tick
 ·rw [e]
  simp only [show ((5:Int)==8)=false from rfl,show ((5:Int)==7)=false from rfl,show ((5:Int)==1)=false from rfl,show ((5:Int)==5)=true from rfl,cond_false,cond_true]
  cases !(g.Nodes.getD a.N.toNat Node.dz).Up with
  | true=>exact Dn.no (by decide)
  | false=>exact prop
 ·rw [e]
  simp only [show ((6:Int)==8)=false from rfl,show ((6:Int)==7)=false from rfl,show ((6:Int)==1)=false from rfl,show ((6:Int)==5)=false from rfl,cond_false,cond_true]
  cases !(g.Nodes.getD a.N.toNat Node.dz).Up with
  | true=>exact Dn.no (by decide)
  | false=>exact fin (configQ hN I hs v0 v1 (ha.five e))
 ·rw [e]
  simp only [show ((7:Int)==8)=false from rfl,show ((7:Int)==7)=true from rfl,cond_false,cond_true]
  cases !(g.Nodes.getD a.N.toNat Node.dz).Up with
  | true=>exact Dn.no (by decide)
  | false=>exact crash
 ·rw [e]
  simp only [show ((8:Int)==8)=true from rfl,cond_true]
  cases (g.Nodes.getD a.N.toNat Node.dz).Up with
  | true=>exact Dn.no (by decide)
  | false=>exact start
theorem ofWireQ {N:Nat} (hN:Big N) {st:List Int} {gh:Gh} {g:Group} (I:GI st gh g) {a:GroupAct}:Dn st g.Nodes.length (impl_Group_ofWire_.m N g a):=by
 have hw:=I.w
 unfold impl_Group_ofWire_.m
 rw [w_small (x:=(g.Wire.length:Int) - 1) (by omega) (by omega),within,ob_some]
 cases hi:inB a.N 0 ((g.Wire.length:Int) - 1) with
 | false=>exact Dn.no (by decide)
 | true=>
 obtain ⟨v0,v1⟩:=inB_iff.1 hi
 have v1:a.N<g.Wire.length:=by omega
 have hm:=getD_mem (show a.N.toNat<g.Wire.length by omega) Message.dz
 simp only [Bool.not_true,cond_false,cond_true,decide_eq_true v0,decide_eq_true v1]
 generalize g.Wire.getD a.N.toNat Message.dz=m at hm
 have ms:=I.ws m hm
 have mb:=I.wb m hm
 have mi:=I.wi m hm
 cases a.Kind==4 with
 | true=>
  rw [cond_true]
  cases (g.Wire.length:Int)==60 with
  | true=>exact Dn.no (by decide)
  | false=>
  rw [cond_false,copyM m ms.len,ob_some,roomB (by rw [List.length_singleton];omega) (by omega),cond_true]
  exact ⟨_,_,rfl,fun _=>wireR I (by rw [List.length_append,List.length_singleton];omega) fun m' h=>by
   rcases List.mem_append.1 h with q | q
   ·exact q
   ·rw [List.mem_singleton.1 q];exact hm⟩
 | false=>
 rw [cond_false]
 have del:slices_Delete_impl_Message.m N g.Wire a.N (w64 (a.N+1))=some (g.Wire.take a.N.toNat++g.Wire.drop (a.N+1).toNat):=by
  unfold slices_Delete_impl_Message.m delM
  rw [w_small (x:=a.N+1) (by omega) (by omega),decide_eq_true v0,decide_eq_true (show a.N<a.N+1 by omega),decide_eq_true (show a.N+1≤(g.Wire.length:Int) by omega)];rfl
 rw [del,ob_some]
 have hW:(g.Wire.take a.N.toNat++g.Wire.drop (a.N+1).toNat).length≤60:=by rw [List.length_append,List.length_take,List.length_drop];omega
 have hWs:∀m∈g.Wire.take a.N.toNat++g.Wire.drop (a.N+1).toNat,m∈g.Wire:=fun m' h=>by
  rcases List.mem_append.1 h with q | q
  ·exact List.mem_of_mem_take q
  ·exact List.mem_of_mem_drop q
 generalize g.Wire.take a.N.toNat++g.Wire.drop (a.N+1).toNat=W at hW hWs
 have gone:Dn st g.Nodes.length (some ((0:Int),Group.mk g.Nodes W g.Leads g.Dones)):=⟨_,_,rfl,fun _=>wireR I (by omega) hWs⟩
 cases a.Kind==3 with
 | true=>exact gone
 | false=>
 rw [cond_false]
 by_cases ht:m.To<(g.Nodes.length:Int)
 ·have mb2:=mb
  unfold msgB at mb2
  simp only [Bool.and_eq_true,inB_iff] at mb2
  have t0:0≤m.To:=mb2.2.2.1.1
  have hne:m.From≠m.To:=by have:=mb2.2.2.2.1;simpa using this
  obtain ⟨gt,en⟩:=I.at t0 ht
  have hz:=I.ok _ (getD_mem (show m.To.toNat<g.Nodes.length by omega) Node.dz)
  have hid:(g.Nodes.getD m.To.toNat Node.dz).Id=m.To:=by have:=(I.inv.ni m.To).id;rwa [en] at this
  rw [decide_eq_false (show ¬ m.To≥(g.Nodes.length:Int) by omega),decide_eq_true t0,decide_eq_true ht]
  simp only [cond_true,cond_false]
  cases hu:(g.Nodes.getD m.To.toNat Node.dz).Up with
  | false=>exact gone
  | true=>
  simp only [Bool.not_true,cond_false]
  rw [nodeTakeQ hN _ _ gt.g.sz gt.g.da ms,ob_some]
  have fin:∀ {r:Option (Int×Group)},Dn st g.Nodes.length r→Dn st g.Nodes.length (ob r fun z=>some (z.1,z.2)):=fun {r} ⟨c,g1,e,h⟩=>by
   rw [e,ob_some];exact ⟨c,g1,rfl,h⟩
  refine fin (doneQ hN I hW hWs t0 ht ?_)
  unfold nkR
  rw [hz,mb,hu,hid,show (m.To != m.To)=false by simp]
  simp only [cond_true,cond_false,Bool.not_true]
  cases hk:okB (takeR (g.Nodes.getD m.To.toNat Node.dz) m).1 with
  | false=>exact fun h=>absurd h (by show ¬ (3:Int)=0;decide)
  | true=>
   intro _
   have sp:=take_step I.inv (v:=m.To) (by rw [en];exact gt) (MsgOk.of mb) mi rfl hne
   rw [en] at sp
   exact ⟨sp,take_fit gt (MsgOk.of mb) ms hk⟩
 ·rw [decide_eq_true (show m.To≥(g.Nodes.length:Int) by omega)]
  exact gone
theorem doQ {N:Nat} (hN:Big N) {st:List Int} {gh:Gh} {g:Group} (I:GI st gh g) (hs:st≠[0]) {a:GroupAct} (ha:Act a):Dn st g.Nodes.length (impl_Group_do.m N g a):=by
 have fin:∀ {r:Option (Int×Group)},Dn st g.Nodes.length r→Dn st g.Nodes.length (ob r fun z=>some (z.1,z.2)):=fun {r} ⟨c,g1,e,h⟩=>by
  rw [e,ob_some];exact ⟨c,g1,rfl,h⟩
 have W:=fin (ofWireQ hN I (a:=a))
 have M:=fun h=>fin (ofNodeQ hN I hs ha h)
 unfold impl_Group_do.m
 cases e2:a.Kind==2 with
 | true=>exact W
 | false=>
 cases e3:a.Kind==3 with
 | true=>exact W
 | false=>
 cases e4:a.Kind==4 with
 | true=>exact W
 | false=>
 cases e1:a.Kind==1 with
 | true=>exact M (.inl (beq_iff_eq.1 e1))
 | false=>
 cases e5:a.Kind==5 with
 | true=>exact M (.inr (.inl (beq_iff_eq.1 e5)))
 | false=>
 cases e6:a.Kind==6 with
 | true=>exact M (.inr (.inr (.inl (beq_iff_eq.1 e6))))
 | false=>
 cases e7:a.Kind==7 with
 | true=>exact M (.inr (.inr (.inr (.inl (beq_iff_eq.1 e7)))))
 | false=>
 cases e8:a.Kind==8 with
 | true=>exact M (.inr (.inr (.inr (.inr (beq_iff_eq.1 e8)))))
 | false=>exact Dn.no (by decide)
theorem GR.gz {st:List Int} {n:Nat} {g:Group} (h:GR st n g):GZ g:=by
 have a:=h.z.n
 have b:=h.z.w
 exact ⟨by simp only [M20];omega,fun x hx=>⟨h.z.ns x hx,h.nd x hx⟩,by simp only [M20];omega,h.ws⟩
theorem GI.gz {st:List Int} {gh:Gh} {g:Group} (h:GI st gh g):GZ g:=by
 have a:=h.z.n
 have b:=h.z.w
 exact ⟨by simp only [M20];omega,fun x hx=>⟨h.z.ns x hx,h.nd x hx⟩,by simp only [M20];omega,h.ws⟩
theorem mem_at {α:Type} {l:List α} {x:α} (h:x∈l) (d:α):∃i,i<l.length∧l.getD i d=x:=by
 obtain ⟨i,hi,e⟩:=List.mem_iff_getElem.1 h
 exact ⟨i,hi,by rw [getD_at hi];exact e⟩
theorem GR.gi {st:List Int} {n:Nat} {g:Group} (h:GR st n g) (hb:grpB g=true):∃gh,GI st gh g:=by
 obtain ⟨gh,iv,wi⟩:=h.iv
 unfold grpB at hb
 simp only [Bool.and_eq_true,inB_iff,Bool.not_eq_true',decide_eq_false_iff_not,allF_iff] at hb
 obtain ⟨a,b,c,d,e,f⟩:=hb
 refine ⟨gh,h.z,by omega,by omega,by omega,by omega,h.nd,fun x hx=>?_,h.ws,fun m hm=>?_,iv,wi⟩
 ·obtain ⟨i,hi,ei⟩:=mem_at hx Node.dz
  have:=(e i (Nat.zero_le _) (by omega)).1
  unfold nx at this
  rwa [ei] at this
 ·obtain ⟨i,hi,ei⟩:=mem_at hm Message.dz
  have:=f i (Nat.zero_le _) (by omega)
  unfold mx at this
  rwa [ei] at this
theorem groupStepQ {N:Nat} (hN:Big N) {st:List Int} {gh:Gh} {g:Group} (I:GI st gh g) (hs:st≠[0]) {a:GroupAct} (ha:Act a):∃g1 c gh1,impl_groupStep.m N g a=some (g1,c)∧GI st gh1 g1∧g1.Nodes.length=g.Nodes.length:=by
 obtain ⟨c,g1,e,h⟩:=doQ hN I hs ha
 have cg:=copyG hN g I.z
 unfold impl_groupStep.m
 rw [cg,ob_some]
 have e:impl_Group_do.m N g (GroupAct.mk a.Kind a.N a.Draw a.Data)=some (c,g1):=e
 rw [e,ob_some]
 by_cases hc:c=0
 ·have r:=h hc
  have c1:=copyG hN g1 r.z
  subst hc
  simp only [show ((0:Int)==0)=true from rfl,cond_true]
  rw [groupOKQ hN g1 r.gz,ob_some]
  cases hb:grpB g1 with
  | true=>
   obtain ⟨gh1,i1⟩:=r.gi hb
   simp only [Bool.not_true,cond_false,show ((0:Int) != 0)=false from rfl,c1,ob_some]
   exact ⟨_,_,gh1,rfl,i1,r.len⟩
  | false=>exact ⟨_,_,gh,rfl,I,rfl⟩
 ·simp only [show (c==0)=false by rw [beq_eq_false_iff_ne];exact hc,show (c != 0)=true by simpa using hc,cond_false,cond_true,ob_some]
  exact ⟨_,_,gh,rfl,I,rfl⟩
def st0 (n:Nat):List Int:=(List.range (min n 3)).map fun (j:Nat)=>(j:Int)
def nodes0 (st:List Int) (n:Nat):List Node:=(List.range n).map fun (j:Nat)=>node0 (j:Int) st
theorem map_snoc {α:Type} (f:Nat→α) (i:Nat):(List.range (i+1)).map f=(List.range i).map f++[f i]:=by rw [List.range_succ,List.map_append];rfl
theorem newGroupQ {N:Nat} (hN:Big N) {n:Nat} (n1:1≤n) (n5:n≤5):impl_NewGroup.m N (n:Int)=some (⟨nodes0 (st0 n) n,[],[],[]⟩,0):=by
 unfold impl_NewGroup.m impl_NewGroup.m0
 rw [within,ob_some,inB_iff.2 ⟨show (1:Int)≤n by omega,show (n:Int)≤5 by omega⟩]
 simp only [Bool.not_true,cond_false]
 have em:(if (n:Int)<3 then (n:Int) else 3)=((min n 3:Nat):Int):=by split<;>omega
 rw [em]
 have last:impl_NewGroup.lp10 N (n:Int) (.s0 0 (st0 n))=some (⟨nodes0 (st0 n) n,[],[],[]⟩,0):=by
  unfold impl_NewGroup.lp10
  have hl:(st0 n).length≤3:=by unfold st0;rw [List.length_map,List.length_range];omega
  have:=miter_up (step:=fun rec=>impl_NewGroup.step10 N (n:Int) rec) (n:=n) (st:=fun i=>if i=0 then .s0 (i:Int) (st0 n) else .s1 (i:Int) (nodes0 (st0 n) i) (st0 n)) (r:=some (⟨nodes0 (st0 n) n,[],[],[]⟩,0)) (fun i hi rec=>by
   have hs:nodes0 (st0 n) (i+1)=nodes0 (st0 n) i++[node0 (i:Int) (st0 n)]:=map_snoc _ i
   have hln:(nodes0 (st0 n) i).length=i:=by unfold nodes0;rw [List.length_map,List.length_range]
   rw [if_neg (show ¬ i+1=0 by omega),hs]
   by_cases h0:i=0
   ·subst h0
    rw [if_pos rfl]
    simp only [impl_NewGroup.step10,lt_dec hi,cond_true,newNode N hN _ (st0 n) (by omega),ob_some]
    rw [roomB (by rw [List.length_singleton];omega) (by omega),cond_true,w_up 0 _ hi (by omega)];rfl
   ·rw [if_neg h0]
    simp only [impl_NewGroup.step10,lt_dec hi,cond_true,newNode N hN _ (st0 n) (by omega),ob_some]
    rw [roomB (by rw [List.length_singleton];omega) (by omega),cond_true,w_up i _ hi (by omega)]) (fun rec=>by
   rw [if_neg (by omega)]
   simp only [impl_NewGroup.step10,ge_dec,cond_false]) n 0 N (by omega) (by omega)
  exact this
 unfold impl_NewGroup.lp5
 have:=miter_up (step:=fun rec=>impl_NewGroup.step5 N (n:Int) (impl_NewGroup.lp10 N (n:Int)) rec) (n:=min n 3) (st:=fun i=>(((min n 3:Nat):Int),(i:Int),(List.range i).map fun (j:Nat)=>(j:Int))) (r:=some (⟨nodes0 (st0 n) n,[],[],[]⟩,0)) (fun i hi rec=>by
  simp only [impl_NewGroup.step5,lt_dec hi,cond_true]
  rw [roomB (by rw [List.length_map,List.length_range,List.length_singleton];omega) (by omega),cond_true,w_up i _ hi (by omega),map_snoc]) (fun rec=>by
  simp only [impl_NewGroup.step5,ge_dec,cond_false]
  exact last) (min n 3) 0 N (by omega) (by omega)
 exact this
theorem nd0 (st:List Int) (n:Nat) (v:Int):ndOf st (nodes0 st n) v=node0 v st:=by
 unfold ndOf
 split
 ·rename_i h
  unfold nodes0 at h ⊢
  rw [List.length_map,List.length_range] at h
  rw [List.getD_eq_getElem?_getD,List.getElem?_map,List.getElem?_range (by omega)]
  show node0 ((v.toNat:Nat):Int) st=_
  rw [show ((v.toNat:Nat):Int)=v by omega]
 ·rfl
theorem okB0 (n:Nat) (n1:1≤n) (n5:n≤5):(nodes0 (st0 n) n).all okB=true:=by
 rcases (show n=1∨n=2∨n=3∨n=4∨n=5 by omega) with e | e | e | e | e<;>rw [e]<;>kernel_rfl
theorem st0_is (n:Nat) (n1:1≤n) (n5:n≤5):st0 n=[0]∨st0 n=[0,1]∨st0 n=[0,1,2]:=by
 rcases (show n=1∨n=2∨n=3∨n=4∨n=5 by omega) with e | e | e | e | e<;>rw [e]
 ·exact .inl rfl
 ·exact .inr (.inl rfl)
 ·exact .inr (.inr rfl)
 ·exact .inr (.inr rfl)
 ·exact .inr (.inr rfl)
theorem st0_ne (n:Nat) (n2:2≤n) (n5:n≤5):st0 n≠[0]:=by
 rcases (show n=2∨n=3∨n=4∨n=5 by omega) with e | e | e | e<;>rw [e]<;>decide
theorem GI.init {n:Nat} (n1:1≤n) (n5:n≤5):GI (st0 n) g0 ⟨nodes0 (st0 n) n,[],[],[]⟩:=by
 have hl:(nodes0 (st0 n) n).length=n:=by unfold nodes0;rw [List.length_map,List.length_range]
 have hs:=st0_is n n1 n5
 have hx:∀x∈nodes0 (st0 n) n,∃v:Int,x=node0 v (st0 n):=fun x hx=>by
  obtain ⟨j,_,e⟩:=List.mem_map.1 hx
  exact ⟨_,e.symm⟩
 have hst:(st0 n).length≤3:=by rcases hs with e | e | e<;>rw [e]<;>decide
 refine ⟨⟨by show 0<(nodes0 (st0 n) n).length;omega,by show (nodes0 (st0 n) n).length≤100;omega,Nat.zero_le _,Nat.zero_le _,Nat.zero_le _,fun x h=>?_,fun m hm=>absurd hm List.not_mem_nil,fun m hm=>absurd hm List.not_mem_nil⟩,by show (nodes0 (st0 n) n).length≤5;omega,Nat.zero_le _,Nat.zero_le _,Nat.zero_le _,fun x h=>?_,fun x h=>List.all_eq_true.1 (okB0 n n1 n5) x h,fun m hm=>absurd hm List.not_mem_nil,fun m hm=>absurd hm List.not_mem_nil,Inv.init hs fun v=>?_,fun m hm=>absurd hm List.not_mem_nil⟩
 ·obtain ⟨v,rfl⟩:=hx x h
  exact ⟨Nat.zero_le _,by show (st0 n).length≤M20;simp only [M20];omega,Nat.zero_le _,by show 7≤M20;simp only [M20];omega,by show 7≤M20;simp only [M20];omega⟩
 ·obtain ⟨v,rfl⟩:=hx x h
  exact fun e he=>absurd he List.not_mem_nil
 ·show (ndOf (st0 n) (nodes0 (st0 n) n) v).Id=v∧_
  rw [nd0];exact ⟨rfl,rfl,rfl,rfl,rfl,rfl⟩
theorem groupRunQ {N:Nat} (hN:Big N) {n:Nat} (n2:2≤n) (n5:n≤5) (acts:List GroupAct) (hl:acts.length≤260) (ha:∀a∈acts,Act a):∃g codes gh,impl_GroupRun.m N (n:Int) acts=some (g,codes,0)∧GI (st0 n) gh g∧g.Nodes.length=n:=by
 have hs:=st0_ne n n2 n5
 unfold impl_GroupRun.m impl_GroupRun.m0 impl_isList_impl_GroupAct.m
 rw [ob_some,decide_eq_true (show (acts.length:Int)≤4096 by omega),newGroupQ hN (by omega) n5,ob_some,decide_eq_false (show ¬ (acts.length:Int) > 260 by omega)]
 simp only [Bool.not_true,cond_false,show ((0:Int) != 0)=false from rfl]
 unfold impl_GroupRun.lp10
 refine miter_all (p:=fun (r:Option (Group×List Int×Int))=>∃g codes gh,r=some (g,codes,0)∧GI (st0 n) gh g∧g.Nodes.length=n) (fun v:Int×Int×List Node×List Message×List Lead×List Done×List Int=>((acts.length:Int) - v.2.1).toNat) (fun v=>∃(i:Nat) (g:Group) (codes:List Int) (gh:Gh),v=((acts.length:Int),(i:Int),g.Nodes,g.Wire,g.Leads,g.Dones,codes)∧i≤acts.length∧codes.length=i∧GI (st0 n) gh g∧g.Nodes.length=n) ?_ N _ ⟨0,⟨nodes0 (st0 n) n,[],[],[]⟩,[],g0,rfl,Nat.zero_le _,rfl,GI.init (by omega) n5,by show (nodes0 (st0 n) n).length=n;unfold nodes0;rw [List.length_map,List.length_range]⟩ (by simp only [];omega)
 rintro v ⟨i,g,codes,gh,rfl,hi,hc,I,hn⟩ rec hrec
 simp only [impl_GroupRun.step10]
 by_cases h:i<acts.length
 ·rw [lt_dec h,nn_dec,Int.toNat_natCast]
  simp only [cond_true]
  obtain ⟨g1,c,gh1,e,I1,n1⟩:=groupStepQ hN I hs (ha _ (getD_mem h GroupAct.dz))
  have e:impl_groupStep.m N (Group.mk g.Nodes g.Wire g.Leads g.Dones) (acts.getD i GroupAct.dz)=some (g1,c):=e
  rw [e,ob_some,roomB (by rw [List.length_singleton];omega) (by omega),cond_true,w_up i _ h (by omega)]
  exact hrec _ ⟨i+1,g1,codes++[c],gh1,rfl,h,by rw [List.length_append,List.length_singleton,hc],I1,n1.trans hn⟩ (by simp only [];omega)
 ·rw [decide_eq_false (show ¬ (i:Int)<(acts.length:Int) by omega),cond_false]
  exact ⟨g,codes,gh,rfl,I,hn⟩
end Mir.Y
