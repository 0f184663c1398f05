/- NodeTake: votes that come. -/
import Derived.Test.YtbbkpgpfppnakaaGreatJTNK1
namespace Mir.Y
set_option linter.unusedVariables false
set_option linter.unusedSimpArgs false
open Go
def posV (f:Int):List Int→Nat
 | []=>0
 | v::r=>bif decide (v<f) then posV f r+1 else 0
theorem pos_le (f:Int):∀a:List Int,posV f a≤a.length
 | []=>Nat.le_refl _
 | v::r=>by
  have:=pos_le f r
  rw [posV,List.length_cons]
  cases decide (v<f)
  ·exact Nat.zero_le _
  ·exact Nat.succ_le_succ this
theorem pos_lt (f:Int):∀(a:List Int) (j:Nat),j<posV f a→ix a j<f
 | [],j,h=>absurd h (Nat.not_lt_zero _)
 | v::r,j,h=>by
  rw [posV] at h
  by_cases hv:v<f
  ·rw [decide_eq_true hv,cond_true] at h
   cases j with
   | zero=>exact hv
   | succ j=>exact pos_lt f r j (by omega)
  ·rw [decide_eq_false hv,cond_false] at h;omega
theorem pos_at (f:Int):∀a:List Int,posV f a<a.length→f≤ix a (posV f a)
 | [],h=>absurd h (Nat.not_lt_zero _)
 | v::r,h=>by
  rw [posV] at h ⊢
  by_cases hv:v<f
  ·rw [decide_eq_true hv,cond_true] at h ⊢
   exact pos_at f r (by rw [List.length_cons] at h;omega)
  ·rw [decide_eq_false hv,cond_false];show f≤v;omega
theorem ids_lt {a:List Int} (h:idsB (ix a) a.length=true):∀i j,i<j→j<a.length→ix a i<ix a j:=by
 unfold idsB at h
 rw [allF_iff] at h
 intro i j
 induction j with
 | zero=>intro h1;omega
 | succ j ih=>
  intro h1 h2
  have:=h (j+1) (Nat.zero_le _) (by omega)
  simp only [Bool.and_eq_true,Bool.not_eq_true',Bool.and_eq_false_iff,decide_eq_false_iff_not] at this
  have h3:ix a j<ix a (j+1):=by rcases this.2 with h | h;omega;rw [Nat.add_sub_cancel] at h;omega
  by_cases hi:i=j
  ·rw [hi];exact h3
  ·have:=ih (by omega) (by omega);omega
theorem has_pos {a:List Int} (h:idsB (ix a) a.length=true) (f:Int):hasB a f=(decide (posV f a<a.length)&&(ix a (posV f a)==f)):=by
 rw [Bool.eq_iff_iff,hasB_iff]
 simp only [Bool.and_eq_true,decide_eq_true_eq,beq_iff_eq]
 constructor
 ·intro hm
  obtain ⟨j,hj,he⟩:=List.getElem_of_mem hm
  have hx:ix a j=f:=by rw [ix,getD_at hj];exact he
  have h1:¬ j<posV f a:=fun hl=>by have:=pos_lt f a j hl;omega
  have h2:=pos_at f a (by omega)
  by_cases e:posV f a=j
  ·exact ⟨by omega,by rw [e];exact hx⟩
  ·have:=ids_lt h (posV f a) j (by omega) hj;omega
 ·rintro ⟨h1,h2⟩
  rw [← h2];exact ix_mem h1
theorem half (i j:Nat) (h:i+j≤1048576):w64 (Int.fdiv (wu64 (w64 ((i:Int)+(j:Int)))) (2 ^ (min (Int.toNat (1:Int)) 64)))=(((i+j) / 2:Nat):Int):=by
 have e1:w64 ((i:Int)+(j:Int))=((i+j:Nat):Int):=by rw [w_small (by omega) (by omega)];omega
 have e2:Int.fdiv ((i+j:Nat):Int) (2 ^ (min (Int.toNat (1:Int)) 64))=(((i+j) / 2:Nat):Int):=by
  exact (Int.ofNat_fdiv (i+j) 2).symm
 have e3:wu64 ((i+j:Nat):Int)=((i+j:Nat):Int):=by
  simp only [wu64,IntKind.wrap,IntKind.bits,IntKind.signed]
  simp
  omega
 rw [e1,e3,e2];exact w_small (by omega) (by omega)
theorem cmpL (N:Nat) (x y:Int):cmp_Less_int.m N x y=some (decide (x<y)):=by
 have e:∀z:Int,(z != z)=false:=fun z=>by simp
 simp only [cmp_Less_int.m,cmp_isNaN_int.m,ob_some,e,cond_false]<;>(by_cases h:x<y<;>simp [h])
theorem searchI {N:Nat} (hN:Big N) {a:List Int} (h:idsB (ix a) a.length=true) (hl:a.length≤100) (f:Int):slices_BinarySearch_int_int.m N a f=some ((posV f a:Int),hasB a f):=by
 rw [has_pos h]
 have hp:=pos_le f a
 unfold slices_BinarySearch_int_int.m slices_BinarySearch_int_int.m0 slices_BinarySearch_int_int.lp3
 refine miter_all (p:=fun r=>r=some ((posV f a:Int),(decide (posV f a<a.length)&&(ix a (posV f a)==f)))) (fun v:Int×Int×Int=>(v.2.2 - v.2.1).toNat) (fun v=>∃i j:Nat,v=((a.length:Int),(i:Int),(j:Int))∧i≤posV f a∧posV f a≤j∧j≤a.length) ?_ N _ ⟨0,a.length,rfl,Nat.zero_le _,hp,Nat.le_refl _⟩ (by simp;omega)
 rintro v ⟨i,j,rfl,i1,i2,i3⟩ rec hrec
 simp only [slices_BinarySearch_int_int.step3]
 by_cases hij:i<j
 ·have hm:(i+j) / 2<a.length:=by omega
  rw [decide_eq_true (show (i:Int)<(j:Int) by omega),cond_true,half i j (by omega),nn_dec,lt_dec hm,Int.toNat_natCast,ixe,cmpL]
  simp only [show (!decide ((1:Int)<0))=true from rfl,cond_true,ob_some]
  by_cases hlt:(i+j) / 2<posV f a
  ·rw [decide_eq_true (pos_lt f a _ hlt),cond_true,w_up _ 1048576 (by omega) (by omega)]
   exact hrec _ ⟨(i+j) / 2+1,j,rfl,by omega,i2,i3⟩ (by simp only [];omega)
  ·have hq:f≤ix a ((i+j) / 2):=by
    have h2:=pos_at f a (by omega)
    by_cases e:posV f a=(i+j) / 2
    ·rw [← e];exact h2
    ·have:=ids_lt h (posV f a) ((i+j) / 2) (by omega) hm;omega
   rw [decide_eq_false (by omega),cond_false]
   exact hrec _ ⟨i,(i+j) / 2,rfl,i1,by omega,by omega⟩ (by simp only [];omega)
 ·rw [decide_eq_false (show ¬ ((i:Int)<(j:Int)) by omega),cond_false]
  obtain rfl:i=posV f a:=by omega
  by_cases hL:posV f a<a.length
  ·have e:∀z:Int,(z != z)=false:=fun z=>by simp
   rw [lt_dec hL,cond_true,nn_dec,Int.toNat_natCast,ixe,decide_eq_true hL,Bool.true_and]
   simp only [slices_isNaN_int.m,cond_true,ob_some,e,cond_false]
   cases ix a (posV f a)==f<;>rfl
  ·rw [decide_eq_false (show ¬ ((posV f a:Int)<(a.length:Int)) by omega),decide_eq_false hL];rfl
def insV (a:List Int) (f:Int):List Int:=(a.take (posV f a)++[f])++a.drop (posV f a)
theorem insV_len (a:List Int) (f:Int):(insV a f).length=a.length+1:=by
 have:=pos_le f a
 unfold insV
 simp;omega
def winR (z:Node):Node×List Message:=
 bif mostB (hasB z.Votes) (mems z) then (withC (leadN z) (advC (leadN z) (mems z) (leadL z).length),told (leadN z) (mems z)) else (z,[])
theorem winS {N:Nat} (hN:Big N) {z:Node} (h:GN z) (hv:z.Votes.length≤100):ob (spec_l10Members.m N z) (fun y=>ob (spec_l10Most.m N y.2.Votes y.1) fun y7=>bif y7 then ob (spec_l10Lead.m N (Node.mk z.Id z.Term z.Vote y.2.Log z.Start z.Role y.2.Votes y.2.Next y.2.Match z.Commit z.Elapsed z.Wait z.Up)) (fun y8=>some (y8.1,y8.2)) else some ((Node.mk z.Id z.Term z.Vote y.2.Log z.Start z.Role y.2.Votes y.2.Next y.2.Match z.Commit z.Elapsed z.Wait z.Up),([]:List Message)))=some (winR z):=by
 have hM:=h.M
 have hl:=hM.len
 rw [mem_ hN (h.ms hN),ob_some]
 show ob (spec_l10Most.m N z.Votes (mems z)) _=_
 rw [l10Most hN z.Votes (mems z) hv (by omega),ob_some]
 obtain ⟨c,e1,_,_,e4,_⟩:=leadBoth hN h
 unfold winR
 cases mostB (hasB z.Votes) (mems z) with
 | false=>rfl
 | true=>
  rw [cond_true,cond_true]
  show ob (spec_l10Lead.m N z) _=_
  rw [e4,ob_some,e1]
theorem winI {N:Nat} (hN:Big N) {z:Node} (h:GN z) (hv:z.Votes.length≤100):∃b,impl_worker_leadIf.m N ⟨z,[]⟩=some (b,⟨(winR z).1,(winR z).2⟩):=by
 have hM:=h.M
 obtain ⟨c,e1,_,_,_,e5⟩:=leadBoth hN h
 unfold impl_worker_leadIf.m
 simp only [nodeEta]
 rw [isMostV hN ⟨z,[]⟩ (mems z) (h.mi hN) hM (by show z.Votes.length≤M20;simp only [M20];omega),ob_some]
 unfold winR
 show ∃b,(bif mostB (hasB z.Votes) (mems z) then _ else _)=_
 cases mostB (hasB z.Votes) (mems z) with
 | false=>exact ⟨_,rfl⟩
 | true=>rw [cond_true,cond_true,e5,ob_some,e1];exact ⟨_,rfl⟩
def withV (y:Node) (v:List Int):Node:=⟨y.Id,y.Term,y.Vote,y.Log,y.Start,y.Role,v,y.Next,y.Match,y.Commit,y.Elapsed,y.Wait,y.Up⟩
theorem GN.withV {x:Node} (h:GN x) {v:List Int} (hv:v.length≤M20):GN (withV x v):=⟨⟨h.sz.Log,h.sz.Start,hv,h.sz.Next,h.sz.Match⟩,h.da,h.mm,h.st,h.c0,h.c1,h.n7,h.m7,h.nx,h.ll⟩
def votedR (y:Node) (m:Message):Node×List Message:=
 bif y.Role != 1 then (y,[]) else bif m.Term != y.Term then (y,[]) else bif !m.Ok then (y,[]) else
 bif !hasB y.Votes m.From then winR (withV y (insV y.Votes m.From)) else winR y
theorem votedBoth {N:Nat} (hN:Big N) {y:Node} (h:GT y) (m:Message):spec_l10Voted.m N y m=some (votedR y m)∧impl_worker_voted.m N ⟨y,[]⟩ m=some ⟨(votedR y m).1,(votedR y m).2⟩:=by
 have h7:y.Votes.length≤7:=(mem_of h.vt).len
 have hp:=pos_le m.From y.Votes
 have hi:=insV_len y.Votes m.From
 have hz:=h.g.withV (v:=insV y.Votes m.From) (by rw [hi];simp only [M20];omega)
 unfold spec_l10Voted.m spec_l10Voted.m0 impl_worker_voted.m votedR
 simp only [nodeEta,cond_false]
 cases y.Role != 1 with
 | true=>exact ⟨rfl,rfl⟩
 | false=>
 cases m.Term != y.Term with
 | true=>exact ⟨rfl,rfl⟩
 | false=>
 cases m.Ok with
 | false=>exact ⟨rfl,rfl⟩
 | true=>
 simp only [Bool.not_true,cond_false]
 rw [l10Has hN y.Votes m.From (by simp only [M20];omega),searchI hN h.vt (by omega) m.From,ob_some,ob_some]
 cases hasB y.Votes m.From with
 | true=>
  obtain ⟨b,hb⟩:=winI hN h.g (by omega)
  refine ⟨winS hN h.g (by omega),?_⟩
  simp only [Bool.not_true,cond_false]
  rw [hb,ob_some]
 | false=>
  simp only [Bool.not_false,cond_true]
  constructor
  ·unfold spec_l10Voted.lp5
   have ed:(y.Votes.drop 0).take (posV m.From y.Votes - 0)=y.Votes.take (posV m.From y.Votes):=rfl
   have et:(y.Votes.drop (posV m.From y.Votes)).take (y.Votes.length - posV m.From y.Votes)=y.Votes.drop (posV m.From y.Votes):=List.take_of_length_le (by rw [List.length_drop];omega)
   have ei:([]++y.Votes.take (posV m.From y.Votes))++[m.From]++y.Votes.drop (posV m.From y.Votes)=insV y.Votes m.From:=rfl
   have win:=winS hN hz (by show (insV y.Votes m.From).length≤100;omega)
   have l1:(y.Votes.take (posV m.From y.Votes)).length≤7:=by rw [List.length_take];omega
   have l2:(y.Votes.drop (posV m.From y.Votes)).length≤7:=by rw [List.length_drop];omega
   have r1:room (([]:List Int).length+(y.Votes.take (posV m.From y.Votes)).length) 8=true:=roomB (by simp only [List.length_nil];omega) (by omega)
   have r2:room ((([]:List Int)++y.Votes.take (posV m.From y.Votes)).length+([m.From]).length) 8=true:=roomB (by simp only [List.nil_append,List.length_singleton];omega) (by omega)
   have r3:room (((([]:List Int)++y.Votes.take (posV m.From y.Votes))++[m.From]).length+(y.Votes.drop (posV m.From y.Votes)).length) 8=true:=roomB (by simp only [List.nil_append,List.length_append,List.length_singleton];omega) (by omega)
   have:=miter_up (step:=fun rec=>spec_l10Voted.step5 N y m rec) (n:=posV m.From y.Votes) (st:=fun i=>((i:Int),(0:Int),(0:Int),(0:Int),(0:Int),(0:Int),(0:Int),(0:Int))) (r:=some (winR (withV y (insV y.Votes m.From)))) (fun i hi' rec=>by
    have hlt:=pos_lt m.From y.Votes i hi'
    have hlt':decide (y.Votes.getD i 0<m.From)=true:=decide_eq_true hlt
    simp only [spec_l10Voted.step5,lt_dec (show i<y.Votes.length by omega),nn_dec,cond_true,Int.toNat_natCast,hlt']
    rw [w_up i _ hi' (by omega)]) (fun rec=>by
    have q1:decide ((posV m.From y.Votes:Int)≤((y.Votes.length:Nat):Int))=true:=decide_eq_true (by omega)
    have q2:decide (0+(posV m.From y.Votes - 0)≤y.Votes.length)=true:=decide_eq_true (by omega)
    have q3:decide (posV m.From y.Votes+(y.Votes.length - posV m.From y.Votes)≤y.Votes.length)=true:=decide_eq_true (by omega)
    simp only [spec_l10Voted.step5]
    by_cases hL:posV m.From y.Votes<y.Votes.length
    ·have hge:=pos_at m.From y.Votes hL
     have hge':decide (y.Votes.getD (posV m.From y.Votes) 0<m.From)=false:=decide_eq_false (show ¬ ix y.Votes (posV m.From y.Votes)<m.From by omega)
     simp only [lt_dec hL,nn_dec,cond_true,Int.toNat_natCast,hge',cond_false,q1,q2,q3,ed,et,r1,r2,r3,ei]
     exact win
    ·simp only [decide_eq_false (show ¬ ((posV m.From y.Votes:Int)<(y.Votes.length:Int)) by omega),nn_dec,cond_true,Int.toNat_natCast,cond_false,q1,q2,q3,ed,et,r1,r2,r3,ei]
     exact win) (posV m.From y.Votes) 0 N (by omega) (by omega)
   exact this
  ·obtain ⟨b,hb⟩:=winI hN hz (by show (insV y.Votes m.From).length≤100;omega)
   have ins:slices_Insert_int.m N y.Votes (posV m.From y.Votes:Int) [m.From]=some (insV y.Votes m.From):=by
    unfold slices_Insert_int.m insM
    rw [nn_dec,decide_eq_true (show (posV m.From y.Votes:Int)≤(y.Votes.length:Int) by omega),show Nat.beq ([m.From]:List Int).length 1=true from rfl,roomB (by omega) (by omega),Int.toNat_natCast]
    unfold insV
    rw [List.append_assoc];rfl
   simp only [ins,ob_some]
   show ob (impl_worker_leadIf.m N ⟨withV y (insV y.Votes m.From),[]⟩) _=_
   rw [hb,ob_some]
end Mir.Y
