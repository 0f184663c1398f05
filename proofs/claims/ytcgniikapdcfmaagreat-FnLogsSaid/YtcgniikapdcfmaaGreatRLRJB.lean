/- What is drawn: acts of a group. -/
import Derived.Test.YtcgniikapdcfmaaGreatRLRJA
namespace Mir.Y
set_option linter.unusedVariables false
set_option linter.unusedSimpArgs false
open Go
structure SrcOK (s:l00Src) (t:Nat):Prop where
 at_:s.«at» = (t:Int)
 len:s.code.length≤2000000
 lo:0≤s.seed
 hi:s.seed<2147483648
 bytes:∀x∈s.code,0≤x∧x<256
theorem srcNew {a:List Int} (hl:a.length≤2000000) (hb:∀x∈a,0≤x∧x<256):SrcOK (l00Src.mk a 0 (Int.tmod (a.length:Int) 1000)) 0:=by
 have h:=Int.tmod_lt_of_pos (a.length:Int) (show (0:Int)<1000 by omega)
 have h0:=Int.tmod_nonneg (1000:Int) (show (0:Int)≤(a.length:Int) by omega)
 have h2:Int.tmod (a.length:Int) 1000<2147483648:=by omega
 exact ⟨rfl,hl,h0,h2,hb⟩
theorem srcS (N:Nat) (a:List Int):spec_l00Source.m N a=some (l00Src.mk a 0 (Int.tmod (a.length:Int) 1000)):=by kernel_rfl
theorem getD_rng {a:List Int} (hb:∀x∈a,0≤x∧x<256) (i:Nat):0≤a.getD i 0∧a.getD i 0<256:=by
 rw [List.getD_eq_getElem?_getD]
 cases h:a[i]? with
 | none=>exact ⟨Int.le_refl _,by decide⟩
 | some x=>exact hb x (List.mem_of_getElem? h)
theorem srcByte (N:Nat) {s:l00Src} {t:Nat} (h:SrcOK s t) (ht:t≤4000000):∃b q,spec_l00Src_byte_.m N s=some (b,q)∧0≤b∧b<256∧SrcOK q (t+1):=by
 obtain ⟨h1,h2,h3,h4,h5⟩:=h
 obtain ⟨code,at_,seed⟩:=s
 have h1:at_=(t:Int):=h1
 have h2:code.length≤2000000:=h2
 have h3:0≤seed:=h3
 have h4:seed<2147483648:=h4
 have h5:∀x∈code,0≤x∧x<256:=h5
 subst h1
 have e1:w64 ((t:Int)+1)=((t+1:Nat):Int):=by rw [w_small (by omega) (by omega)];omega
 have e2:w64 (((t+1:Nat):Int) - 1)=(t:Int):=by rw [w_small (by omega) (by omega)];omega
 have ht0:(t:Int).toNat=t:=Int.toNat_natCast t
 have gg:0≤code.getD t 0∧code.getD t 0<256:=getD_rng h5 t
 obtain ⟨g0,g1⟩:=gg
 have e3:w64 (code.getD t 0)=code.getD t 0:=w_small (by omega) (by omega)
 have m31:∀x:Int,0≤x→0≤Int.tmod x 2147483648∧Int.tmod x 2147483648<2147483648:=fun x hx=>⟨Int.tmod_nonneg _ hx,Int.tmod_lt_of_pos x (by omega)⟩
 unfold spec_l00Src_byte_.m
 simp only [e1,e2,ht0,e3]
 by_cases hc:((t+1:Nat):Int)≤(code.length:Int)
 ·rw [decide_eq_true hc,cond_true,nn_dec,cond_true,decide_eq_true (show (t:Int)<(code.length:Int) by omega)]
  refine ⟨_,_,rfl,g0,g1,⟨rfl,h2,?_,?_,h5⟩⟩
  all_goals
   have q1:w64 (seed * 31)=seed * 31:=w64_eq (by omega) (by omega)
   have q2:w64 (seed * 31+code.getD t 0)=seed * 31+code.getD t 0:=w64_eq (by omega) (by omega)
   have q3:w64 (seed * 31+code.getD t 0+7)=seed * 31+code.getD t 0+7:=w64_eq (by omega) (by omega)
   have q4:=m31 (seed * 31+code.getD t 0+7) (by omega)
   simp only [q1,q2,q3]
  ·exact q4.1
  ·exact q4.2
 ·rw [decide_eq_false hc,cond_false]
  by_cases hd:((t+1:Nat):Int) > 3000
  ·rw [decide_eq_true hd,cond_true]
   exact ⟨_,_,rfl,Int.le_refl _,by decide,⟨rfl,h2,h3,h4,h5⟩⟩
  ·rw [decide_eq_false hd,cond_false]
   have q1:w64 (seed * 1103515245)=seed * 1103515245:=w64_eq (by omega) (by omega)
   have q2:w64 (seed * 1103515245+12345)=seed * 1103515245+12345:=w64_eq (by omega) (by omega)
   have q4:=m31 (seed * 1103515245+12345) (by omega)
   simp only [q1,q2]
   generalize Int.tmod (seed * 1103515245+12345) 2147483648=z at q4
   have d0:0≤Int.tdiv z 65536:=Int.tdiv_nonneg q4.1 (by omega)
   have d1:Int.tdiv z 65536≤z:=Int.tdiv_le_self _ q4.1
   have q5:w64 (Int.tdiv z 65536)=Int.tdiv z 65536:=w64_eq (by omega) (by omega)
   rw [q5]
   exact ⟨_,_,rfl,Int.tmod_nonneg _ d0,Int.tmod_lt_of_pos _ (by omega),⟨rfl,h2,q4.1,q4.2,h5⟩⟩
theorem nextS (N:Nat) {s:l00Src} {t:Nat} (h:SrcOK s t) (ht:t≤4000000) {n:Int} (h1:1<n) (hn:n≤256):∃b q,spec_l00Src_next_.m N s n=some (b,q)∧0≤b∧b<n∧SrcOK q (t+1):=by
 obtain ⟨b,q,e,b0,b1,hq⟩:=srcByte N h ht
 unfold spec_l00Src_next_.m
 rw [decide_eq_false (show ¬ n≤1 by omega),cond_false,decide_eq_true hn,cond_true,e,ob_some,decide_eq_false (show ¬ n=0 by omega)]
 exact ⟨_,_,rfl,Int.tmod_nonneg _ b0,Int.tmod_lt_of_pos _ (by omega),hq⟩
theorem lawsAt (N:Nat) (a:List Int) (i n:Int) (hl:a.length≤1048576) (hb':∀x∈a,0≤x∧x<256) (i0:0≤i) (i1:i≤8) (h1:0<n) (hn:n≤65536):∃k:Int,laws_at.m N a i n=some k∧(0:Int)≤k∧k<n:=by
 unfold laws_at.m
 by_cases hc:n≤1
 ·rw [decide_eq_true hc];exact ⟨0,rfl,Int.le_refl _,by omega⟩
 rw [decide_eq_false hc,cond_false,decide_eq_false (show ¬ n=0 by omega)]
 by_cases hz:(a.length:Int)=0
 ·rw [beq_iff_eq.2 hz]
  have q1:w64 (i * 7)=i * 7:=w_small (by omega) (by omega)
  rw [q1]
  exact ⟨_,rfl,Int.tmod_nonneg _ (by omega),Int.tmod_lt_of_pos _ (by omega)⟩
 ·have hz':((a.length:Int)==0)=false:=by rw [beq_eq_false_iff_ne];exact hz
  rw [hz',cond_false,decide_eq_false hz]
  have q1:w64 (i+1)=i+1:=w_small (by omega) (by omega)
  rw [q1]
  have p0:=Int.tmod_nonneg (a.length:Int) i0
  have p1:=Int.tmod_lt_of_pos i (show (0:Int)<(a.length:Int) by omega)
  have r0:=Int.tmod_nonneg (a.length:Int) (show 0≤i+1 by omega)
  have r1:=Int.tmod_lt_of_pos (i+1) (show (0:Int)<(a.length:Int) by omega)
  rw [decide_eq_true p0,decide_eq_true p1,decide_eq_true r0,decide_eq_true r1]
  obtain ⟨g0,g1⟩:=getD_rng hb' (Int.toNat (Int.tmod i (a.length:Int)))
  obtain ⟨k0,k1⟩:=getD_rng hb' (Int.toNat (Int.tmod (i+1) (a.length:Int)))
  generalize a.getD (Int.toNat (Int.tmod i (a.length:Int))) 0=x at g0 g1
  generalize a.getD (Int.toNat (Int.tmod (i+1) (a.length:Int))) 0=y at k0 k1
  have d0:0≤Int.tdiv i (a.length:Int):=Int.tdiv_nonneg i0 (by omega)
  have d1:Int.tdiv i (a.length:Int)≤i:=Int.tdiv_le_self _ i0
  generalize Int.tdiv i (a.length:Int)=z at d0 d1
  have s1:w64 x=x:=w_small (by omega) (by omega)
  have s2:w64 (x * 31)=x * 31:=w_small (by omega) (by omega)
  have s3:w64 y=y:=w_small (by omega) (by omega)
  have s4:w64 (x * 31+y)=x * 31+y:=w_small (by omega) (by omega)
  have s5:w64 z=z:=w_small (by omega) (by omega)
  have s6:w64 (x * 31+y+z)=x * 31+y+z:=w_small (by omega) (by omega)
  simp only [s1,s2,s3,s4,s5,s6]
  exact ⟨_,rfl,Int.tmod_nonneg _ (by omega),Int.tmod_lt_of_pos _ (by omega)⟩
def Dr {α:Type} (t:Nat) (r:Option (α×l00Src)) (P:α→Prop):Prop:=∃a q u,r=some (a,q)∧P a∧SrcOK q u∧u≤t
theorem Dr.bind {α β:Type} {t t':Nat} {r:Option (α×l00Src)} {P:α→Prop} {Q:β→Prop} {f:α×l00Src→Option (β×l00Src)} (h:Dr t r P) (k:∀a q u,P a→SrcOK q u→u≤t→Dr t' (f (a,q)) Q):Dr t' (ob r f) Q:=by
 obtain ⟨a,q,u,e,p,s,hu⟩:=h
 rw [e,ob_some];exact k a q u p s hu
theorem Dr.ret {α:Type} {t u:Nat} {a:α} {q:l00Src} {P:α→Prop} (h:P a) (s:SrcOK q u) (hu:u≤t):Dr t (some (a,q)) P:=⟨a,q,u,rfl,h,s,hu⟩
theorem nextD (N:Nat) {s:l00Src} {t u:Nat} (h:SrcOK s t) (ht:t≤3999999) {n:Int} (h1:1≤n) (hn:n≤256) (hu:t+1≤u):Dr u (spec_l00Src_next_.m N s n) (fun b=>0≤b∧b<n):=by
 by_cases e:n=1
 ·subst e
  exact ⟨0,s,t,rfl,⟨Int.le_refl _,by omega⟩,h,by omega⟩
 ·obtain ⟨b,q,e,b0,b1,hq⟩:=nextS N h (by omega) (show 1<n by omega) hn
  exact ⟨b,q,t+1,e,⟨b0,b1⟩,hq,hu⟩
theorem chanceD (N:Nat) {s:l00Src} {t u:Nat} (h:SrcOK s t) (ht:t≤3999999) {n:Int} (h1:1≤n) (hn:n≤256) (hu:t+1≤u):Dr u (spec_l00Src_chance_.m N s n) (fun _=>True):=by
 unfold spec_l00Src_chance_.m
 exact (nextD N h ht h1 hn hu).bind fun b q v _ hq hv=>.ret trivial hq hv
theorem pickD (N:Nat) {s:l00Src} {t u:Nat} (h:SrcOK s t) (ht:t≤3999999) (l:List ByteArray) (h1:1≤l.length) (h2:l.length≤256) (hu:t+1≤u):Dr u (spec_l00Src_pick_.m N s l) (fun x=>x∈l):=by
 unfold spec_l00Src_pick_.m
 rw [show ((l.length:Int)==0)=false by rw [beq_eq_false_iff_ne];omega,cond_false]
 refine (nextD N h ht (show (1:Int)≤(l.length:Int) by omega) (by omega) hu).bind fun b q v hb hq hv=>?_
 simp only []
 rw [decide_eq_true hb.1,decide_eq_true hb.2]
 exact .ret (getD_mem (by omega) _) hq hv
theorem sizeD (N:Nat) {s:l00Src} {t:Nat} (h:SrcOK s t) {n:Int} (h1:1≤n) (hn:n≤1000):∃z:Int,spec_l00Src_size.m N s n=some z∧1≤z∧z≤n:=by
 unfold spec_l00Src_size.m
 have hc:=h.len
 have e1:Int.tdiv (s.code.length:Int) 12=((s.code.length / 12:Nat):Int):=rfl
 have e2:w64 ((s.code.length / 12:Nat):Int)=((s.code.length / 12:Nat):Int):=w_small (by omega) (by omega)
 have e3:w64 (1+((s.code.length / 12:Nat):Int))=1+((s.code.length / 12:Nat):Int):=w_small (by omega) (by omega)
 rw [show (!decide ((12:Int)=0))=true from rfl,cond_true,e1,e2,e3]
 by_cases hc:n<1+((s.code.length / 12:Nat):Int)
 ·exact ⟨n,by simp only [if_pos hc],h1,Int.le_refl _⟩
 ·exact ⟨1+((s.code.length / 12:Nat):Int),by simp only [if_neg hc],by omega,by omega⟩
def keyL:List ByteArray:=[(⟨#[97]⟩:ByteArray),(⟨#[98]⟩:ByteArray),(⟨#[99]⟩:ByteArray),(⟨#[97,108,112,104,97]⟩:ByteArray),(⟨#[98,101,116,97]⟩:ByteArray)]
def datL:List ByteArray:=[ByteArray.empty,(⟨#[49]⟩:ByteArray),(⟨#[50]⟩:ByteArray),(⟨#[120]⟩:ByteArray),(⟨#[108,111,110,103,101,114,32,118,97,108,117,101]⟩:ByteArray)]
theorem keyD (N:Nat) {s:l00Src} {t u:Nat} (h:SrcOK s t) (ht:t≤3999999) (hu:t+1≤u):Dr u (spec_l00Src_key.m N s) (fun x=>x.size≤100):=by
 show Dr u (ob (spec_l00Src_pick_.m N s keyL) fun y2=>some (y2.1,y2.2)) _
 refine (pickD N h ht keyL (by decide) (by decide) hu).bind fun x q v hx hq hv=>.ret ?_ hq hv
 have:∀x∈keyL,x.size≤100:=by decide
 exact this x hx
theorem datumD (N:Nat) {s:l00Src} {t u:Nat} (h:SrcOK s t) (ht:t≤3999999) (hu:t+1≤u):Dr u (spec_l00Src_datum.m N s) (fun x=>x.size≤100):=by
 show Dr u (ob (spec_l00Src_pick_.m N s datL) fun y2=>some (y2.1,y2.2)) _
 refine (pickD N h ht datL (by decide) (by decide) hu).bind fun x q v hx hq hv=>.ret ?_ hq hv
 have:∀x∈datL,x.size≤100:=by decide
 exact this x hx
def CmdSz (c:Command):Prop:=c.Key.size≤100∧c.Value.size≤100
theorem commandD (N:Nat) {s:l00Src} {t u:Nat} (h:SrcOK s t) (ht:t≤3999000) (hu:t+10≤u):Dr u (spec_l00Src_command.m N s) CmdSz:=by
 have z:ByteArray.empty.size≤100:=by decide
 unfold spec_l00Src_command.m
 refine (nextD N h (by omega) (show (1:Int)≤5 by omega) (by omega) (Nat.le_refl _)).bind fun b1 q1 u1 p1 h1 l1=>?_
 simp only []
 rw [decide_eq_true p1.1,show decide (b1<(([(1:Int),(1:Int),(2:Int),(2:Int),(3:Int)]).length:Int))=true from decide_eq_true p1.2,cond_true,cond_true]
 refine (nextD N h1 (by omega) (show (1:Int)≤3 by omega) (by omega) (Nat.le_refl _)).bind fun b2 q2 u2 p2 h2 l2=>?_
 refine (nextD N h2 (by omega) (show (1:Int)≤5 by omega) (by omega) (Nat.le_refl _)).bind fun b3 q3 u3 p3 h3 l3=>?_
 refine (keyD N h3 (by omega) (Nat.le_refl _)).bind fun b4 q4 u4 p4 h4 l4=>?_
 refine (datumD N h4 (by omega) (Nat.le_refl _)).bind fun b5 q5 u5 p5 h5 l5=>?_
 simp only []
 generalize (([(1:Int),(1:Int),(2:Int),(2:Int),(3:Int)]).getD (Int.toNat b1) (0:Int))=kk
 cases kk==3 with
 | true=>
  refine (chanceD N h5 (by omega) (show (1:Int)≤4 by omega) (by omega) (Nat.le_refl _)).bind fun b6 q6 u6 p6 h6 l6=>?_
  cases b6 with
  | true=>
   refine (nextD N h6 (by omega) (show (1:Int)≤2 by omega) (by omega) (Nat.le_refl _)).bind fun b7 q7 u7 p7 h7 l7=>?_
   refine (nextD N h7 (by omega) (show (1:Int)≤3 by omega) (by omega) (Nat.le_refl _)).bind fun b8 q8 u8 p8 h8 l8=>?_
   exact .ret ⟨z,z⟩ h8 (by omega)
  | false=>exact .ret ⟨p4,z⟩ h6 (by omega)
 | false=>
  refine (chanceD N h5 (by omega) (show (1:Int)≤4 by omega) (by omega) (Nat.le_refl _)).bind fun b6 q6 u6 p6 h6 l6=>?_
  cases b6 with
  | true=>
   refine (nextD N h6 (by omega) (show (1:Int)≤2 by omega) (by omega) (Nat.le_refl _)).bind fun b7 q7 u7 p7 h7 l7=>?_
   refine (nextD N h7 (by omega) (show (1:Int)≤3 by omega) (by omega) (Nat.le_refl _)).bind fun b8 q8 u8 p8 h8 l8=>?_
   exact .ret ⟨z,z⟩ h8 (by omega)
  | false=>exact .ret ⟨p4,p5⟩ h6 (by omega)
theorem bytesD (N:Nat) {c:Command} (h:CmdSz c):∃l,spec_l02Bytes.m N c=some l∧l.length≤1000:=by
 obtain ⟨h1,h2⟩:=h
 have k1:(bytesOf c.Key).length=c.Key.size:=by simp [bytesOf]
 have k2:(bytesOf c.Value).length=c.Value.size:=by simp [bytesOf]
 unfold spec_l02Bytes.m
 have two:∀x:Int,spec_l02Two.m N x=some [wu8 (w64 (Int.tdiv x 256)),wu8 x]:=fun x=>rfl
 simp only [two,ob_some]
 rw [roomB (by simp) (by omega),roomB (by simp) (by omega),roomB (by simp) (by omega),roomB (by simp only [List.length_append,List.length_singleton,List.length_cons,List.length_nil];omega) (by omega),roomB (by simp only [List.length_append,List.length_singleton,List.length_cons,List.length_nil];omega) (by omega),roomB (by simp only [List.length_append,List.length_singleton,List.length_cons,List.length_nil];omega) (by omega)]
 simp only [cond_true]
 exact ⟨_,rfl,by simp only [List.length_append,List.length_singleton,List.length_cons,List.length_nil];omega⟩
theorem strOf_size (a:List Int):(strOf a).size=a.length:=by show ((a.map _).toArray).size=_;rw [List.size_toArray,List.length_map]
theorem act0 {k n d:Int} (h:k≠6):Act (GroupAct.mk k n d ByteArray.empty):=⟨fun e=>absurd e h,Nat.zero_le _⟩
theorem groupActD (N:Nat) {s:l00Src} {t u:Nat} (h:SrcOK s t) (ht:t≤3990000) {n:Int} (n1:1≤n) (n5:n≤5) (hu:t+30≤u):Dr u (spec_l00Src_groupAct.m N s n) Act:=by
 unfold spec_l00Src_groupAct.m
 refine (nextD N h (by omega) (show (1:Int)≤4 by omega) (by omega) (Nat.le_refl _)).bind fun b1 q1 u1 p1 h1 l1=>?_
 refine (nextD N h1 (by omega) (show (1:Int)≤12 by omega) (by omega) (Nat.le_refl _)).bind fun b2 q2 u2 p2 h2 l2=>?_
 refine (nextD N h2 (by omega) (show (1:Int)≤5 by omega) (by omega) (Nat.le_refl _)).bind fun b3 q3 u3 p3 h3 l3=>?_
 simp only []
 rw [decide_eq_true p3.1,show decide (b3<(([(0:Int),(0:Int),(0:Int),b1,b2]).length:Int))=true from decide_eq_true p3.2,cond_true,cond_true]
 refine (nextD N h3 (by omega) (show (1:Int)≤16 by omega) (by omega) (Nat.le_refl _)).bind fun b4 q4 u4 p4 h4 l4=>?_
 simp only []
 have tick:Dr u (ob (spec_l00Src_next_.m N q4 n) fun y5=>ob (spec_l00Src_next_.m N y5.2 (8:Int)) fun y6=>some ((GroupAct.mk (1:Int) y5.1 y6.1 ByteArray.empty),y6.2)) Act:=by
  refine (nextD N h4 (by omega) n1 (by omega) (Nat.le_refl _)).bind fun b5 q5 u5 p5 h5 l5=>?_
  refine (nextD N h5 (by omega) (show (1:Int)≤8 by omega) (by omega) (Nat.le_refl _)).bind fun b6 q6 u6 p6 h6 l6=>?_
  exact .ret (act0 (by decide)) h6 (by omega)
 have prop:Dr u (ob (spec_l00Src_next_.m N q4 n) fun y13=>ob (spec_l00Src_command.m N y13.2) fun y14=>ob (spec_l02Bytes.m N y14.1) fun y15=>some ((GroupAct.mk (5:Int) y13.1 (0:Int) (strOf y15)),y14.2)) Act:=by
  refine (nextD N h4 (by omega) n1 (by omega) (Nat.le_refl _)).bind fun b5 q5 u5 p5 h5 l5=>?_
  refine (commandD N h5 (by omega) (Nat.le_refl _)).bind fun b6 q6 u6 p6 h6 l6=>?_
  obtain ⟨l,e,hl⟩:=bytesD N p6
  simp only []
  rw [e,ob_some]
  refine .ret ⟨fun h=>absurd h (by show ¬ (5:Int)=6;decide),?_⟩ h6 (by omega)
  show (strOf l).size≤M20
  rw [strOf_size];simp only [M20];omega
 cases b4==0 with
 | true=>exact tick
 | false=>
 cases b4==1 with
 | true=>exact tick
 | false=>
 cases b4==2 with
 | true=>exact tick
 | false=>
 cases b4==3 with
 | true=>
  rw [cond_false,cond_false,cond_false,cond_true]
  refine (nextD N h4 (by omega) (show (1:Int)≤2 by omega) (by omega) (Nat.le_refl _)).bind fun b5 q5 u5 p5 h5 l5=>?_
  simp only []
  rw [decide_eq_true p5.1,show decide (b5<(([(3:Int),(4:Int)]).length:Int))=true from decide_eq_true p5.2,cond_true,cond_true]
  refine (nextD N h5 (by omega) (show (1:Int)≤5 by omega) (by omega) (Nat.le_refl _)).bind fun b6 q6 u6 p6 h6 l6=>?_
  refine .ret (act0 ?_) h6 (by omega)
  rcases (show b5=0∨b5=1 by omega) with e | e<;>rw [e]<;>decide
 | false=>
 cases b4==4 with
 | true=>exact prop
 | false=>
 cases b4==5 with
 | true=>exact prop
 | false=>
 cases b4==6 with
 | true=>
  rw [cond_false,cond_false,cond_false,cond_false,cond_false,cond_false,cond_true]
  refine (chanceD N h4 (by omega) (show (1:Int)≤2 by omega) (by omega) (Nat.le_refl _)).bind fun b5 q5 u5 p5 h5 l5=>?_
  cases b5 with
  | false=>exact .ret (act0 (by decide)) h5 (by omega)
  | true=>
   simp only [cond_true]
   refine (nextD N h5 (by omega) (show (1:Int)≤2 by omega) (by omega) (Nat.le_refl _)).bind fun b6 q6 u6 p6 h6 l6=>?_
   simp only []
   rw [decide_eq_true p6.1,show decide (b6<(([(7:Int),(8:Int)]).length:Int))=true from decide_eq_true p6.2,cond_true,cond_true]
   refine (nextD N h6 (by omega) n1 (by omega) (Nat.le_refl _)).bind fun b7 q7 u7 p7 h7 l7=>?_
   refine .ret (act0 ?_) h7 (by omega)
   rcases (show b6=0∨b6=1 by omega) with e | e<;>rw [e]<;>decide
 | false=>
 cases b4==7 with
 | true=>
  rw [cond_false,cond_false,cond_false,cond_false,cond_false,cond_false,cond_false,cond_true]
  refine (chanceD N h4 (by omega) (show (1:Int)≤2 by omega) (by omega) (Nat.le_refl _)).bind fun b5 q5 u5 p5 h5 l5=>?_
  cases b5 with
  | false=>exact .ret (act0 (by decide)) h5 (by omega)
  | true=>
   simp only [cond_true]
   refine (nextD N h5 (by omega) n1 (by omega) (Nat.le_refl _)).bind fun b6 q6 u6 p6 h6 l6=>?_
   refine (pickD N h6 (by omega) _ (by decide) (by decide) (Nat.le_refl _)).bind fun b7 q7 u7 p7 h7 l7=>?_
   have f:Five b7:=by
    simp only [List.mem_cons,List.not_mem_nil,or_false] at p7
    exact p7
   refine .ret ⟨fun _=>f,?_⟩ h7 (by omega)
   have:=f.size
   show b7.size≤M20
   simp only [M20];omega
 | false=>exact .ret (act0 (by decide)) h4 (by omega)
def Acts (k:Nat) (l:List GroupAct):Prop:=l.length≤k∧∀a∈l,Act a
theorem Acts.snoc {k:Nat} {l:List GroupAct} {a:GroupAct} (h:Acts k l) (ha:Act a):Acts (k+1) (l++[a]):=⟨by rw [List.length_append,List.length_singleton];have:=h.1;omega,fun x hx=>by
 rcases List.mem_append.1 hx with q | q
 ·exact h.2 x q
 ·rw [List.mem_singleton.1 q];exact ha⟩
theorem Acts.app {k j:Nat} {l m:List GroupAct} (h:Acts k l) (h':Acts j m):Acts (k+j) (l++m):=⟨by rw [List.length_append];have:=h.1;have:=h'.1;omega,fun x hx=>by
 rcases List.mem_append.1 hx with q | q
 ·exact h.2 x q
 ·exact h'.2 x q⟩
theorem electedD {N:Nat} (hN:Big N) {s:l00Src} {t u:Nat} (h:SrcOK s t) (ht:t≤3990000) (hu:t+20≤u) (v:Int):Dr u (spec_l00Src_elected.m N s v) (Acts 28):=by
 unfold spec_l00Src_elected.m spec_l00Src_elected.m0
 have tail:∀(c:Int) (q:l00Src) (w:Nat) (l:List GroupAct),0≤c→c≤15→SrcOK q w→w≤u→Acts 13 l→Dr u (spec_l00Src_elected.lp7 N s v (c,q.code,q.«at»,q.seed,l)) (Acts 28):=by
  intro c q w l c0 c1 hq hw hl
  unfold spec_l00Src_elected.lp7
  refine miter_all (p:=fun r=>Dr u r (Acts 28)) (fun x:Int×List Int×Int×Int×List GroupAct=>x.1.toNat) (fun x=>∃(j:Int) (l':List GroupAct),x=(j,q.code,q.«at»,q.seed,l')∧0≤j∧l'.length+j.toNat≤28∧∀a∈l',Act a) ?_ N _ ⟨c,l,rfl,c0,by have:=hl.1;omega,hl.2⟩ (by simp only [];omega)
  rintro x ⟨j,l',rfl,j0,j1,j2⟩ rec hrec
  simp only [spec_l00Src_elected.step7]
  by_cases hj:j > 0
  ·rw [decide_eq_true hj,cond_true,roomB (by rw [List.length_singleton];omega) (by omega),cond_true,w_small (x:=j - 1) (by omega) (by omega)]
   refine hrec _ ⟨j - 1,_,rfl,by omega,by rw [List.length_append,List.length_singleton];omega,fun a ha=>?_⟩ (by simp only [];omega)
   rcases List.mem_append.1 ha with q | q
   ·exact j2 a q
   ·rw [List.mem_singleton.1 q];exact act0 (by decide)
  ·rw [decide_eq_false hj,cond_false]
   exact .ret ⟨by omega,j2⟩ hq hw
 unfold spec_l00Src_elected.lp3
 refine miter_all (p:=fun r=>Dr u r (Acts 28)) (fun x:Int×List Int×Int×Int×List GroupAct=>(13 - x.1).toNat) (fun x=>∃(j:Nat) (q:l00Src) (w:Nat) (l':List GroupAct),x=((j:Int),q.code,q.«at»,q.seed,l')∧j≤13∧SrcOK q w∧w≤t+j∧Acts j l') ?_ N _ ⟨0,s,t,[],rfl,by omega,h,by omega,Nat.zero_le _,fun a ha=>absurd ha List.not_mem_nil⟩ (by simp only [];omega)
 rintro x ⟨j,q,w,l',rfl,j1,hq,hw,hl⟩ rec hrec
 have hl1:=hl.1
 simp only [spec_l00Src_elected.step3]
 by_cases hj:j<13
 ·rw [show decide ((j:Int)<13)=true from decide_eq_true (by omega),cond_true]
  refine (nextD N (s:=l00Src.mk q.code q.«at» q.seed) hq (by omega) (show (1:Int)≤4 by omega) (by omega) (Nat.le_refl _)).bind fun b1 q1 u1 p1 h1 l1=>?_
  simp only []
  rw [roomB (by rw [List.length_singleton];omega) (by omega),cond_true,w_up j 13 hj (by omega)]
  exact hrec _ ⟨j+1,q1,u1,_,rfl,hj,h1,by omega,hl.snoc (act0 (by decide))⟩ (by simp only [];omega)
 ·rw [show decide ((j:Int)<13)=false from decide_eq_false (by omega),cond_false]
  refine (nextD N (s:=l00Src.mk q.code q.«at» q.seed) hq (by omega) (show (1:Int)≤12 by omega) (by omega) (Nat.le_refl _)).bind fun b1 q1 u1 p1 h1 l1=>?_
  simp only []
  rw [w_small (x:=4+b1) (by omega) (by omega)]
  exact tail _ q1 u1 l' (by omega) (by omega) h1 (by omega) ⟨by omega,hl.2⟩
theorem groupActsD {N:Nat} (hN:Big N) {s:l00Src} {t u:Nat} (h:SrcOK s t) (ht:t≤100000) (hu:t+100000≤u) {n:Int} (n1:1≤n) (n5:n≤5):Dr u (spec_l00Src_groupActs.m N s n) (Acts 260):=by
 unfold spec_l00Src_groupActs.m spec_l00Src_groupActs.m0
 have main:∀(c:Int) (q:l00Src) (w:Nat) (l:List GroupAct),0≤c→c≤100→SrcOK q w→w≤t+1000→Acts 258 l→Dr u (spec_l00Src_groupActs.lp5 N s n (c,q.code,q.«at»,q.seed,l)) (Acts 260):=by
  intro c q w l c0 c1 hq hw hl
  unfold spec_l00Src_groupActs.lp5
  refine miter_all (p:=fun r=>Dr u r (Acts 260)) (fun x:Int×List Int×Int×Int×List GroupAct=>x.1.toNat) (fun x=>∃(j:Int) (q:l00Src) (w:Nat) (l':List GroupAct),x=(j,q.code,q.«at»,q.seed,l')∧0≤j∧j≤100∧SrcOK q w∧w+100 * j.toNat≤t+20000∧Acts 258 l') ?_ N _ ⟨c,q,w,l,rfl,c0,c1,hq,by omega,hl⟩ (by simp only [];omega)
  rintro x ⟨j,q,w,l',rfl,j0,j1,hq,hw,hl⟩ rec hrec
  simp only [spec_l00Src_groupActs.step5]
  by_cases hj:j > 0
  ·rw [decide_eq_true hj]
   simp only [cond_true]
   by_cases h2:(l'.length:Int)<230
   ·rw [decide_eq_true h2,cond_true]
    refine (groupActD N (s:=l00Src.mk q.code q.«at» q.seed) hq (by omega) n1 n5 (Nat.le_refl _)).bind fun b1 q1 u1 p1 h1 l1=>?_
    simp only []
    rw [roomB (by rw [List.length_singleton];omega) (by omega),cond_true]
    refine (chanceD N h1 (by omega) (show (1:Int)≤30 by omega) (by omega) (Nat.le_refl _)).bind fun b2 q2 u2 p2 h2' l2=>?_
    have a1:Acts 230 (l'++[b1]):=Acts.snoc (k:=229) ⟨by omega,hl.2⟩ p1
    have e1:w64 (j - 1)=j - 1:=w_small (by omega) (by omega)
    cases b2 with
    | false=>
     simp only [cond_false]
     rw [e1]
     exact hrec _ ⟨j - 1,q2,u2,_,rfl,by omega,by omega,h2',by omega,by have:=a1.1;omega,a1.2⟩ (by simp only [];omega)
    | true=>
     simp only [cond_true]
     refine (nextD N h2' (by omega) n1 (by omega) (Nat.le_refl _)).bind fun b3 q3 u3 p3 h3 l3=>?_
     refine (electedD hN h3 (by omega) (Nat.le_refl _) b3).bind fun b4 q4 u4 p4 h4 l4=>?_
     simp only []
     have a2:=a1.app p4
     have a3:=a1.1
     have a4:=p4.1
     rw [roomB (by omega) (by omega),cond_true,e1]
     exact hrec _ ⟨j - 1,q4,u4,_,rfl,by omega,by omega,h4,by omega,a2⟩ (by simp only [];omega)
   ·rw [decide_eq_false h2,cond_false]
    exact .ret ⟨by have:=hl.1;omega,hl.2⟩ hq (by omega)
  ·rw [decide_eq_false hj,cond_false]
   exact .ret ⟨by have:=hl.1;omega,hl.2⟩ hq (by omega)
 refine (chanceD N h (by omega) (show (1:Int)≤5 by omega) (by omega) (Nat.le_refl _)).bind fun b1 q1 u1 p1 h1 l1=>?_
 cases b1 with
 | false=>
  simp only [Bool.not_false,cond_true]
  refine (nextD N h1 (by omega) n1 (by omega) (Nat.le_refl _)).bind fun b2 q2 u2 p2 h2 l2=>?_
  refine (electedD hN h2 (by omega) (Nat.le_refl _) b2).bind fun b3 q3 u3 p3 h3 l3=>?_
  obtain ⟨z,ez,z0,z1⟩:=sizeD N h3 (show (1:Int)≤60 by omega) (by omega)
  simp only []
  rw [ez,ob_some,w_small (x:=z+8) (by omega) (by omega)]
  refine (nextD N h3 (by omega) (show (1:Int)≤z+8 by omega) (by omega) (Nat.le_refl _)).bind fun b4 q4 u4 p4 h4 l4=>?_
  exact main b4 q4 u4 b3 p4.1 (by omega) h4 (by omega) ⟨by have:=p3.1;omega,p3.2⟩
 | true=>
  simp only [Bool.not_true,cond_false]
  obtain ⟨z,ez,z0,z1⟩:=sizeD N h1 (show (1:Int)≤60 by omega) (by omega)
  rw [ez,ob_some,w_small (x:=z+8) (by omega) (by omega)]
  refine (nextD N h1 (by omega) (show (1:Int)≤z+8 by omega) (by omega) (Nat.le_refl _)).bind fun b4 q4 u4 p4 h4 l4=>?_
  exact main b4 q4 u4 [] p4.1 (by omega) h4 (by omega) ⟨Nat.zero_le _,fun a ha=>absurd ha List.not_mem_nil⟩
theorem actsOf {N:Nat} (hN:Big N) (a:List Int) (hl:a.length≤1048576) (hb':∀x∈a,0≤x∧x<256) {n:Int} (n1:1≤n) (n5:n≤5):∃l,spec_GroupActsOf.m N a n=some l∧l.length≤260∧∀x∈l,Act x:=by
 obtain ⟨l,q,u,e,h,_⟩:=groupActsD hN (srcNew (by omega) hb') (by omega) (Nat.le_refl _) n1 n5
 unfold spec_GroupActsOf.m
 rw [srcS,ob_some,e,ob_some]
 exact ⟨l,rfl,h.1,h.2⟩
theorem wfBytesR {a:List Int} (h:∃n,WfE E (WfA E n) (.slice 5 (.int .u8)) a):∀x∈a,0≤x∧x<256:=by
 obtain ⟨n,h⟩:=h
 cases n with
 | zero=>exact False.elim h
 | succ n=>
  intro x hx
  have:=h.2 x hx
  have hw:(Lit.int .u8 x).wf=true:=by cases n<;>exact this
  simp only [Lit.wf,Bool.and_eq_true,decide_eq_true_eq] at hw
  have h1:IntKind.min .u8=0:=rfl
  have h2:IntKind.max .u8=255:=rfl
  rw [h1,h2] at hw
  omega
theorem dT {p:Prop} (q:p) (d:Decidable p):Decidable.decide (h:=d) p=true:=by cases d with | isTrue _=>rfl | isFalse n=>exact absurd q n
theorem dF {p:Prop} (q:¬ p) (d:Decidable p):Decidable.decide (h:=d) p=false:=by cases d with | isFalse _=>rfl | isTrue n=>exact absurd n q
theorem eqE_self (x:Entry):eqE x x=true:=by unfold eqE;simp [seq_self]
theorem agree.same {a b:List Entry} {k:Nat} (h:agree a b k):sameB a b k=true:=by
 unfold sameB
 rw [allF_iff]
 intro i _ hi
 rw [h.at (show i<k by omega)];exact eqE_self _
theorem lastT_or (a b:List Entry):∀n,lastT a b n=0∨∃k,lastT a b n=k+1∧k<n∧(ex a k).Term=(ex b k).Term:=by
 intro n
 induction n with
 | zero=>exact .inl rfl
 | succ n ih=>
  rw [lastT]
  cases h:(ex a n).Term != (ex b n).Term with
  | true=>
   rw [cond_true]
   rcases ih with e | ⟨k,e,l,t⟩
   ·exact .inl e
   ·exact .inr ⟨k,e,by omega,t⟩
  | false=>exact .inr ⟨n,rfl,by omega,by simpa using h⟩
theorem GI.grp {st:List Int} {gh:Gh} {g:Group} (I:GI st gh g):grpB g=true:=by
 have a:=I.z.n0
 have b:=I.n5
 have c:=I.w
 have d:=I.l
 have e:=I.d
 unfold grpB
 rw [inB_iff.2 ⟨show (1:Int)≤g.Nodes.length by omega,show (g.Nodes.length:Int)≤5 by omega⟩,decide_eq_false (show ¬ (g.Wire.length:Int) > 60 by omega),decide_eq_false (show ¬ (g.Leads.length:Int) > 4096 by omega),decide_eq_false (show ¬ (g.Dones.length:Int) > 4096 by omega)]
 simp only [Bool.not_false,Bool.true_and,Bool.and_eq_true,allF_iff]
 refine ⟨fun i _ hi=>?_,fun i _ hi=>?_⟩
 ·have hi:i<g.Nodes.length:=by omega
  have m:=getD_mem hi Node.dz
  have en:=(I.at (v:=(i:Int)) (by omega) (by omega)).2
  have id:=(I.inv.ni (i:Int)).id
  rw [en,Int.toNat_natCast] at id
  refine ⟨I.ok _ m,?_⟩
  show (!((g.Nodes.getD i Node.dz).Id != (i:Int)))=true
  rw [id];simp
 ·exact I.wb _ (getD_mem (by omega) Message.dz)
theorem GI.matches {st:List Int} {gh:Gh} {g:Group} (I:GI st gh g) {i j k:Nat} (hi:i<g.Nodes.length) (hj:j<g.Nodes.length) (h1:k<(nx g.Nodes i).Log.length) (h2:k<(nx g.Nodes j).Log.length) (ht:(ex (nx g.Nodes i).Log k).Term=(ex (nx g.Nodes j).Log k).Term):agree (nx g.Nodes i).Log (nx g.Nodes j).Log (k+1):=by
 have e1:=(I.at (v:=(i:Int)) (by omega) (by omega)).2
 have e2:=(I.at (v:=(j:Int)) (by omega) (by omega)).2
 rw [Int.toNat_natCast] at e1 e2
 have:=match_logs I.inv (i:Int) (j:Int) (i:=k)
 rw [e1,e2] at this
 exact this h1 h2 ht
theorem GI.pairs {st:List Int} {gh:Gh} {g:Group} (I:GI st gh g):pairsB (mP g.Nodes) g.Nodes.length=true:=by
 unfold pairsB
 rw [allF_iff]
 intro i _ hi
 rw [allF_iff]
 intro j _ hj
 unfold mP matchB
 rcases lastT_or (nx g.Nodes i).Log (nx g.Nodes j).Log (min (nx g.Nodes i).Log.length (nx g.Nodes j).Log.length) with e | ⟨k,e,l,t⟩
 ·rw [e];rfl
 ·rw [e];exact (I.matches (by omega) (by omega) (by omega) (by omega) t).same
theorem sameEnt {N:Nat} (hN:Big N) (X:List Entry) (hl:X.length≤100):laws_sameEntries.m N X X=some true:=by
 unfold laws_sameEntries.m laws_sameEntries.m0
 rw [show ((X.length:Int) != (X.length:Int))=false by simp,cond_false]
 unfold laws_sameEntries.lp4
 have:=miter_up (step:=fun rec=>laws_sameEntries.step4 N X X rec) (n:=X.length) (st:=fun i=>(i:Int)) (r:=some true) (fun i hi rec=>by
  have e:((X.getD i Entry.dz).Term==(X.getD i Entry.dz).Term&&((X.getD i Entry.dz).Kind==(X.getD i Entry.dz).Kind&&seq (X.getD i Entry.dz).Data (X.getD i Entry.dz).Data))=true:=eqE_self _
  simp only [laws_sameEntries.step4,lt_dec hi,nn_dec,cond_true,Int.toNat_natCast,e,Bool.not_true,cond_false]
  rw [w_up i _ hi (by omega)]) (fun rec=>by
  simp only [laws_sameEntries.step4,ge_dec,cond_false]) X.length 0 N (by omega) (by omega)
 exact this
abbrev two (A B:Node) (i:Int):Int×Int×Int×Int×(List Entry)×(List Int)×Int×(List Int)×(List Int)×(List Int)×Int×Int×Int×Bool×Int×Int×Int×(List Entry)×(List Int)×Int×(List Int)×(List Int)×(List Int)×Int×Int×Int×Bool:=
 (i,A.Id,A.Term,A.Vote,A.Log,A.Start,A.Role,A.Votes,A.Next,A.Match,A.Commit,A.Elapsed,A.Wait,A.Up,B.Id,B.Term,B.Vote,B.Log,B.Start,B.Role,B.Votes,B.Next,B.Match,B.Commit,B.Elapsed,B.Wait,B.Up)
theorem logsL {N:Nat} (hN:Big N) (a0 a1:List Int) (A B:Node) (hA:A.Log.length≤60) (hB:B.Log.length≤60) (h:∀k,k<A.Log.length→k<B.Log.length→(ex A.Log k).Term=(ex B.Log k).Term→agree A.Log B.Log (k+1)) (i:Int) (h0 : -1≤i) (h1:i<A.Log.length) (h2:i<B.Log.length):laws_FnLogs.lp11 N a0 a1 (two A B i)=some true:=by
 unfold laws_FnLogs.lp11
 refine miter_all (p:=fun r=>r=some true) (fun v=>(v.1+1).toNat) (fun v=>∃i:Int,v=two A B i∧-1≤i∧i<A.Log.length∧i<B.Log.length) ?_ N _ ⟨i,rfl,h0,h1,h2⟩ (by show (i+1).toNat<N;omega)
 rintro v ⟨i,rfl,h0,h1,h2⟩ rec hrec
 simp only [laws_FnLogs.step11,two]
 by_cases hi:i≥0
 ·have hk1:i.toNat<A.Log.length:=by omega
  have hk2:i.toNat<B.Log.length:=by omega
  rw [dT hi,dT h1,dT h2]
  simp only [cond_true]
  have hh:=h i.toNat hk1 hk2
  unfold ex at hh
  cases ht:(A.Log.getD i.toNat Entry.dz).Term==(B.Log.getD i.toNat Entry.dz).Term with
  | true=>
   have ag:=hh (beq_iff_eq.1 ht)
   rw [cond_true,w_small (x:=i+1) (by omega) (by omega),decide_eq_true (show 0≤i+1 by omega),decide_eq_true (show i+1≤((A.Log.length:Nat):Int) by omega),decide_eq_true (show i+1≤((B.Log.length:Nat):Int) by omega)]
   simp only [cond_true]
   rw [show (i+1).toNat=i.toNat+1 by omega,ag.2.2,sameEnt hN _ (by rw [List.length_take];omega)]
   rfl
  | false=>
   rw [cond_false,w_small (x:=i - 1) (by omega) (by omega)]
   exact hrec _ ⟨i - 1,rfl,by omega,by omega,by omega⟩ (by show (i - 1+1).toNat<(i+1).toNat;omega)
 ·rw [dF hi];rfl
theorem pureFnLogs (a0 a1:List Int) (h0:∃n,WfE E (WfA E n) (.slice 5 (.int .u8)) a0) (h1:∃n,WfE E (WfA E n) (.slice 5 (.int .u8)) a1):∃N,laws_FnLogs.m N a0 a1=some true:=by
 refine ⟨16777216,?_⟩
 have hN:Big 16777216:=Nat.le_refl _
 have b0:=wfBytesR h0
 have b1:=wfBytesR h1
 unfold laws_FnLogs.m laws_FnLogs.m0
 by_cases l0:a0.length > 1048576
 ·rw [decide_eq_true (show (a0.length:Int) > 1048576 by omega)];rfl
 rw [decide_eq_false (show ¬ (a0.length:Int) > 1048576 by omega),cond_false]
 by_cases l1:a1.length > 1048576
 ·rw [decide_eq_true (show (a1.length:Int) > 1048576 by omega)];rfl
 rw [decide_eq_false (show ¬ (a1.length:Int) > 1048576 by omega)]
 simp only [cond_false]
 obtain ⟨k',e2,k0,k1⟩:=lawsAt 16777216 a1 0 4 (by omega) b1 (by omega) (by omega) (by omega) (by omega)
 obtain ⟨k,rfl⟩:=Int.eq_ofNat_of_zero_le k0
 have hw:w64 ((2:Int)+(k:Int))=((2+k:Nat):Int):=by rw [w_small (by omega) (by omega)];omega
 rw [e2,ob_some,hw]
 generalize hn:2+k=n
 have n2:2≤n:=by omega
 have n5:n≤5:=by omega
 obtain ⟨acts,e3,al,aa⟩:=actsOf hN a0 (by omega) b0 (n:=(n:Int)) (by omega) (by omega)
 obtain ⟨g,codes,gh,e4,I,gn⟩:=groupRunQ hN n2 n5 acts al aa
 rw [e3,ob_some,e4,ob_some,logsQ hN g I.gz,I.grp,I.pairs]
 obtain ⟨x',e5,x0,x1⟩:=lawsAt 16777216 a1 1 (n:Int) (by omega) b1 (by omega) (by omega) (by omega) (by omega)
 obtain ⟨x,rfl⟩:=Int.eq_ofNat_of_zero_le x0
 obtain ⟨y',e6,y0,y1⟩:=lawsAt 16777216 a1 2 (n:Int) (by omega) b1 (by omega) (by omega) (by omega) (by omega)
 obtain ⟨y,rfl⟩:=Int.eq_ofNat_of_zero_le y0
 simp only [cond_true,cond_false,ob_some,show ((0:Int) != 0)=false from rfl,Bool.not_true,e5,e6,Int.toNat_natCast]
 have hx:x<g.Nodes.length:=by omega
 have hy:y<g.Nodes.length:=by omega
 rw [show decide ((0:Int)≤((x:Nat):Int))=true from nn_dec x,show decide (((x:Nat):Int)<(g.Nodes.length:Int))=true from lt_dec hx,show decide ((0:Int)≤((y:Nat):Int))=true from nn_dec y,show decide (((y:Nat):Int)<(g.Nodes.length:Int))=true from lt_dec hy]
 simp only [cond_true]
 have lx:=(I.at (v:=(x:Int)) (by omega) (by omega)).1.g.ll
 have ly:=(I.at (v:=(y:Int)) (by omega) (by omega)).1.g.ll
 rw [Int.toNat_natCast] at lx ly
 have hm:=fun k=>I.matches (k:=k) hx hy
 unfold nx at hm
 generalize g.Nodes.getD x Node.dz=A at lx hm
 generalize g.Nodes.getD y Node.dz=B at ly hm
 have ew:w64 ((if (B.Log.length:Int)<(A.Log.length:Int) then (B.Log.length:Int) else (A.Log.length:Int)) - 1)=(if (B.Log.length:Int)<(A.Log.length:Int) then (B.Log.length:Int) else (A.Log.length:Int)) - 1:=w_small (by split<;>omega) (by split<;>omega)
 rw [ew]
 exact logsL hN a0 a1 A B lx ly hm _ (by split<;>omega) (by split<;>omega) (by split<;>omega)
end Mir.Y
