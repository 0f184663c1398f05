/- Commands that are drawn, their bytes and leaves. -/
import Derived.Test.YtmjmhkpkmejbnaaGreatQSY1
namespace Mir.Y
set_option linter.unusedVariables false
set_option linter.unusedSimpArgs false
open Go
set_option linter.unusedSectionVars false
variable [UU]
structure CmdOK (c:Command):Prop where
 se:0≤c.Session∧c.Session≤65535
 sq:0≤c.Seq∧c.Seq≤65535
 vl:c.Value.size≤60
 cs:((c.Kind=1∨c.Kind=2∨(c.Kind=3∧c.Value=ByteArray.empty))∧c.Key∈KS∧1≤c.Seq)∨((c.Kind=4∨c.Kind=5)∧c.Key=ByteArray.empty∧c.Value=ByteArray.empty∧c.Seq=0)
theorem CmdOK.key {c:Command} (h:CmdOK c):c.Key.size≤24:=by
 rcases h.cs with ⟨_,hk,_⟩ | ⟨_,hk,_⟩
 ·exact (ks_size _ hk).2
 ·rw [hk];decide
theorem inB_y {a lo hi:Int} (h1:lo≤a) (h2:a≤hi):inB a lo hi=true:=by simp [inB,h1,h2]
theorem keyS1 (N:Nat) {k:ByteArray} (hk:k∈KS):spec_l02Key.m N k=some true∧impl_isKey.m N k=some true:=(keyOK (ks_size k hk) N).symm
theorem valI (N:Nat) (v:ByteArray):impl_isValue.m N v=some (decide ((v.size:Int)≤60)):=rfl
theorem cmdS (N:Nat) {c:Command} (h:CmdOK c):spec_CommandOK.m N c=some true:=by
 unfold spec_CommandOK.m
 rw [l01In,ob_some,inB_y h.se.1 h.se.2,l01In,ob_some,inB_y h.sq.1 h.sq.2,decide_eq_false (show ¬ ((c.Value.size:Int) > 60) by have:=h.vl;omega)]
 rcases h.cs with ⟨hk | hk | ⟨hk,hv⟩,hK,_⟩ | ⟨hk | hk,hK,hv,hs⟩
 ·rw [hk,(keyS1 N hK).1];rfl
 ·rw [hk,(keyS1 N hK).1];rfl
 ·rw [hk,(keyS1 N hK).1,hv,seq_self];rfl
 ·rw [hk,hK,hv,hs,seq_self];rfl
 ·rw [hk,hK,hv,hs,seq_self];rfl
theorem cmdI (N:Nat) {c:Command} (h:CmdOK c):impl_CommandOK.m N c=some true:=by
 unfold impl_CommandOK.m
 rw [shortI,ob_some,inB_y h.se.1 h.se.2,shortI,ob_some,inB_y h.sq.1 h.sq.2,valI,ob_some,decide_eq_true (show ((c.Value.size:Int)≤60) by have:=h.vl;omega)]
 rcases h.cs with ⟨hk | hk | ⟨hk,hv⟩,hK,_⟩ | ⟨hk | hk,hK,hv,hs⟩
 ·rw [hk,(keyS1 N hK).2];rfl
 ·rw [hk,(keyS1 N hK).2];rfl
 ·rw [hk,(keyS1 N hK).2,hv,seq_self];rfl
 ·rw [hk,hK,hv,hs,seq_self];rfl
 ·rw [hk,hK,hv,hs,seq_self];rfl
def cb (c:Command):List Int:=((((([wu8 c.Kind]++[wu8 (f8 c.Session),wu8 c.Session])++[wu8 (f8 c.Seq),wu8 c.Seq])++[wu8 (c.Key.size:Int)])++bytesOf c.Key)++[wu8 (c.Value.size:Int)])++bytesOf c.Value
theorem cb_len {c:Command} (h:CmdOK c):(cb c).length≤100:=by
 have h1:=h.key;have h2:=h.vl
 simp only [cb,List.length_append,List.length_cons,List.length_nil,bytesOf_length];omega
theorem isBy_app {a b:List Int} (ha:isBy a) (hb':isBy b):isBy (a++b):=fun x hx=>(List.mem_append.1 hx).elim (ha x) (hb' x)
theorem cb_by (c:Command):isBy (cb c):=by
 have w1:∀x:Int,isBy [wu8 x]:=fun x y hy=>by rw [List.mem_singleton] at hy;rw [hy];exact wu8_range x
 have w2:∀x y:Int,isBy [wu8 x,wu8 y]:=fun x y=>isBy_app (w1 x) (w1 y)
 exact isBy_app (isBy_app (isBy_app (isBy_app (isBy_app (isBy_app (w1 _) (w2 _ _)) (w2 _ _)) (w1 _)) (bytesOf_by _)) (w1 _)) (bytesOf_by _)
theorem cbS {N:Nat} {c:Command} (h:CmdOK c):spec_l02Bytes.m N c=some (cb c):=by
 have h1:=h.key;have h2:=h.vl
 unfold spec_l02Bytes.m
 rw [twoS N _ h.se.1 h.se.2,ob_some,twoS N _ h.sq.1 h.sq.2]
 simp only [ob_some]
 rw [roomT (by simp),roomT (by simp),roomT (by simp),roomT (by simp [bytesOf_length];omega),roomT (by simp [bytesOf_length];omega),roomT (by simp [bytesOf_length];omega)]
 rfl
theorem cbI {N:Nat} (hN:Big N) {c:Command} (h:CmdOK c):impl_Command_bytes.m N c=some (strOf (cb c)):=by
 have h1:=h.key;have h2:=h.vl
 unfold impl_Command_bytes.m
 rw [number1 hN,ob_some,number2 hN,ob_some,number2 hN,countedI hN _ (by omega),countedI hN _ (by omega)]
 simp only [ob_some]
 rw [capQ (by simp [strOf_size]),capQ (by simp [strOf_size]),capQ (by simp [strOf_size,bytesOf_length];omega),capQ (by simp [strOf_size,bytesOf_length];omega)]
 simp only [cond_true]
 rw [strOf_append,strOf_append,strOf_append,strOf_append]
 simp only [cb,List.append_assoc]
def cl (c:Command):ByteArray:=hb (strOf (0::cb c))
theorem cl_size (c:Command):(cl c).size=32:=hb_size _
theorem leafS1 {N:Nat} (hN:Big N) {c:Command} (h:CmdOK c):spec_l06Leaf.m N (strOf (cb c))=some (cl c):=by
 unfold spec_l06Leaf.m
 have hl:=cb_len h
 rw [strOf_bytes _ (cb_by c),roomT (by simp;omega),cond_true]
 have e:[(0:Int)]++cb c=bytesOf (strOf (0::cb c)):=(strOf_bytes _ (isBy_app (a:=[0]) (fun x hx=>by rw [List.mem_singleton] at hx;rw [hx];omega) (cb_by c))).symm
 rw [e,specHash hN _ (by rw [strOf_size];simp;omega)];rfl
theorem leafI1 {N:Nat} (hN:Big N) {c:Command} (h:CmdOK c):impl_leafHash.m N (strOf (cb c))=some (cl c):=by
 unfold impl_leafHash.m
 have hl:=cb_len h
 have e:(⟨#[0]⟩:ByteArray)++strOf (cb c)=strOf (0::cb c):=(strOf_append [0] (cb c))
 rw [capQ (by rw [sz1,strOf_size];omega),cond_true,e,implHash hN _ (by rw [strOf_size];simp;omega)];rfl
theorem key5:∀n,n<5→([(⟨#[97]⟩:ByteArray),(⟨#[98]⟩:ByteArray),(⟨#[99]⟩:ByteArray),(⟨#[97,108,112,104,97]⟩:ByteArray),(⟨#[98,101,116,97]⟩:ByteArray)]:List ByteArray).getD n ByteArray.empty∈KS:=by
 intro n hn
 rcases (show n=0∨n=1∨n=2∨n=3∨n=4 by omega) with rfl | rfl | rfl | rfl | rfl<;>simp [KS]
theorem keyS (N:Nat) {s:l00Src} {t:Nat} (h:SrcOK s t) (ht:t≤3999990):∃k q,k∈KS∧spec_l00Src_key.m N s=some (k,q)∧SrcOK q (t+1):=by
 obtain ⟨n,q,hn,e,hq⟩:=pickG N h (by omega) [(⟨#[97]⟩:ByteArray),(⟨#[98]⟩:ByteArray),(⟨#[99]⟩:ByteArray),(⟨#[97,108,112,104,97]⟩:ByteArray),(⟨#[98,101,116,97]⟩:ByteArray)] (by decide) (by decide)
 refine ⟨_,q,key5 n hn,?_,hq⟩
 show ob (spec_l00Src_pick_.m N s [(⟨#[97]⟩:ByteArray),(⟨#[98]⟩:ByteArray),(⟨#[99]⟩:ByteArray),(⟨#[97,108,112,104,97]⟩:ByteArray),(⟨#[98,101,116,97]⟩:ByteArray)]) (fun y2=>some (y2.1,y2.2))=_
 rw [e];rfl
theorem kind5 (n:Nat) (hn:n<5):([(1:Int),(1:Int),(2:Int),(2:Int),(3:Int)].getD n 0=1∨[(1:Int),(1:Int),(2:Int),(2:Int),(3:Int)].getD n 0=2∨[(1:Int),(1:Int),(2:Int),(2:Int),(3:Int)].getD n 0=3):=by
 rcases (show n=0∨n=1∨n=2∨n=3∨n=4 by omega) with rfl | rfl | rfl | rfl | rfl<;>simp
theorem sesCmd (a b:Int) (ha:0≤a∧a<2) (hb':0≤b∧b<3):CmdOK (Command.mk (w64 (4+a)) (w64 (1+b)) 0 ByteArray.empty ByteArray.empty):=by
 rw [w_small (by omega) (by omega),w_small (by omega) (by omega)]
 refine ⟨⟨by show 0≤1+b;omega,by show 1+b≤65535;omega⟩,⟨Int.le_refl _,by show (0:Int)≤65535;omega⟩,by show ByteArray.empty.size≤60;decide,.inr ⟨?_,rfl,rfl,rfl⟩⟩
 show 4+a=4∨4+a=5
 omega
theorem commandS (N:Nat) {s:l00Src} {t:Nat} (h:SrcOK s t) (ht:t≤3999000):∃c q u,spec_l00Src_command.m N s=some (c,q)∧CmdOK c∧SrcOK q u∧u≤t+8:=by
 obtain ⟨b1,q1,e1,l1,r1,h1⟩:=nextS N h (by omega) (show (1:Int)<5 by omega) (by omega)
 obtain ⟨b2,q2,e2,l2,r2,h2⟩:=nextS N h1 (by omega) (show (1:Int)<3 by omega) (by omega)
 obtain ⟨b3,q3,e3,l3,r3,h3⟩:=nextS N h2 (by omega) (show (1:Int)<5 by omega) (by omega)
 obtain ⟨k,q4,hk,e4,h4⟩:=keyS N h3 (by omega)
 obtain ⟨d,q5,hd,e5,h5⟩:=datumS N h4 (by omega)
 obtain ⟨c,q6,e6,h6⟩:=chanceS N h5 (by omega) (show (1:Int)<4 by omega) (by omega)
 obtain ⟨b7,q7,e7,l7,r7,h7⟩:=nextS N h6 (by omega) (show (1:Int)<2 by omega) (by omega)
 obtain ⟨b8,q8,e8,l8,r8,h8⟩:=nextS N h7 (by omega) (show (1:Int)<3 by omega) (by omega)
 obtain ⟨n,rfl⟩:=Int.eq_ofNat_of_zero_le l1
 have hn:n<5:=by omega
 unfold spec_l00Src_command.m
 rw [e1,ob_some,show decide ((0:Int)≤((n:Nat):Int))=true from nn_dec n,cond_true]
 rw [show decide (((n:Nat):Int)<(([(1:Int),(1:Int),(2:Int),(2:Int),(3:Int)]).length:Int))=true from decide_eq_true (by simp;omega),cond_true]
 simp only [Int.toNat_natCast]
 rw [e2,ob_some,e3,ob_some,e4,ob_some,e5,ob_some,e6,ob_some,ob_some,e7,ob_some,e8,ob_some]
 have hses:=sesCmd b7 b8 ⟨l7,r7⟩ ⟨l8,r8⟩
 have w2:w64 ((1:Int)+b2)=1+b2:=w_small (by omega) (by omega)
 have w3:w64 ((1:Int)+b3)=1+b3:=w_small (by omega) (by omega)
 rcases kind5 n hn with e | e | e
 ·rw [e,show ((1:Int)==3)=false from rfl,cond_false]
  cases c with
  | true=>exact ⟨_,_,_,rfl,hses,h8,by omega⟩
  | false=>exact ⟨_,_,_,rfl,⟨⟨by simp only [w2];omega,by simp only [w2];omega⟩,⟨by simp only [w3];omega,by simp only [w3];omega⟩,hd,.inl ⟨.inl rfl,hk,by simp only [w3];omega⟩⟩,h6,by omega⟩
 ·rw [e,show ((2:Int)==3)=false from rfl,cond_false]
  cases c with
  | true=>exact ⟨_,_,_,rfl,hses,h8,by omega⟩
  | false=>exact ⟨_,_,_,rfl,⟨⟨by simp only [w2];omega,by simp only [w2];omega⟩,⟨by simp only [w3];omega,by simp only [w3];omega⟩,hd,.inl ⟨.inr (.inl rfl),hk,by simp only [w3];omega⟩⟩,h6,by omega⟩
 ·rw [e,show ((3:Int)==3)=true from rfl,cond_true]
  cases c with
  | true=>exact ⟨_,_,_,rfl,hses,h8,by omega⟩
  | false=>exact ⟨_,_,_,rfl,⟨⟨by simp only [w2];omega,by simp only [w2];omega⟩,⟨by simp only [w3];omega,by simp only [w3];omega⟩,by show ByteArray.empty.size≤60;decide,.inl ⟨.inr (.inr ⟨rfl,rfl⟩),hk,by simp only [w3];omega⟩⟩,h6,by omega⟩
theorem commandsL (N:Nat) (a0:l00Src):∀(i K:Nat) (q:l00Src) (t:Nat) (l:List Command),i<K→i≤30→SrcOK q t→t+8 * i≤3999000→l.length+i≤60→(∀c∈l,CmdOK c)→
  ∃l' q',miter (fun rec=>spec_l00Src_commands.step3 N a0 rec) K ((i:Int),q.code,q.at,q.seed,l)=some (l',q')∧l'.length≤l.length+i∧l.length≤l'.length∧∀c∈l',CmdOK c
 | 0,K+1,q,t,l,_,_,hq,_,_,hl=>by
  refine ⟨l,q,?_,by omega,by omega,hl⟩
  rw [miter_s]
  simp only [spec_l00Src_commands.step3]
  rfl
 | i+1,K+1,q,t,l,hK,hi,hq,ht,hl,ha=>by
  rw [miter_s]
  simp only [spec_l00Src_commands.step3]
  rw [decide_eq_true (show ((i+1:Nat):Int) > 0 by omega),cond_true,decide_eq_true (show ((l.length:Nat):Int)<100 by omega)]
  obtain ⟨c,q',u,e,hc,hq',hu⟩:=commandS N hq (by omega)
  have e:spec_l00Src_command.m N (l00Src.mk q.code q.at q.seed)=some (c,q'):=e
  simp only [cond_true]
  rw [e,ob_some,roomB (show l.length+([c]:List Command).length≤1048576 by simp;omega) (by omega),cond_true,show w64 (((i+1:Nat):Int) - 1)=(i:Int) from w_dn (i+1) (by omega) (by omega)]
  obtain ⟨l',q2,r1,r2,r3,r4⟩:=commandsL N a0 i K q' u (l++[c]) (by omega) (by omega) hq' (by omega) (by simp;omega) (fun x hx=>by
   rcases List.mem_append.1 hx with hx | hx
   ·exact ha x hx
   ·rw [List.mem_singleton] at hx;rw [hx];exact hc)
  simp only [List.length_append,List.length_cons,List.length_nil] at r2 r3
  exact ⟨l',q2,r1,by omega,by omega,r4⟩
theorem commandsS {N:Nat} (hN:Big N) (a:List Int) (hl:a.length≤1048576) (hb':∀x∈a,0≤x∧x<256):∃l,spec_CommandsOf.m N a=some l∧2≤l.length∧l.length≤26∧∀c∈l,CmdOK c:=by
 have h0:=srcNew (a:=a) (by omega) hb'
 unfold spec_CommandsOf.m spec_l00Src_commands.m spec_l00Src_commands.m0
 rw [srcS,ob_some]
 obtain ⟨z,e1,z1,z2⟩:=sizeS N h0 (show (1:Int)≤20 by omega) (by omega)
 rw [e1,ob_some,w_small (show -1048576≤z+4 by omega) (by omega)]
 obtain ⟨b,q,e2,b0,b1,hq⟩:=nextS N h0 (by omega) (show (1:Int)<z+4 by omega) (by omega)
 rw [e2,ob_some]
 obtain ⟨n,rfl⟩:=Int.eq_ofNat_of_zero_le b0
 have hn:n≤23:=by omega
 obtain ⟨l,q',r1,r2,r3,r4⟩:=commandsL N (l00Src.mk a 0 (Int.tmod (a.length:Int) 1000)) n N q 1 [Command.mk 4 1 0 ByteArray.empty ByteArray.empty,Command.mk 4 2 0 ByteArray.empty ByteArray.empty] (by omega) (by omega) hq (by omega) (by simp;omega) (fun x hx=>by
  rcases List.mem_cons.1 hx with rfl | hx
  ·exact sesCmd 0 0 (by omega) (by omega)
  ·rw [List.mem_singleton] at hx;rw [hx];exact sesCmd 0 1 (by omega) (by omega))
 simp only [List.length_cons,List.length_nil] at r2 r3
 have r1:spec_l00Src_commands.lp3 N (l00Src.mk a 0 (Int.tmod (a.length:Int) 1000)) ((n:Int),q.code,q.at,q.seed,[Command.mk 4 1 0 ByteArray.empty ByteArray.empty,Command.mk 4 2 0 ByteArray.empty ByteArray.empty])=some (l,q'):=r1
 exact ⟨l,congrArg (fun o=>ob o fun y2=>some y2.1) r1,by omega,by omega,r4⟩
theorem commandOfS {N:Nat} (a:List Int) (hl:a.length≤1048576) (hb':∀x∈a,0≤x∧x<256):∃c,spec_CommandOf.m N a=some c∧CmdOK c:=by
 have h0:=srcNew (a:=a) (by omega) hb'
 obtain ⟨c,q,u,e,hc,_⟩:=commandS N h0 (by omega)
 unfold spec_CommandOf.m
 rw [srcS,ob_some,e]
 exact ⟨c,rfl,hc⟩
end Mir.Y
