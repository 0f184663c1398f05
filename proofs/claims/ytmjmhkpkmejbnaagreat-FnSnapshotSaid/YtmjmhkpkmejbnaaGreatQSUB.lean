/- Pure laws: maps and keys that are drawn. -/
import Derived.Test.YtmjmhkpkmejbnaaGreatQSUE
namespace Mir.Y
set_option linter.unusedVariables false
set_option linter.unusedSimpArgs false
open Go
set_option linter.unusedSectionVars false
variable [UU]
theorem pickG (N:Nat) {s:l00Src} {t:Nat} (h:SrcOK s t) (ht:t≤4000000) (l:List ByteArray) (h1:1<l.length) (h2:l.length≤256):∃n q,n<l.length∧spec_l00Src_pick_.m N s l=some (l.getD n ByteArray.empty,q)∧SrcOK q (t+1):=by
 obtain ⟨b,q,e,b0,b1,hq⟩:=nextS N h ht (show (1:Int)<(l.length:Int) by omega) (by omega)
 refine ⟨b.toNat,q,by omega,?_,hq⟩
 have hz:((l.length:Int)==0)=false:=by rw [beq_eq_false_iff_ne];omega
 unfold spec_l00Src_pick_.m
 rw [hz,cond_false,e,ob_some,decide_eq_true b0,cond_true,decide_eq_true b1,cond_true]
def dtL:List ByteArray:=[ByteArray.empty,(⟨#[49]⟩:ByteArray),(⟨#[50]⟩:ByteArray),(⟨#[120]⟩:ByteArray),(⟨#[108,111,110,103,101,114,32,118,97,108,117,101]⟩:ByteArray)]
theorem datumS (N:Nat) {s:l00Src} {t:Nat} (h:SrcOK s t) (ht:t≤3999990):∃d q,d.size≤60∧spec_l00Src_datum.m N s=some (d,q)∧SrcOK q (t+1):=by
 obtain ⟨n,q,n1,n2,n3⟩:=pickG N h (by omega) dtL (by decide) (by decide)
 refine ⟨dtL.getD n ByteArray.empty,q,?_,?_,n3⟩
 ·have:∀n,n<5→(dtL.getD n ByteArray.empty).size≤60:=by decide
  exact this n n1
 ·show ob (spec_l00Src_pick_.m N s dtL) (fun y2=>some (y2.1,y2.2))=_
  rw [n2,ob_some]
theorem chanceS (N:Nat) {s:l00Src} {t:Nat} (h:SrcOK s t) (ht:t≤3999990) {n:Int} (h1:1<n) (hn:n≤256):∃c q,spec_l00Src_chance.m N s n=some (c,q)∧SrcOK q (t+1):=by
 obtain ⟨b,q,e,b0,b1,hq⟩:=nextS N h (by omega) h1 hn
 unfold spec_l00Src_chance.m
 rw [e,ob_some]
 exact ⟨_,_,rfl,hq⟩
theorem sizeS (N:Nat) {s:l00Src} {t:Nat} (h:SrcOK s t) {n:Int} (h1:1≤n) (hn:n≤1000):∃z:Int,spec_l00Src_size_.m N s n=some z∧1≤z∧z≤n:=by
 unfold spec_l00Src_size_.m
 have hc:=h.len
 have e1:Int.tdiv (s.code.length:Int) 12=((s.code.length / 12:Nat):Int):=rfl
 have e2:w64 ((s.code.length / 12:Nat):Int)=((s.code.length / 12:Nat):Int):=w_small (by omega) (by omega)
 have e3:w64 (1+((s.code.length / 12:Nat):Int))=1+((s.code.length / 12:Nat):Int):=w_small (by omega) (by omega)
 rw [show (!decide ((12:Int)=0))=true from rfl,cond_true,e1,e2,e3]
 by_cases hc:n<1+((s.code.length / 12:Nat):Int)
 ·exact ⟨n,by simp only [if_pos hc],h1,Int.le_refl _⟩
 ·exact ⟨1+((s.code.length / 12:Nat):Int),by simp only [if_neg hc],by omega,by omega⟩
def inKS (L:List Branch):Prop:=∀l∈L,l.Key∈KS
theorem inKS.put {L L':List Branch} {x:Branch} (h:inKS L) (p:PutR L x L') (hx:x.Key∈KS):inKS L':=by
 intro l hl
 rcases p.mem l hl with rfl | hl
 ·exact hx
 ·exact h l hl
end Mir.Y
