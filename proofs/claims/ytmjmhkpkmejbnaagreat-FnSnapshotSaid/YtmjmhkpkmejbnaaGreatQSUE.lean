/- Pure laws: the keys that are drawn have hashes of their own. -/
import Derived.Test.YtmjmhkpkmejbnaaGreatQSUA
namespace Mir.Y
set_option linter.unusedVariables false
set_option linter.unusedSimpArgs false
open Go
set_option linter.unusedSectionVars false
variable [UU]
def hk3 (s:ByteArray):Nat:=byN (hb s) 0 * 65536+byN (hb s) 1 * 256+byN (hb s) 2
theorem hk_0:hk3 ⟨#[97]⟩=13277057:=by kernel_rfl
theorem hk_3:hk3 ⟨#[98]⟩=4072424:=by kernel_rfl
theorem hk_6:hk3 ⟨#[99]⟩=3046700:=by kernel_rfl
theorem hk_18:hk3 ⟨#[97,108,112,104,97]⟩=9360374:=by kernel_rfl
theorem hk_21:hk3 ⟨#[98,101,116,97]⟩=16010852:=by kernel_rfl
def KS:List ByteArray:=[⟨#[97]⟩,⟨#[98]⟩,⟨#[99]⟩,⟨#[97,108,112,104,97]⟩,⟨#[98,101,116,97]⟩]
def KSn:List Nat:=[13277057,4072424,3046700,9360374,16010852]
theorem ks_map:KS.map hk3=KSn:=by
 simp only [KS,KSn,List.map_cons,List.map_nil,hk_0,hk_3,hk_6,hk_18,hk_21]
theorem ks_nodup:KSn.Nodup:=by decide
theorem nodup_inj {α β:Type} {f:α→β}:∀ {l:List α},(l.map f).Nodup→∀ {a b:α},a∈l→b∈l→f a=f b→a=b
 | [],_,_,_,h,_,_=>by cases h
 | x::l,hn,a,b,ha,hb',e=>by
  rw [List.map_cons,List.nodup_cons] at hn
  rcases List.mem_cons.1 ha with ha1 | ha1
  ·rcases List.mem_cons.1 hb' with hb1 | hb1
   ·rw [ha1,hb1]
   ·exact absurd (by rw [← ha1,e];exact List.mem_map_of_mem hb1) hn.1
  ·rcases List.mem_cons.1 hb' with hb1 | hb1
   ·exact absurd (by rw [← hb1,← e];exact List.mem_map_of_mem ha1) hn.1
   ·exact nodup_inj hn.2 ha1 hb1 e
theorem noCol {a b:ByteArray} (ha:a∈KS) (hb':b∈KS) (h:hb a=hb b):a=b:=
 nodup_inj (by rw [ks_map];exact ks_nodup) ha hb' (congrArg (fun s=>byN s 0 * 65536+byN s 1 * 256+byN s 2) h)
theorem ks_size:∀k∈KS,1≤k.size∧k.size≤24:=by
 have:(KS.all fun k=>decide (1≤k.size)&&decide (k.size≤24))=true:=by kernel_rfl
 intro k hk
 have:=List.all_eq_true.1 this k hk
 simpa using this
end Mir.Y
