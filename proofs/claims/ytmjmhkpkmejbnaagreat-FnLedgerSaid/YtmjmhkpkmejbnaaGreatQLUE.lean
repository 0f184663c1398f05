/- Pure laws: the keys that are drawn have hashes of their own. -/
import Derived.Test.YtmjmhkpkmejbnaaGreatQLUA
namespace Mir.Y
set_option linter.unusedVariables false
set_option linter.unusedSimpArgs false
open Go
set_option linter.unusedSectionVars false
variable [UU]
def hk3 (s:ByteArray):Nat:=byN (hb s) 0 * 65536+byN (hb s) 1 * 256+byN (hb s) 2
theorem hk_0:hk3 ⟨#[97]⟩=13277057:=by kernel_rfl
theorem hk_1:hk3 ⟨#[97,49]⟩=16080881:=by kernel_rfl
theorem hk_2:hk3 ⟨#[97,50]⟩=2898498:=by kernel_rfl
theorem hk_3:hk3 ⟨#[98]⟩=4072424:=by kernel_rfl
theorem hk_4:hk3 ⟨#[98,49]⟩=8243567:=by kernel_rfl
theorem hk_5:hk3 ⟨#[98,50]⟩=4723929:=by kernel_rfl
theorem hk_6:hk3 ⟨#[99]⟩=3046700:=by kernel_rfl
theorem hk_7:hk3 ⟨#[99,49]⟩=13694513:=by kernel_rfl
theorem hk_8:hk3 ⟨#[99,50]⟩=10226366:=by kernel_rfl
theorem hk_9:hk3 ⟨#[100]⟩=1616958:=by kernel_rfl
theorem hk_10:hk3 ⟨#[100,49]⟩=9130851:=by kernel_rfl
theorem hk_11:hk3 ⟨#[100,50]⟩=15173648:=by kernel_rfl
theorem hk_12:hk3 ⟨#[101]⟩=4159931:=by kernel_rfl
theorem hk_13:hk3 ⟨#[101,49]⟩=9133252:=by kernel_rfl
theorem hk_14:hk3 ⟨#[101,50]⟩=11276041:=by kernel_rfl
theorem hk_15:hk3 ⟨#[102]⟩=2436880:=by kernel_rfl
theorem hk_16:hk3 ⟨#[102,49]⟩=4149836:=by kernel_rfl
theorem hk_17:hk3 ⟨#[102,50]⟩=14986062:=by kernel_rfl
theorem hk_18:hk3 ⟨#[97,108,112,104,97]⟩=9360374:=by kernel_rfl
theorem hk_19:hk3 ⟨#[97,108,112,104,97,49]⟩=11684247:=by kernel_rfl
theorem hk_20:hk3 ⟨#[97,108,112,104,97,50]⟩=755664:=by kernel_rfl
theorem hk_21:hk3 ⟨#[98,101,116,97]⟩=16010852:=by kernel_rfl
theorem hk_22:hk3 ⟨#[98,101,116,97,49]⟩=12253316:=by kernel_rfl
theorem hk_23:hk3 ⟨#[98,101,116,97,50]⟩=8934567:=by kernel_rfl
theorem hk_24:hk3 ⟨#[107,48]⟩=13739436:=by kernel_rfl
theorem hk_25:hk3 ⟨#[107,49]⟩=6994417:=by kernel_rfl
theorem hk_26:hk3 ⟨#[107,50]⟩=89982:=by kernel_rfl
theorem hk_27:hk3 ⟨#[107,51]⟩=3100754:=by kernel_rfl
theorem hk_28:hk3 ⟨#[107,52]⟩=9701661:=by kernel_rfl
theorem hk_29:hk3 ⟨#[107,53]⟩=8969206:=by kernel_rfl
theorem hk_30:hk3 ⟨#[107,54]⟩=1938093:=by kernel_rfl
theorem hk_31:hk3 ⟨#[107,55]⟩=16483468:=by kernel_rfl
theorem hk_32:hk3 ⟨#[107,56]⟩=5914104:=by kernel_rfl
theorem hk_33:hk3 ⟨#[107,57]⟩=12830748:=by kernel_rfl
theorem hk_34:hk3 ⟨#[107,49,48]⟩=4908095:=by kernel_rfl
theorem hk_35:hk3 ⟨#[107,49,49]⟩=1279853:=by kernel_rfl
theorem hk_36:hk3 ⟨#[107,49,50]⟩=5824655:=by kernel_rfl
theorem hk_37:hk3 ⟨#[107,49,51]⟩=6780137:=by kernel_rfl
theorem hk_38:hk3 ⟨#[107,49,52]⟩=3837182:=by kernel_rfl
theorem hk_39:hk3 ⟨#[107,49,53]⟩=6018250:=by kernel_rfl
theorem hk_40:hk3 ⟨#[107,49,54]⟩=9267398:=by kernel_rfl
theorem hk_41:hk3 ⟨#[107,49,55]⟩=7096257:=by kernel_rfl
theorem hk_42:hk3 ⟨#[107,49,56]⟩=3550903:=by kernel_rfl
theorem hk_43:hk3 ⟨#[107,49,57]⟩=2093430:=by kernel_rfl
theorem hk_44:hk3 ⟨#[107,50,48]⟩=13330320:=by kernel_rfl
theorem hk_45:hk3 ⟨#[107,50,49]⟩=14098211:=by kernel_rfl
theorem hk_46:hk3 ⟨#[107,50,50]⟩=4401966:=by kernel_rfl
theorem hk_47:hk3 ⟨#[107,50,51]⟩=16158513:=by kernel_rfl
theorem hk_48:hk3 ⟨#[107,50,52]⟩=5376818:=by kernel_rfl
theorem hk_49:hk3 ⟨#[107,50,53]⟩=6557091:=by kernel_rfl
theorem hk_50:hk3 ⟨#[107,50,54]⟩=11335355:=by kernel_rfl
theorem hk_51:hk3 ⟨#[107,50,55]⟩=12781104:=by kernel_rfl
theorem hk_52:hk3 ⟨#[107,50,56]⟩=10230289:=by kernel_rfl
theorem hk_53:hk3 ⟨#[107,50,57]⟩=9896482:=by kernel_rfl
theorem hk_54:hk3 ⟨#[107,51,48]⟩=316660:=by kernel_rfl
theorem hk_55:hk3 ⟨#[107,51,49]⟩=2874024:=by kernel_rfl
theorem hk_56:hk3 ⟨#[107,51,50]⟩=5066208:=by kernel_rfl
theorem hk_57:hk3 ⟨#[107,51,51]⟩=16558136:=by kernel_rfl
theorem hk_58:hk3 ⟨#[107,51,52]⟩=2129332:=by kernel_rfl
theorem hk_59:hk3 ⟨#[107,51,53]⟩=14503945:=by kernel_rfl
theorem hk_60:hk3 ⟨#[107,51,54]⟩=12099964:=by kernel_rfl
theorem hk_61:hk3 ⟨#[107,51,55]⟩=15539923:=by kernel_rfl
theorem hk_62:hk3 ⟨#[107,51,56]⟩=12381343:=by kernel_rfl
theorem hk_63:hk3 ⟨#[107,51,57]⟩=15834658:=by kernel_rfl
def KS:List ByteArray:=[⟨#[97]⟩,⟨#[97,49]⟩,⟨#[97,50]⟩,⟨#[98]⟩,⟨#[98,49]⟩,⟨#[98,50]⟩,⟨#[99]⟩,⟨#[99,49]⟩,⟨#[99,50]⟩,⟨#[100]⟩,⟨#[100,49]⟩,⟨#[100,50]⟩,⟨#[101]⟩,⟨#[101,49]⟩,⟨#[101,50]⟩,⟨#[102]⟩,⟨#[102,49]⟩,⟨#[102,50]⟩,⟨#[97,108,112,104,97]⟩,⟨#[97,108,112,104,97,49]⟩,⟨#[97,108,112,104,97,50]⟩,⟨#[98,101,116,97]⟩,⟨#[98,101,116,97,49]⟩,⟨#[98,101,116,97,50]⟩,⟨#[107,48]⟩,⟨#[107,49]⟩,⟨#[107,50]⟩,⟨#[107,51]⟩,⟨#[107,52]⟩,⟨#[107,53]⟩,⟨#[107,54]⟩,⟨#[107,55]⟩,⟨#[107,56]⟩,⟨#[107,57]⟩,⟨#[107,49,48]⟩,⟨#[107,49,49]⟩,⟨#[107,49,50]⟩,⟨#[107,49,51]⟩,⟨#[107,49,52]⟩,⟨#[107,49,53]⟩,⟨#[107,49,54]⟩,⟨#[107,49,55]⟩,⟨#[107,49,56]⟩,⟨#[107,49,57]⟩,⟨#[107,50,48]⟩,⟨#[107,50,49]⟩,⟨#[107,50,50]⟩,⟨#[107,50,51]⟩,⟨#[107,50,52]⟩,⟨#[107,50,53]⟩,⟨#[107,50,54]⟩,⟨#[107,50,55]⟩,⟨#[107,50,56]⟩,⟨#[107,50,57]⟩,⟨#[107,51,48]⟩,⟨#[107,51,49]⟩,⟨#[107,51,50]⟩,⟨#[107,51,51]⟩,⟨#[107,51,52]⟩,⟨#[107,51,53]⟩,⟨#[107,51,54]⟩,⟨#[107,51,55]⟩,⟨#[107,51,56]⟩,⟨#[107,51,57]⟩]
def KSn:List Nat:=[13277057,16080881,2898498,4072424,8243567,4723929,3046700,13694513,10226366,1616958,9130851,15173648,4159931,9133252,11276041,2436880,4149836,14986062,9360374,11684247,755664,16010852,12253316,8934567,13739436,6994417,89982,3100754,9701661,8969206,1938093,16483468,5914104,12830748,4908095,1279853,5824655,6780137,3837182,6018250,9267398,7096257,3550903,2093430,13330320,14098211,4401966,16158513,5376818,6557091,11335355,12781104,10230289,9896482,316660,2874024,5066208,16558136,2129332,14503945,12099964,15539923,12381343,15834658]
theorem ks_map:KS.map hk3=KSn:=by
  simp only [KS,KSn,List.map_cons,List.map_nil,hk_0,hk_1,hk_2,hk_3,hk_4,hk_5,hk_6,hk_7,hk_8,hk_9,hk_10,hk_11,hk_12,hk_13,hk_14,hk_15,hk_16,hk_17,hk_18,hk_19,hk_20,hk_21,hk_22,hk_23,hk_24,hk_25,hk_26,hk_27,hk_28,hk_29,hk_30,hk_31,hk_32,hk_33,hk_34,hk_35,hk_36,hk_37,hk_38,hk_39,hk_40,hk_41,hk_42,hk_43,hk_44,hk_45,hk_46,hk_47,hk_48,hk_49,hk_50,hk_51,hk_52,hk_53,hk_54,hk_55,hk_56,hk_57,hk_58,hk_59,hk_60,hk_61,hk_62,hk_63]
theorem ks_nodup:KSn.Nodup:=by decide
theorem nodup_inj {α β:Type} {f:α→β}:∀ {l:List α},(l.map f).Nodup→∀ {a b:α},a∈l→b∈l→f a=f b→a=b
  | [],_,_,_,h,_,_=>by cases h
  | x::l,hn,a,b,ha,hb',e=>by
    rw [List.map_cons,List.nodup_cons] at hn
    rcases List.mem_cons.1 ha with ha1 | ha1
    · rcases List.mem_cons.1 hb' with hb1 | hb1
      · rw [ha1,hb1]
      · exact absurd (by rw [← ha1,e];exact List.mem_map_of_mem hb1) hn.1
    · rcases List.mem_cons.1 hb' with hb1 | hb1
      · exact absurd (by rw [← hb1,← e];exact List.mem_map_of_mem ha1) hn.1
      · exact nodup_inj hn.2 ha1 hb1 e
theorem noCol {a b:ByteArray} (ha:a∈KS) (hb':b∈KS) (h:hb a=hb b):a=b:=
  nodup_inj (by rw [ks_map];exact ks_nodup) ha hb' (congrArg (fun s=>byN s 0 * 65536+byN s 1 * 256+byN s 2) h)
theorem ks_size:∀k∈KS,1≤k.size∧k.size≤24:=by
  have:(KS.all fun k=>decide (1≤k.size)&&decide (k.size≤24))=true:=by kernel_rfl
  intro k hk
  have:=List.all_eq_true.1 this k hk
  simpa using this
end Mir.Y
