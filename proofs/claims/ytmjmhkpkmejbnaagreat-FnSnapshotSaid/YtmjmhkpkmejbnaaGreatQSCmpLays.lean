/- The shelf's table of numbers for strings.Compare at this program. -/
import Derived.Shelf.Small.Strs
import Derived.Test.YtmjmhkpkmejbnaaGreatProg
import Derived.KernelRfl
namespace Go.Proofs
open Go.Shelf Go.RowKit
def Tryz.cmpRen:Go.Shelf.Ren:=⟨fun
 | 106=>139
 | 213=>154
 | 265=>165
 | _=>0,fun
 | 3=>3
 | 9=>9
 | _=>0,fun x=>x⟩
theorem Tryz.cmpLays:Lays.n106 Tryz.prog Tryz.cmpRen where
 mixed:=by kernel_rfl
 f106:=by kernel_rfl
 f213:=by kernel_rfl
 f265:=by kernel_rfl
 t3:=Tryz.underlying3
 a3:=Tryz.isAgg3
 z3:=Tryz.sizeOf3
 v3:=Tryz.zeroValue3
 t9:=Tryz.underlying9
 a9:=Tryz.isAgg9
 z9:=Tryz.sizeOf9
 v9:=Tryz.zeroValue9
end Go.Proofs
