/- The shelf's table of numbers for strings.Compare at this program. -/
import Derived.Shelf.Small.Strs
import Derived.Test.YtojpcjbdehoibaaProg
import Derived.KernelRfl
namespace Go.Proofs
open Go.Shelf Go.RowKit
def Try.cmpRen : Go.Shelf.Ren := ⟨fun
  | 106 => 157
  | 213 => 209
  | 265 => 241
  | _ => 0, fun
  | 3 => 3
  | 9 => 9
  | _ => 0, fun x => x⟩
theorem Try.cmpLays : Lays.n106 Try.prog Try.cmpRen where
  mixed := by kernel_rfl
  f106 := by kernel_rfl
  f213 := by kernel_rfl
  f265 := by kernel_rfl
  t3 := Try.underlying3
  a3 := Try.isAgg3
  z3 := Try.sizeOf3
  v3 := Try.zeroValue3
  t9 := Try.underlying9
  a9 := Try.isAgg9
  z9 := Try.sizeOf9
  v9 := Try.zeroValue9
end Go.Proofs
