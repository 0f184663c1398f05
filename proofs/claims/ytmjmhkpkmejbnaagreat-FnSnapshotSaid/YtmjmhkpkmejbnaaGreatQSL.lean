/- Pure laws: what the copying, comparing, marking functions compute. -/
import Derived.Test.YtmjmhkpkmejbnaaGreatQSM5
import Derived.Test.YtmjmhkpkmejbnaaGreatEngC
namespace Mir.Y
set_option linter.unusedVariables false
set_option linter.unusedSimpArgs false
open Go
set_option linter.unusedSectionVars false
variable [UU]
abbrev Big (N:Nat):Prop:=16777216≤N
theorem roomB {n b:Nat} (h:n≤1048576) (hb:b≤1024):room n b=true:=by
 have:=Nat.mul_le_mul h hb
 simp only [room,decide_eq_true_eq];omega
theorem lt_dec {i n:Nat} (h:i<n):decide ((i:Int)<(n:Int))=true:=decide_eq_true (by omega)
theorem nn_dec (i:Nat):decide (0≤(i:Int))=true:=decide_eq_true (by omega)
theorem ge_dec (n:Nat):decide ((n:Int)<(n:Int))=false:=decide_eq_false (by omega)
theorem size_append (a b:ByteArray):(a++b).size=a.size+b.size:=by simp
def inB (a lo hi:Int):Bool:=decide (a≥lo)&&decide (a≤hi)
theorem l01In (N:Nat) (a lo hi:Int):spec_l01In.m N a lo hi=some (inB a lo hi):=by
 unfold spec_l01In.m inB
 cases decide (a≥lo)<;>rfl
theorem within (N:Nat) (a lo hi:Int):impl_within.m N a lo hi=some (inB a lo hi):=by
 unfold impl_within.m inB
 cases decide (a≥lo)<;>rfl
def ix (a:List Int) (i:Nat):Int:=a.getD i 0
end Mir.Y
