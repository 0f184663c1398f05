/- NodeTick. -/
import Derived.Test.YtbbkpgpfppnakaaGreatJTNT1
namespace Mir.Y
set_option linter.unusedVariables false
set_option linter.unusedSimpArgs false
open Go
def te (x:Node):Int:=if x.Elapsed+1<1000 then x.Elapsed+1 else 1000
end Mir.Y
