/- Pure laws: marks of ledgers; SnapshotBytes. -/
import Derived.Test.YtmjmhkpkmejbnaaGreatQLTA
namespace Mir.Y
set_option linter.unusedVariables false
set_option linter.unusedSimpArgs false
open Go
set_option linter.unusedSectionVars false
variable [UU]
end Mir.Y
