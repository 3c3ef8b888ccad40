/- Walks over lists: how they end. -/
import Derived.Test.YtihmmpaalpghbaaGreatDoorAvLa
set_option linter.unusedSimpArgs false
set_option linter.unusedVariables false
namespace Go.Av
open Go
set_option linter.unusedSectionVars false
variable [Globs]

end Go.Av

