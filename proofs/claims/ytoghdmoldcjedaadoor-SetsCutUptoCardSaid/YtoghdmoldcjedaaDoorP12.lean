/- Walks: may a prefix be: the document's, any. -/
import Derived.Test.YtoghdmoldcjedaaDoorP10
import Derived.Test.YtoghdmoldcjedaaDoorP11
import Derived.Test.YtoghdmoldcjedaaDoorP9
namespace Go.Proofs.YtoghdmoldcjedaaDoor
open Go.RowKit Go.Sort
set_option linter.unusedVariables false

end Go.Proofs.YtoghdmoldcjedaaDoor
