/- Walks: may a prefix be: the document's, addresses of 4 bytes. -/
import Derived.Test.YtoghdmoldcjedaaDoorP6
namespace Go.Proofs.YtoghdmoldcjedaaDoor
open Go.RowKit Go.Sort
set_option linter.unusedVariables false

end Go.Proofs.YtoghdmoldcjedaaDoor
