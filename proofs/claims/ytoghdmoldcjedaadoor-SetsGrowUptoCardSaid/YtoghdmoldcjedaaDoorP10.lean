/- Walks: may a prefix be: the document's, addresses of 4 bytes. Walks: may a prefix be: the document's, addresses of 16 bytes. -/
import Derived.Test.YtoghdmoldcjedaaDoorP4
namespace Go.Proofs.YtoghdmoldcjedaaDoor
open Go.RowKit Go.Sort
set_option linter.unusedVariables false

open Go.RowKit Go.Sort

end Go.Proofs.YtoghdmoldcjedaaDoor
