/- Monitors' model: copies, and whether two are the same. Conditions: none. -/
import Derived.Test.YtjhhjmngjmflaaaMo9
import Derived.Test.YtjhhjmngjmflaaaMn1
set_option linter.unusedVariables false
set_option linter.unusedSimpArgs false
set_option maxRecDepth 100000
namespace Go.AM
open Go.Proofs
section
variable {P : Program} {T : Tab} {K d : Nat} (S : Sd P T K)
include S
end
end Go.AM
