/- Monitors' model: the law's argument: a list of events. Conditions: none. -/
import Derived.Test.YtjhhjmngjmflaaaMoV
import Derived.Test.YtjhhjmngjmflaaaAmOpns
import Derived.Test.YtjhhjmngjmflaaaFlat
set_option linter.unusedVariables false
set_option linter.unusedSimpArgs false
namespace Go.AM
abbrev shEv : Sh := .pair 1 (.int .i64) (.pair 1 (.int .i64) (.pair 1 (.int .i64) (.pair 1 (.int .i64) (.pair 1 (.int .i64) .nil))))
/-- All five numbers are of their kind. -/
def EvV.wf (x : EvV) : Prop := (Lit.int .i64 x.k).wf = true ∧ (Lit.int .i64 x.t).wf = true ∧ (Lit.int .i64 x.o).wf = true ∧ (Lit.int .i64 x.a).wf = true ∧ (Lit.int .i64 x.e).wf = true
end Go.AM
