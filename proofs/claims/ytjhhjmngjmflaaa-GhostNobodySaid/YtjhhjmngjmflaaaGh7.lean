/- Logs: calls, commits and returns in turn; a log that nobody made. Conditions: none. -/
import Derived.Test.YtjhhjmngjmflaaaGh6
set_option linter.unusedVariables false
set_option linter.unusedSimpArgs false
set_option maxRecDepth 100000
namespace Go.AM
open Go.Proofs
-- LENS: EvV.len, MonV.len, ThV.len, EnV.len
structure TuSt where
  i : Nat
  s : TrV
  h : List AO
section
variable {P : Program} {T : Tab} {K d : Nat} (S : Sd P T K)
include S
theorem partRn (x : EnV) : partA P 31 x.cells 0 = some (.ag x.cells) := part_all (ag31 S.p) (sz31 S.p) _ x.len
end
end Go.AM
