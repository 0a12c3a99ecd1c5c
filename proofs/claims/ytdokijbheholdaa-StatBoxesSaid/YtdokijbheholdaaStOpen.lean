/- Counts: the laws' arguments. Conditions: none. -/
import Derived.Test.YtdokijbheholdaaSt4
import Derived.Test.YtdokijbheholdaaAmOpen2
set_option linter.unusedVariables false
namespace Go.AM
open Go.Proofs
theorem i1s_of {h : List AO} {xs : List SV} (H : Fits (.slice 1 (.int .i64)) h xs) : ∃ q l, xs = [q] ∧ Rs I1 1 h q l ∧ ∀ x ∈ l, x ≤ 9223372036854775807 :=
  rs_of (p := fun x => x ≤ 9223372036854775807) I1_len (fun ys hy => by
    obtain ⟨a, ha, wa⟩ := hy
    exact ⟨a, (wfI64 wa).2, ha⟩) H
end Go.AM
