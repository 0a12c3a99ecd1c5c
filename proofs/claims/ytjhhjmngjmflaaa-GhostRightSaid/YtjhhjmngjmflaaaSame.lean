/- Maps whose keys are pairs: whether two say the same. Conditions: none. -/
import Derived.Test.YtjhhjmngjmflaaaDictP
set_option linter.unusedVariables false
set_option linter.unusedSimpArgs false
namespace Go.AM
/-- Two lists of entries say the same. -/
def SameP {α : Type} (M1 M2 : List (Pk × α)) : Prop := M1.length = M2.length ∧ ∀ k v, getP k M1 = some v → getP k M2 = some v
theorem SameP.refl {α : Type} (M : List (Pk × α)) : SameP M M := ⟨rfl, fun _ _ h => h⟩
end Go.AM
