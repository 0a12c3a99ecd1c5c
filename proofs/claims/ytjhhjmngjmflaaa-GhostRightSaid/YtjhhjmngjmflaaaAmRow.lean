/- The abstract machine: a law's row out of its run. Conditions: none. -/
import Derived.Test.YtjhhjmngjmflaaaAmEv
import Derived.Below
set_option linter.unusedVariables false
namespace Go.AM
def noG : G := ⟨fun _ => 0, fun _ => 0, fun _ => 0⟩
theorem HRel.nil (w : World) : HRel noG [] w := ⟨fun l o h => by simp at h, fun l l' _ h => by obtain ⟨o, ho, _⟩ := h; simp at ho⟩
end Go.AM
