/- The abstract machine: a law's row out of its run. Conditions: none. -/
import Derived.Test.YtgcgbcdgbfeaaaaAmEv
import Derived.Below
set_option linter.unusedVariables false
namespace Go.AM
def noG : G := ⟨fun _ => 0, fun _ => 0, fun _ => 0⟩
theorem HRel.nil (w : World) : HRel noG [] w := ⟨fun l o h => by simp at h, fun l l' _ h => by obtain ⟨o, ho, _⟩ := h; simp at ho⟩
/-- A law without memory: it answers true, and turns nothing. -/
theorem row_call {P : Program} {T : Tab} {K d : Nat} (hT : TabOk P T) (hany : P.follows .mixedOrders = true) {f : FuncId} {xs : List CV} {vals : List Value} (hv : CRelL noG 0 xs vals) {h' : List AO}
    (he : ev P T K d f xs 0 [] = some (.v (.sc (.bool true)), h')) (w : World) : Calls P f vals.toArray w (fun e w' => e = .returned (.bool true) ∧ Go.RowKit.Below w.heap.size w w') := by
  have := ev_ok (K := K) hT hany d f noG [] w 0 xs vals _ h' (HRel.nil w) hv he
  refine this.2.mono ?_
  rintro e w' ⟨v, g', rfl, h1, _, _, _, hk, _⟩
  simp only [VRel, CRel, SRel] at h1
  subst h1
  exact ⟨rfl, hk.os, hk.tape, hk.output, hk.size, fun k hk' => hk.block k hk' fun ⟨l, _, ⟨o, ho, _⟩, _⟩ => by simp at ho⟩
end Go.AM
