/- Monitors' model: events; two lists in one; owners' law. Conditions: none. -/
import Derived.Test.YtjhhjmngjmflaaaMo9
import Derived.Test.YtjhhjmngjmflaaaMn1
set_option linter.unusedVariables false
set_option linter.unusedSimpArgs false
set_option maxRecDepth 100000
namespace Go.AM
open Go.Proofs
-- LENS: EvV.len, MonV.len
theorem ext_of_get {a b : List AO} (hl : a.length ≤ b.length) (hg : ∀ l, l < a.length → b[l]? = a[l]?) : Ext1 a b := by
  refine ⟨b.drop a.length, ?_⟩
  have : b.take a.length = a := by
    apply List.ext_getElem?
    intro i
    rw [List.getElem?_take]
    split
    · rename_i h; exact hg i h
    · rename_i h; rw [List.getElem?_eq_none (by omega)]
  have h2 := List.take_append_drop a.length b
  rw [this] at h2
  exact h2.symm
theorem Fr.ext1 {bm bf bw bl : Nat} {a h h' : List AO} (F : Fr bm bf bw bl h h') (hx : Ext1 a h) (h1 : a.length ≤ bm) (h2 : a.length ≤ bf) (h3 : a.length ≤ bw) (h4 : a.length ≤ bl) : Ext1 a h' := by
  have := hx.len
  refine ext_of_get (Nat.le_trans this F.1) fun l hl => ?_
  rw [F.2 l (by omega) (by omega) (by omega) (by omega) (by omega), hx.get hl]
/-- Events, up to two hundred. -/
def Ev2 (h : List AO) (q : SV) (l : List EvV) (n : Nat) : Prop := (q = .nils ∧ n = 0) ∨ ∃ b, q = .sl b 0 n 5 ∧ b < h.length ∧ cellsAt h b = some (recs EvV.cells l) ∧ n ≤ l.length
theorem Ev2.len {P : Program} {t el : TypeId} (hu : P.underlying t = some (.slice el)) {h : List AO} {q : SV} {l : List EvV} {n : Nat} (H : Ev2 h q l n) (hh : List AO) : lenA P hh t (.v (.sc q)) = some (.v (.sc (.int .i64 (n : Int)))) := by
  rcases H with ⟨rfl, rfl⟩ | ⟨b, rfl, _⟩
  · exact len_nils hu
  · exact len_sl hu _ _ _ _
section
variable {P : Program} {T : Tab} {K d : Nat} (S : Sd P T K)
include S
end
structure OwSt where
  i : Nat
  V : MdV
  h : List AO
structure OxSt where
  o : Nat
  h : List AO
structure OySt where
  j : Nat
section
variable {P : Program} {T : Tab} {K d : Nat} (S : Sd P T K)
include S
end
end Go.AM
