/- The abstract machine: a law's arguments, opened: structs of numbers and bools. Conditions: none. -/
import Derived.Test.YtgcgbcdgbfeaaaaAmRow
import Derived.OpenShut
import Derived.ChangeArms
import Derived.WideShapes
import Derived.Carry
set_option linter.unusedVariables false
namespace Go.AM
open Go.ChangeShapes Go.WideShapes
/-- A cell's kind. -/
inductive FK where
  | i (k : IntKind)
  | b
def FK.ok : FK → SV → Prop
  | .i k, x => ∃ n, x = .int k n ∧ (Lit.int k n).wf = true
  | .b, x => ∃ q, x = .bool q
def flatOne (P : Program) (k : FK) (t : TypeId) : Bool :=
  match P.underlying t, k with
  | some (.int k'), .i k => decide (k' = k)
  | some .bool, .b => true
  | _, _ => false
def flatB (P : Program) : Nat → List Field → List FK → Bool
  | _, [], [] => true
  | i, f :: fs, k :: ks => decide (f.offset = i) && decide (P.cellsOf f.type = 1) && flatOne P k f.type && flatB P (i + 1) fs ks
  | _, _, _ => false
def absV : Value → SV
  | .int k n => .int k n
  | .bool b => .bool b
  | _ => .nils
theorem flatB_at {P : Program} : ∀ (fs : List Field) (ks : List FK) (i : Nat), flatB P i fs ks = true → fs.length = ks.length ∧ ∀ (j : Nat) (f : Field), fs[j]? = some f → ∃ k, ks[j]? = some k ∧ f.offset = i + j ∧ P.cellsOf f.type = 1 ∧ flatOne P k f.type = true
  | [], [], i, _ => ⟨rfl, fun j f hf => by simp at hf⟩
  | f :: fs, k :: ks, i, h => by
    simp only [flatB, Bool.and_eq_true, decide_eq_true_eq] at h
    obtain ⟨⟨⟨h1, h2⟩, h3⟩, h4⟩ := h
    obtain ⟨l, ih⟩ := flatB_at fs ks (i + 1) h4
    refine ⟨by simp [l], fun j f' hf => ?_⟩
    cases j with
    | zero => obtain rfl : f = f' := by simpa using hf
              exact ⟨k, by simp, by omega, h2, h3⟩
    | succ j =>
      obtain ⟨k', a, b, c, d⟩ := ih j f' (by simpa using hf)
      exact ⟨k', by simpa using a, by omega, c, d⟩
  | [], _ :: _, _, h => by simp [flatB] at h
  | _ :: _, [], _, h => by simp [flatB] at h
section
variable {H : Type} {enc : TypeId × Value → H} {P : Program} {w : World} {base : Nat} {spare : Nat → Bool} {held : Bool}
theorem trod_flat {k : FK} {t : TypeId} (hk : flatOne P k t = true) {fuel : Nat} {cs : List Value} {x : DataW H × List MemPlace} (h : DataW.trod enc P w base spare held fuel t cs = some x) :
    ∃ v, cs = [v] ∧ k.ok (absV v) ∧ SRel noG 0 (absV v) v := by
  unfold flatOne at hk
  split at hk
  · rename_i k' k ht
    simp only [decide_eq_true_eq] at hk
    subst hk
    obtain ⟨n, rfl, _, hw⟩ := DataW.trod_int ht h
    exact ⟨_, rfl, ⟨n, rfl, hw⟩, rfl⟩
  · rename_i ht
    obtain ⟨b, rfl, _⟩ := DataW.trod_bool ht h
    exact ⟨_, rfl, ⟨b, rfl⟩, rfl⟩
  · cases hk
/-- A struct of numbers and bools, by value. -/
theorem open_flat {r : Reach} {b0 : Nat} {t : TypeId} {fs : Array Field} {ks : List FK} {v : Value} {d : DataW H} {p : List MemPlace} (hs : P.underlying t = some (.struct fs)) (hf : flatB P 0 fs.toList ks = true) (hC : P.cellsOf t = ks.length)
    (hv : Value.okWide P w r b0 t v) (h : DataW.Trod enc P w base spare held t v d p) :
    ∃ xs : List SV, xs.length = ks.length ∧ (∀ (i : Nat) (k : FK), ks[i]? = some k → ∃ x, xs[i]? = some x ∧ k.ok x) ∧ CRel noG 0 (.ag xs) v := by
  obtain ⟨cs, rfl, hsz⟩ := okWide_struct hs hv
  obtain ⟨fuel, hf0⟩ := h
  obtain ⟨ys, n, _, _, _, hyl, hy⟩ := DataW.trod_struct hs hf0
  obtain ⟨hl, hat⟩ := flatB_at _ _ _ hf
  simp only [Array.length_toList] at hl
  have key : ∀ (i : Nat), i < ks.length → ∃ v k, cs[i]? = some v ∧ ks[i]? = some k ∧ k.ok (absV v) ∧ SRel noG 0 (absV v) v := fun i hi => by
    have hfi : fs[i]? = some fs[i] := Array.getElem?_eq_getElem (by omega)
    obtain ⟨k, h1, h2, h3, h4⟩ := hat i fs[i] (by rw [Array.getElem?_toList]; exact hfi)
    have h5 := hy i fs[i] hfi
    rw [List.getElem?_eq_getElem (by omega)] at h5
    obtain ⟨v, h6, h7, h8⟩ := trod_flat h4 h5
    refine ⟨v, k, ?_, h1, h7, h8⟩
    rw [h2, h3] at h6
    have h9 := congrArg (fun l => l[0]?) h6
    simp only [Value.cells, List.getElem?_cons_zero] at h9
    rw [List.getElem?_take_of_lt (by omega), List.getElem?_drop] at h9
    simpa using h9
  refine ⟨cs.toList.map absV, by simp; omega, fun i k hk => ?_, cs, rfl, ?_⟩
  · obtain ⟨v, k', h1, h2, h3, h4⟩ := key i (List.getElem?_eq_some_iff.1 hk).1
    rw [hk] at h2
    obtain rfl := Option.some.inj h2
    exact ⟨absV v, by simp [h1], h3⟩
  · refine SRelL.of (by simp) fun i x hx => ?_
    rw [List.getElem?_map, Option.map_eq_some_iff] at hx
    obtain ⟨v, hv, rfl⟩ := hx
    have hi : i < ks.length := by have := (List.getElem?_eq_some_iff.1 hv).1; simp at this; omega
    obtain ⟨v', k', h1, _, _, h4⟩ := key i hi
    have : v' = v := by simpa [h1] using hv
    subst this
    exact ⟨v', hv, h4⟩
end
end Go.AM
