/- Monitors' model: the law's argument: a list of events. Conditions: none. -/
import Derived.Test.YtgcgbcdgbfeaaaaMoV
import Derived.Test.YtgcgbcdgbfeaaaaAmOpns
import Derived.Test.YtgcgbcdgbfeaaaaFlat
set_option linter.unusedVariables false
set_option linter.unusedSimpArgs false
namespace Go.AM
abbrev shEv : Sh := .pair 1 (.int .i64) (.pair 1 (.int .i64) (.pair 1 (.int .i64) (.pair 1 (.int .i64) (.pair 1 (.int .i64) .nil))))
/-- All five numbers are of their kind. -/
def EvV.wf (x : EvV) : Prop := (Lit.int .i64 x.k).wf = true ∧ (Lit.int .i64 x.t).wf = true ∧ (Lit.int .i64 x.o).wf = true ∧ (Lit.int .i64 x.a).wf = true ∧ (Lit.int .i64 x.e).wf = true
theorem ev_of {h : List AO} {xs : List SV} (H : Fits shEv h xs) : ∃ x : EvV, x.wf ∧ xs = x.cells := by
  obtain ⟨hl, ho⟩ := fits_flat shEv _ h xs rfl H
  match xs, hl with
  | [a0, a1, a2, a3, a4], _ =>
    have h0 := ho 0 _ rfl
    have h1 := ho 1 _ rfl
    have h2 := ho 2 _ rfl
    have h3 := ho 3 _ rfl
    have h4 := ho 4 _ rfl
    clear ho H
    simp only [List.getElem?_cons_zero, List.getElem?_cons_succ, Option.some.injEq, exists_eq_left', FK.ok] at h0 h1 h2 h3 h4
    obtain ⟨n0, rfl, w0⟩ := h0
    obtain ⟨n1, rfl, w1⟩ := h1
    obtain ⟨n2, rfl, w2⟩ := h2
    obtain ⟨n3, rfl, w3⟩ := h3
    obtain ⟨n4, rfl, w4⟩ := h4
    exact ⟨⟨n0, n1, n2, n3, n4⟩, ⟨w0, w1, w2, w3, w4⟩, rfl⟩
theorem evs_of {h : List AO} {xs : List SV} (H : Fits (.slice 5 shEv) h xs) : ∃ q l, xs = [q] ∧ Rs EvV.cells 5 h q l ∧ ∀ x ∈ l, x.wf := rs_of EvV.len (fun ys hy => ev_of hy) H
end Go.AM
