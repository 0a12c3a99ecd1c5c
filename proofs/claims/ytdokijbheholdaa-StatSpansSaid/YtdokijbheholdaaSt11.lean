/- Counts: the spans' arguments. Conditions: none. -/
import Derived.Test.YtdokijbheholdaaSt10
import Derived.Test.YtdokijbheholdaaFlat
set_option linter.unusedVariables false
set_option linter.unusedSimpArgs false
set_option maxRecDepth 100000
namespace Go.AM
open Go.Proofs
abbrev sI : Sh := .int .i64
abbrev shE : Sh := .pair 1 sI (.pair 1 sI (.pair 1 sI (.pair 3 (.pair 1 sI (.pair 1 sI (.pair 1 sI .nil))) (.pair 5 (.pair 1 sI (.pair 1 sI (.pair 1 sI (.pair 1 sI (.pair 1 sI .nil))))) (.pair 1 sI (.pair 1 sI .nil))))))
theorem env_of {h : List AO} {xs : List SV} (H : Fits shE h xs) : ∃ x : EnV, True ∧ xs = x.cells := by
  obtain ⟨hl, ho⟩ := fits_flat shE _ h xs rfl H
  match xs, hl with
  | [a0, a1, a2, a3, a4, a5, a6, a7, a8, a9, b0, b1, b2], _ =>
    have h0 := ho 0 _ rfl
    have h1 := ho 1 _ rfl
    have h2 := ho 2 _ rfl
    have h3 := ho 3 _ rfl
    have h4 := ho 4 _ rfl
    have h5 := ho 5 _ rfl
    have h6 := ho 6 _ rfl
    have h7 := ho 7 _ rfl
    have h8 := ho 8 _ rfl
    have h9 := ho 9 _ rfl
    have g0 := ho 10 _ rfl
    have g1 := ho 11 _ rfl
    have g2 := ho 12 _ rfl
    clear ho H
    simp only [List.getElem?_cons_zero, List.getElem?_cons_succ, Option.some.injEq, exists_eq_left', FK.ok] at h0 h1 h2 h3 h4 h5 h6 h7 h8 h9 g0 g1 g2
    obtain ⟨n0, rfl, _⟩ := h0
    obtain ⟨n1, rfl, _⟩ := h1
    obtain ⟨n2, rfl, _⟩ := h2
    obtain ⟨n3, rfl, _⟩ := h3
    obtain ⟨n4, rfl, _⟩ := h4
    obtain ⟨n5, rfl, _⟩ := h5
    obtain ⟨n6, rfl, _⟩ := h6
    obtain ⟨n7, rfl, _⟩ := h7
    obtain ⟨n8, rfl, _⟩ := h8
    obtain ⟨n9, rfl, _⟩ := h9
    obtain ⟨m0, rfl, _⟩ := g0
    obtain ⟨m1, rfl, _⟩ := g1
    obtain ⟨m2, rfl, _⟩ := g2
    exact ⟨⟨n0, n1, n2, n3, n4, n5, n6, n7, n8, n9, m0, m1, m2⟩, trivial, rfl⟩
theorem envs_of {h : List AO} {xs : List SV} (H : Fits (.slice 13 shE) h xs) : ∃ q l, xs = [q] ∧ Rs EnV.cells 13 h q l ∧ ∀ x ∈ l, True :=
  rs_of EnV.len (fun ys hy => env_of hy) H
end Go.AM
