/- Logs: the laws' arguments: lists of entries. Conditions: none. -/
import Derived.Test.YtjhhjmngjmflaaaGhs
import Derived.Test.YtjhhjmngjmflaaaMnOpen
set_option linter.unusedVariables false
set_option linter.unusedSimpArgs false
namespace Go.AM
abbrev shEn : Sh := .pair 1 (.int .i64) (.pair 1 (.int .i64) (.pair 1 (.int .i64) (.pair 3 (.pair 1 (.int .i64) (.pair 1 (.int .i64) (.pair 1 (.int .i64) .nil))) (.pair 5 shEv (.pair 1 (.int .i64) (.pair 1 (.int .i64) .nil))))))
theorem en_of {h : List AO} {xs : List SV} (H : Fits shEn h xs) : ∃ x : EnV, True ∧ xs = x.cells := by
  obtain ⟨hl, ho⟩ := fits_flat shEn _ h xs rfl H
  match xs, hl with
  | [a0, a1, a2, a3, a4, a5, a6, a7, a8, a9, a10, a11, a12], _ =>
    have h0 := ho 0 _ rfl
    have h1 := ho 1 _ rfl
    have h2 := ho 2 _ rfl
    have h3 := ho 3 _ rfl
    have h4 := ho 4 _ rfl
    have h5 := ho 5 _ rfl
    have h6 := ho 6 _ rfl
    have h7 := ho 7 _ rfl
    have h8 := ho 8 _ rfl
    have h9 := ho 9 _ rfl
    have h10 := ho 10 _ rfl
    have h11 := ho 11 _ rfl
    have h12 := ho 12 _ rfl
    clear ho H
    simp only [List.getElem?_cons_zero, List.getElem?_cons_succ, Option.some.injEq, exists_eq_left', FK.ok] at h0 h1 h2 h3 h4 h5 h6 h7 h8 h9 h10 h11 h12
    obtain ⟨n0, rfl, w0⟩ := h0
    obtain ⟨n1, rfl, w1⟩ := h1
    obtain ⟨n2, rfl, w2⟩ := h2
    obtain ⟨n3, rfl, w3⟩ := h3
    obtain ⟨n4, rfl, w4⟩ := h4
    obtain ⟨n5, rfl, w5⟩ := h5
    obtain ⟨n6, rfl, w6⟩ := h6
    obtain ⟨n7, rfl, w7⟩ := h7
    obtain ⟨n8, rfl, w8⟩ := h8
    obtain ⟨n9, rfl, w9⟩ := h9
    obtain ⟨n10, rfl, w10⟩ := h10
    obtain ⟨n11, rfl, w11⟩ := h11
    obtain ⟨n12, rfl, w12⟩ := h12
    exact ⟨⟨n0, n1, n2, n3, n4, n5, ⟨n6, n7, n8, n9, n10⟩, n11, n12⟩, trivial, rfl⟩
end Go.AM
