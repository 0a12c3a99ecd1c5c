/- Classes out of their cells. Conditions: none. -/
import Derived.Test.YtdokijbheholdabKl2
import Derived.Test.YtdokijbheholdabWdOpen
namespace Go.AM
theorem kls_of {xs : List SV} (hl : xs.length = 3) (ho : ∀ (i : Nat) (k : FK), ([.b, .i .u8, .i .i64] : List FK)[i]? = some k → ∃ x, xs[i]? = some x ∧ k.ok x) : ∃ c : Kls, c.ok ∧ (-9223372036854775808 ≤ c.cnt ∧ c.cnt ≤ 9223372036854775807) ∧ xs = c.cells := by
  obtain ⟨a, b, c, rfl⟩ := list3 hl
  have h0 := ho 0 _ rfl
  have h1 := ho 1 _ rfl
  have h2 := ho 2 _ rfl
  simp only [List.getElem?_cons_zero, List.getElem?_cons_succ, Option.some.injEq, exists_eq_left', FK.ok] at h0 h1 h2
  obtain ⟨n0, rfl⟩ := h0
  obtain ⟨n1, rfl, w1⟩ := h1
  obtain ⟨n2, rfl, w2⟩ := h2
  obtain ⟨p1, q1⟩ := wf_u8 w1
  obtain ⟨m1, rfl⟩ := Int.eq_ofNat_of_zero_le p1
  exact ⟨⟨n0, m1, n2⟩, by simp only [Kls.ok]; omega, wf_i64 w2, rfl⟩
end Go.AM
