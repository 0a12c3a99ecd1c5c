/- Headers out of their cells. Conditions: none. -/
import Derived.Test.YtdokijbheholdabWdLaw1
import Derived.Test.YtdokijbheholdabAmOpns
namespace Go.AM
theorem wf_u8 {n : Int} (h : (Lit.int .u8 n).wf = true) : 0 ≤ n ∧ n < 256 := by
  have m1 : IntKind.u8.min = 0 := by decide
  have m2 : IntKind.u8.max = 255 := by decide
  simp [Lit.wf, m1, m2] at h; omega
theorem wf_u16 {n : Int} (h : (Lit.int .u16 n).wf = true) : 0 ≤ n ∧ n < 65536 := by
  have m1 : IntKind.u16.min = 0 := by decide
  have m2 : IntKind.u16.max = 65535 := by decide
  simp [Lit.wf, m1, m2] at h; omega
theorem wf_u32 {n : Int} (h : (Lit.int .u32 n).wf = true) : 0 ≤ n ∧ n < 4294967296 := by
  have m1 : IntKind.u32.min = 0 := by decide
  have m2 : IntKind.u32.max = 4294967295 := by decide
  simp [Lit.wf, m1, m2] at h; omega
theorem wf_u64 {n : Int} (h : (Lit.int .u64 n).wf = true) : 0 ≤ n ∧ n < 18446744073709551616 := by
  have m1 : IntKind.u64.min = 0 := by decide
  have m2 : IntKind.u64.max = 18446744073709551615 := by decide
  simp [Lit.wf, m1, m2] at h; omega
theorem wf_i64 {n : Int} (h : (Lit.int .i64 n).wf = true) : -9223372036854775808 ≤ n ∧ n ≤ 9223372036854775807 := by
  have m1 : IntKind.i64.min = -9223372036854775808 := by decide
  have m2 : IntKind.i64.max = 9223372036854775807 := by decide
  simp [Lit.wf, m1, m2] at h; omega
theorem list8 {α : Type} {xs : List α} (h : xs.length = 8) : ∃ a b c d e f g i, xs = [a, b, c, d, e, f, g, i] := by
  match xs, h with
  | [a, b, c, d, e, f, g, i], _ => exact ⟨a, b, c, d, e, f, g, i, rfl⟩
theorem hdr_of {xs : List SV} (hl : xs.length = 8) (ho : ∀ (i : Nat) (k : FK), ([.i .i64, .i .u8, .i .u8, .i .u32, .i .u16, .i .u16, .i .u16, .i .u32] : List FK)[i]? = some k → ∃ x, xs[i]? = some x ∧ k.ok x) : ∃ x : Hdr, x.ok ∧ xs = x.cells := by
  obtain ⟨a, b, c, d, e, f, g, i, rfl⟩ := list8 hl
  have h0 := ho 0 _ rfl
  have h1 := ho 1 _ rfl
  have h2 := ho 2 _ rfl
  have h3 := ho 3 _ rfl
  have h4 := ho 4 _ rfl
  have h5 := ho 5 _ rfl
  have h6 := ho 6 _ rfl
  have h7 := ho 7 _ rfl
  simp only [List.getElem?_cons_zero, List.getElem?_cons_succ, Option.some.injEq, exists_eq_left', FK.ok] at h0 h1 h2 h3 h4 h5 h6 h7
  obtain ⟨n0, rfl, w0⟩ := h0
  obtain ⟨n1, rfl, w1⟩ := h1
  obtain ⟨n2, rfl, w2⟩ := h2
  obtain ⟨n3, rfl, w3⟩ := h3
  obtain ⟨n4, rfl, w4⟩ := h4
  obtain ⟨n5, rfl, w5⟩ := h5
  obtain ⟨n6, rfl, w6⟩ := h6
  obtain ⟨n7, rfl, w7⟩ := h7
  obtain ⟨p1, q1⟩ := wf_u8 w1
  obtain ⟨p2, q2⟩ := wf_u8 w2
  obtain ⟨p3, q3⟩ := wf_u32 w3
  obtain ⟨p4, q4⟩ := wf_u16 w4
  obtain ⟨p5, q5⟩ := wf_u16 w5
  obtain ⟨p6, q6⟩ := wf_u16 w6
  obtain ⟨p7, q7⟩ := wf_u32 w7
  obtain ⟨m1, rfl⟩ := Int.eq_ofNat_of_zero_le p1
  obtain ⟨m2, rfl⟩ := Int.eq_ofNat_of_zero_le p2
  obtain ⟨m3, rfl⟩ := Int.eq_ofNat_of_zero_le p3
  obtain ⟨m4, rfl⟩ := Int.eq_ofNat_of_zero_le p4
  obtain ⟨m5, rfl⟩ := Int.eq_ofNat_of_zero_le p5
  obtain ⟨m6, rfl⟩ := Int.eq_ofNat_of_zero_le p6
  obtain ⟨m7, rfl⟩ := Int.eq_ofNat_of_zero_le p7
  exact ⟨⟨n0, m1, m2, m3, m4, m5, m6, m7⟩, by simp only [Hdr.ok]; omega, rfl⟩
end Go.AM
