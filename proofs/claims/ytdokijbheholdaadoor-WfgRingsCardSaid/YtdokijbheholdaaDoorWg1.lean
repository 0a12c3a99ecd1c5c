/- Waiting graphs: sets of nodes as numbers. Conditions: none. -/
import Derived.Lib.TrailingZeros
set_option linter.unusedVariables false
set_option linter.unusedSimpArgs false
namespace Go.AM
open Go.Lib
/-- The nodes of a set, rising. -/
def blN (x n : Nat) : List Nat := (List.range n).filter fun k => x.testBit k
def bl (x : Nat) : List Nat := blN x 64
theorem ctz_odd {x : Nat} (h0 : x ≠ 0) (h : x < 18446744073709551616) : ∃ m, x = 2 ^ ctz 64 x * (2 * m + 1) ∧ ctz 64 x < 64 := by
  unfold ctz
  rw [if_neg h0]
  exact ctzFrom_spec 64 x (by omega) h
theorem test_odd (k m j : Nat) : (2 ^ k * (2 * m + 1)).testBit j = if j < k then false else (2 * m + 1).testBit (j - k) := by
  have := Nat.testBit_two_pow_mul_add (2 * m + 1) (Nat.two_pow_pos k) j
  rw [Nat.add_zero] at this
  rw [this]
  split
  · simp
  · rfl
theorem test_less (k m j : Nat) : (2 ^ k * (2 * m + 1) - 1).testBit j = if j < k then true else (2 * m).testBit (j - k) := by
  have hp := Nat.two_pow_pos k
  have e : 2 ^ k * (2 * m + 1) - 1 = 2 ^ k * (2 * m) + (2 ^ k - 1) := by rw [Nat.mul_add, Nat.mul_one]; omega
  rw [e, Nat.testBit_two_pow_mul_add _ (by omega)]
  split
  · rename_i h; rw [Nat.testBit_two_pow_sub_one]; simp [h]
  · rfl
/-- The least node of a set; the set without it. -/
theorem low_facts {x : Nat} (h0 : x ≠ 0) (h : x < 18446744073709551616) : ctz 64 x < 64 ∧ x.testBit (ctz 64 x) = true ∧ (∀ j, j < ctz 64 x → x.testBit j = false) ∧ ∀ j, (x &&& (x - 1)).testBit j = (x.testBit j && decide (j ≠ ctz 64 x)) := by
  obtain ⟨m, hm, hk⟩ := ctz_odd h0 h
  generalize ctz 64 x = k at *
  subst hm
  refine ⟨hk, ?_, fun j hj => ?_, fun j => ?_⟩
  · rw [test_odd, if_neg (by omega), Nat.sub_self, Nat.testBit_zero]; simp
  · rw [test_odd, if_pos hj]
  · rw [Nat.testBit_and, test_odd, test_less]
    by_cases h1 : j < k
    · rw [if_pos h1, if_pos h1]; simp
    · rw [if_neg h1, if_neg h1]
      by_cases h2 : j = k
      · subst h2; rw [Nat.sub_self, Nat.testBit_zero, Nat.testBit_zero]; simp
      · obtain ⟨i, hi⟩ : ∃ i, j - k = i + 1 := ⟨j - k - 1, by omega⟩
        rw [hi, Nat.testBit_succ, Nat.testBit_succ]
        have e1 : (2 * m + 1) / 2 = m := by omega
        have e2 : 2 * m / 2 = m := by omega
        rw [e1, e2]; simp [h2]
theorem filter_first {p q : Nat → Bool} {c : Nat} (hp : p c = true) (hlt : ∀ j, j < c → p j = false) (hq : ∀ j, q j = (p j && decide (j ≠ c))) : ∀ n, c < n → (List.range n).filter p = c :: (List.range n).filter q
  | 0, h => by omega
  | n + 1, h => by
    rw [List.range_succ, List.filter_append, List.filter_append]
    by_cases hc : c = n
    · subst hc
      have e1 : (List.range c).filter p = [] := by
        rw [List.filter_eq_nil_iff]; intro j hj; simp [hlt j (List.mem_range.1 hj)]
      have e2 : (List.range c).filter q = [] := by
        rw [List.filter_eq_nil_iff]; intro j hj; simp [hq, hlt j (List.mem_range.1 hj)]
      rw [e1, e2]
      simp [hp, hq]
    · rw [filter_first hp hlt hq n (by omega)]
      have : q n = p n := by rw [hq]; simp [Ne.symm hc]
      simp [List.filter_cons, this]
theorem bl_step {x : Nat} (h0 : x ≠ 0) (h : x < 18446744073709551616) : bl x = ctz 64 x :: bl (x &&& (x - 1)) := by
  obtain ⟨h1, h2, h3, h4⟩ := low_facts h0 h
  exact filter_first h2 h3 h4 64 h1
theorem bl_zero : bl 0 = [] := by
  unfold bl blN
  rw [List.filter_eq_nil_iff]; intro j _; simp
theorem bl_mem (x k : Nat) : k ∈ bl x ↔ k < 64 ∧ x.testBit k = true := by
  unfold bl blN
  rw [List.mem_filter, List.mem_range]
theorem bl_len (x : Nat) : (bl x).length ≤ 64 := by
  unfold bl blN
  refine Nat.le_trans (List.length_filter_le _ _) ?_
  simp
theorem bl_nil {x : Nat} (h : x < 18446744073709551616) (hb : bl x = []) : x = 0 := by
  apply Classical.byContradiction
  intro h0
  rw [bl_step h0 h] at hb
  cases hb
theorem and_lt {x : Nat} (y : Nat) (h : x < 18446744073709551616) : x &&& y < 18446744073709551616 := Nat.lt_of_le_of_lt Nat.and_le_left h
end Go.AM
