/- Orders: the document's binomials. Conditions: none. -/
import Derived.Test.YtdokijbheholdaaIn3
set_option linter.unusedVariables false
set_option linter.unusedSimpArgs false
set_option maxRecDepth 100000
namespace Go.AM
open Go.Proofs
-- LENS: parC_len
theorem splice_def (cs : List SV) (o : Nat) (new : List SV) : splice cs o new = cs.take o ++ new ++ cs.drop (o + new.length) := nrfl rfl
/-- A row of the triangle, as far as it is. -/
def parC (i j : Nat) : List SV := (List.range j).map fun m => .int .u64 ((ch i m : Nat) : Int)
theorem parC_len (i j : Nat) : (parC i j).length = j := by simp [parC]
theorem parC_at (i j m : Nat) (h : m < j) : (parC i j)[m]? = some (.int .u64 ((ch i m : Nat) : Int)) := by
  simp [parC, List.getElem?_range h]
theorem parC_snoc (i j : Nat) : parC i j ++ [.int .u64 ((ch i j : Nat) : Int)] = parC i (j + 1) := by
  simp [parC, List.range_succ]
theorem ch_le (n k : Nat) (h : n ≤ 20) : ch n k ≤ 1048576 := by
  have : ∀ n k, ch n k ≤ 2 ^ n := by
    intro n
    induction n with
    | zero => intro k; cases k <;> simp [ch]
    | succ n ih =>
      intro k
      cases k with
      | zero => simp only [ch]; exact Nat.one_le_two_pow
      | succ k => simp only [ch]; have h1 := ih k; have h2 := ih (k + 1); rw [Nat.pow_succ]; omega
  exact Nat.le_trans (this n k) (Nat.pow_le_pow_right (n := 2) (by omega) h)
theorem s50 {P : Program} {T : Tab} {K d : Nat} (S : Sd P T K) (hd : 1 ≤ d) (n k : Nat) (hn : n ≤ 20) (lk : Nat) (h : List AO) :
    ev P T K d 50 [.sc (.int .i64 (n : Nat)), .sc (.int .i64 (k : Nat))] lk h = some (.v (.sc (.int .u64 ((ch n k : Nat) : Int))), h) := by
  obtain ⟨d, rfl⟩ : ∃ k, d = k + 1 := ⟨d - 1, by omega⟩
  refine ev_pure (at50 S.t) rfl ?_
  unfold i50 Try.f50
  simp (disch := first | omega | (simp (disch := first | omega | (simp only [parC_len, List.length_append, List.length_cons, List.length_nil, List.length_set]; first | done | omega)) only [parC_len, amSide, Int.reduceToNat, Nat.reducePow, Nat.reduceMul]; first | done | omega)) only  [↓amPre, amPost, ↓s_lit', Nat.reduceAdd, Nat.reduceSub, List.replicate, retA, resultsA, resultA, toC, toCL, Nat.reduceEqDiff, append_at (un104 S.p) (sz36 S.p) (by36 S.p) (ze36 S.p) (by decide) (by decide) rfl, sl_cells (sz36 S.p), lit_fill (un104 S.p) (sz36 S.p) (ze36 S.p), iaddr_sl (un104 S.p) (sz36 S.p), len_sl (un104 S.p), len_nils (un104 S.p), part_sc (ag36 S.p), splice_def, List.flatten_cons, List.flatten_nil, List.append_nil, Nat.reduceMul, Nat.mul_one]
  refine ends_loop (X := Nat × Nat × List AO) (0, h.length, h ++ [.rw 36 (parC 0 1)]) [7, 8, 10, 11, 12, 13, 14, 15, 16, 17, 18, 19, 20, 21, 22, 23, 24, 25, 26, 27, 28, 29, 30, 31, 32, 33, 34, 35, 36, 37] (fun x => x.1 ≤ n ∧ h.length ≤ x.2.1 ∧ x.2.1 < x.2.2.length ∧ x.2.2[x.2.1]? = some (.rw 36 (parC x.1 (x.1 + 1)))) (fun x => n - x.1)
    (fun x e => (e.set 5 (.v (.sc (.sl x.2.1 0 (x.1 + 1) 1)))).set 6 (.v (.sc (.int .i64 x.1)))) (fun x => x.2.2)
    (by have := S.k; show _ < K; simp only; omega) ⟨by simp only; omega, Nat.le_refl _, by simp, by simp⟩ rfl rfl ?_
  rintro ⟨i, L, hh⟩ ⟨hi, hL1, hL2, hL3⟩ again hag e he
  simp only at hi hL1 hL2 hL3 hag he
  simp only [↓amPre, amPost, ↓s_lit', Nat.reduceAdd, Nat.reduceSub, List.replicate, retA, resultsA, resultA, toC, toCL, Nat.reduceEqDiff] at he
  simp only [↓amPre, amPost, ↓s_lit', Nat.reduceAdd, Nat.reduceSub, List.replicate, retA, resultsA, resultA, toC, toCL, Nat.reduceEqDiff, he]
  refine ends_cond (fun hc1 => ?_) (fun hc1 => ?_)
  · simp only [decide_eq_true_eq] at hc1
    simp (disch := first | omega | (simp (disch := first | omega | (simp only [parC_len, List.length_append, List.length_cons, List.length_nil, List.length_set]; first | done | omega)) only [parC_len, amSide, Int.reduceToNat, Nat.reducePow, Nat.reduceMul]; first | done | omega)) only  [↓amPre, amPost, ↓s_lit', Nat.reduceAdd, Nat.reduceSub, List.replicate, retA, resultsA, resultA, toC, toCL, Nat.reduceEqDiff, he, append_at (un104 S.p) (sz36 S.p) (by36 S.p) (ze36 S.p) (by decide) (by decide) rfl, sl_cells (sz36 S.p), lit_fill (un104 S.p) (sz36 S.p) (ze36 S.p), iaddr_sl (un104 S.p) (sz36 S.p), len_sl (un104 S.p), len_nils (un104 S.p), part_sc (ag36 S.p), splice_def, List.flatten_cons, List.flatten_nil, List.append_nil, Nat.reduceMul, Nat.mul_one]
    refine ends_loop (X := Nat × Nat × List AO) (1, hh.length, hh ++ [.rw 36 (parC (i + 1) 1)]) [16, 17, 18, 19, 20, 21, 22, 23, 24, 25, 26, 27, 28, 29, 30, 31, 32, 33, 34] (fun x => 1 ≤ x.1 ∧ x.1 ≤ i + 1 ∧ h.length ≤ x.2.1 ∧ x.2.1 ≠ L ∧ x.2.1 < x.2.2.length ∧ L < x.2.2.length ∧ x.2.2[x.2.1]? = some (.rw 36 (parC (i + 1) x.1)) ∧ x.2.2[L]? = some (.rw 36 (parC i (i + 1)))) (fun x => i + 1 - x.1)
      (fun x e => (e.set 7 (.v (.sc (.sl x.2.1 0 x.1 1)))).set 8 (.v (.sc (.int .i64 x.1)))) (fun x => x.2.2)
      (by have := S.k; show _ < K; simp only; omega) ⟨by simp, by simp, by simp only; omega, by simp only; omega, by simp, by simp; omega, by simp only; rw [obj_self _ _ rfl], by simp only; rw [obj_other _ _ hL2]; exact hL3⟩ rfl rfl ?_
    rintro ⟨j, M, h2⟩ ⟨hj1, hj2, hM1, hM2, hM3, hL4, hM5, hL5⟩ again2 hag2 e2 he2
    simp only at hj1 hj2 hM1 hM2 hM3 hL4 hM5 hL5 hag2 he2
    simp only [↓amPre, amPost, ↓s_lit', Nat.reduceAdd, Nat.reduceSub, List.replicate, retA, resultsA, resultA, toC, toCL, Nat.reduceEqDiff] at he2
    simp only [↓amPre, amPost, ↓s_lit', Nat.reduceAdd, Nat.reduceSub, List.replicate, retA, resultsA, resultA, toC, toCL, Nat.reduceEqDiff, he2]
    simp (disch := first | omega | (simp (disch := first | omega | (simp only [parC_len, List.length_append, List.length_cons, List.length_nil, List.length_set]; first | done | omega)) only [parC_len, amSide, Int.reduceToNat, Nat.reducePow, Nat.reduceMul]; first | done | omega)) only  [↓amPre, amPost, ↓s_lit', Nat.reduceAdd, Nat.reduceSub, List.replicate, retA, resultsA, resultA, toC, toCL, Nat.reduceEqDiff, he2, append_at (un104 S.p) (sz36 S.p) (by36 S.p) (ze36 S.p) (by decide) (by decide) rfl, sl_cells (sz36 S.p), lit_fill (un104 S.p) (sz36 S.p) (ze36 S.p), iaddr_sl (un104 S.p) (sz36 S.p), len_sl (un104 S.p), len_nils (un104 S.p), part_sc (ag36 S.p)]
    refine ends_cond (fun hc2 => ?_) (fun hc2 => ?_)
    · simp only [decide_eq_true_eq] at hc2
      obtain ⟨m, rfl⟩ : ∃ m, j = m + 1 := ⟨j - 1, by omega⟩
      have hm : m + 1 < i + 1 := by omega
      have cL : cellsAt h2 L = some (parC i (i + 1)) := cells_at hL5
      have p1 := parC_at i (i + 1) m (by omega)
      have p2 := parC_at i (i + 1) (m + 1) hm
      have w0 : IntKind.i64.wrap (((m + 1 : Nat) : Int) - 1) = (m : Int) := by rw [wrap_i64 (by omega) (by omega)]; omega
      have i1 : (0 ≤ (m : Int) ∧ (m : Int) < ((i + 1 : Nat) : Int)) = True := by simp; omega
      have i2 : (0 ≤ ((m + 1 : Nat) : Int) ∧ ((m + 1 : Nat) : Int) < ((i + 1 : Nat) : Int)) = True := by simp; omega
      have q1 := ch_le i m (by omega)
      have q2 := ch_le i (m + 1) (by omega)
      have w1 : IntKind.u64.wrap (((ch i m : Nat) : Int) + ((ch i (m + 1) : Nat) : Int)) = ((ch (i + 1) (m + 1) : Nat) : Int) := by
        have : ch (i + 1) (m + 1) = ch i m + ch i (m + 1) := rfl
        rw [this, wrap_u64 (by omega) (by omega)]; omega
      have hne : M ≠ L := hM2
      have hne' : L ≠ M := Ne.symm hM2
      simp (disch := first | omega | (simp (disch := first | omega | (simp only [parC_len, List.length_append, List.length_cons, List.length_nil, List.length_set]; first | done | omega)) only [parC_len, amSide, Int.reduceToNat, Nat.reducePow, Nat.reduceMul]; first | done | omega)) only  [↓amPre, amPost, ↓s_lit', Nat.reduceAdd, Nat.reduceSub, List.replicate, retA, resultsA, resultA, toC, toCL, Nat.reduceEqDiff, he2, append_at (un104 S.p) (sz36 S.p) (by36 S.p) (ze36 S.p) (by decide) (by decide) rfl, sl_cells (sz36 S.p), lit_fill (un104 S.p) (sz36 S.p) (ze36 S.p), iaddr_sl (un104 S.p) (sz36 S.p), len_sl (un104 S.p), len_nils (un104 S.p), part_sc (ag36 S.p), splice_def, cells_self, cells_other, obj_self, obj_other, set_self, set_other, cL, hM5, p1, p2, w0, w1, i1, i2, Int.toNat_natCast, Nat.zero_add, Nat.mul_one, Nat.div_one, Nat.mod_one, parC_snoc, List.flatten_cons, List.flatten_nil, List.append_nil, Nat.reduceMul, List.drop_zero, wrap_i64]
      refine hag2 (m + 1 + 1, h2.length + 1, _) ⟨by simp only; omega, by simp only; omega, by simp only; omega, by simp only; omega, by simp, by simp; omega, ?_, ?_⟩ (by simp only; omega) _ ?_
      · simp only; rw [obj_self _ _ (by simp)]
      · simp only; rw [obj_other _ _ (by simp; omega), obj_other _ _ (by simp; omega), List.getElem?_set_ne hne]; exact hL5
      · simp only [↓amPre, amPost, ↓s_lit', Nat.reduceAdd, Nat.reduceSub, List.replicate, retA, resultsA, resultA, toC, toCL, Nat.reduceEqDiff, Int.natCast_add, Int.cast_ofNat_Int]
    · simp only [decide_eq_false_iff_not] at hc2
      obtain rfl : j = i + 1 := by omega
      have hs : parC (i + 1) (i + 1) ++ [.int .u64 1] = parC (i + 1) (i + 1 + 1) := by
        have := parC_snoc (i + 1) (i + 1)
        rw [ch_self] at this; exact this
      simp (disch := first | omega | (simp (disch := first | omega | (simp only [parC_len, List.length_append, List.length_cons, List.length_nil, List.length_set]; first | done | omega)) only [parC_len, amSide, Int.reduceToNat, Nat.reducePow, Nat.reduceMul]; first | done | omega)) only  [↓amPre, amPost, ↓s_lit', Nat.reduceAdd, Nat.reduceSub, List.replicate, retA, resultsA, resultA, toC, toCL, Nat.reduceEqDiff, he2, append_at (un104 S.p) (sz36 S.p) (by36 S.p) (ze36 S.p) (by decide) (by decide) rfl, sl_cells (sz36 S.p), lit_fill (un104 S.p) (sz36 S.p) (ze36 S.p), iaddr_sl (un104 S.p) (sz36 S.p), len_sl (un104 S.p), len_nils (un104 S.p), part_sc (ag36 S.p), splice_def, cells_self, cells_other, obj_self, obj_other, set_self, set_other, hM5, hs, Nat.zero_add, Nat.mul_one, Nat.div_one, Nat.mod_one, List.flatten_cons, List.flatten_nil, List.append_nil, Nat.reduceMul, List.drop_zero, wrap_i64]
      refine hag (i + 1, h2.length + 1, _) ⟨by simp only; omega, by simp only; omega, by simp, ?_⟩ (by simp only; omega) _ ?_
      · simp only; rw [obj_self _ _ (by simp)]
      · simp only [↓amPre, amPost, ↓s_lit', Nat.reduceAdd, Nat.reduceSub, List.replicate, retA, resultsA, resultA, toC, toCL, Nat.reduceEqDiff, Int.natCast_add, Int.cast_ofNat_Int]
  · simp only [decide_eq_false_iff_not] at hc1
    obtain rfl : i = n := by omega
    have d0 : decide ((k : Int) < 0) = false := decide_eq_false (by omega)
    have cL : cellsAt hh L = some (parC i (i + 1)) := cells_at hL3
    by_cases hk : k < i + 1
    · have d1 : decide ((k : Int) ≥ ((i + 1 : Nat) : Int)) = false := decide_eq_false (by omega)
      have i1 : (0 ≤ (k : Int) ∧ (k : Int) < ((i + 1 : Nat) : Int)) = True := by simp; omega
      have p1 := parC_at i (i + 1) k hk
      simp (disch := first | omega | (simp (disch := first | omega | (simp only [parC_len, List.length_append, List.length_cons, List.length_nil, List.length_set]; first | done | omega)) only [parC_len, amSide, Int.reduceToNat, Nat.reducePow, Nat.reduceMul]; first | done | omega)) only  [↓amPre, amPost, ↓s_lit', Nat.reduceAdd, Nat.reduceSub, List.replicate, retA, resultsA, resultA, toC, toCL, Nat.reduceEqDiff, he, append_at (un104 S.p) (sz36 S.p) (by36 S.p) (ze36 S.p) (by decide) (by decide) rfl, sl_cells (sz36 S.p), lit_fill (un104 S.p) (sz36 S.p) (ze36 S.p), iaddr_sl (un104 S.p) (sz36 S.p), len_sl (un104 S.p), len_nils (un104 S.p), part_sc (ag36 S.p), cL, d0, d1, i1, p1, Int.toNat_natCast, Nat.zero_add, Nat.mul_one]
      exact Ends.some rfl
    · have d1 : decide ((k : Int) ≥ ((i + 1 : Nat) : Int)) = true := decide_eq_true (by omega)
      have e0 : ch i k = 0 := ch_over i k (by omega)
      rw [e0]
      simp (disch := first | omega | (simp (disch := first | omega | (simp only [parC_len, List.length_append, List.length_cons, List.length_nil, List.length_set]; first | done | omega)) only [parC_len, amSide, Int.reduceToNat, Nat.reducePow, Nat.reduceMul]; first | done | omega)) only  [↓amPre, amPost, ↓s_lit', Nat.reduceAdd, Nat.reduceSub, List.replicate, retA, resultsA, resultA, toC, toCL, Nat.reduceEqDiff, he, append_at (un104 S.p) (sz36 S.p) (by36 S.p) (ze36 S.p) (by decide) (by decide) rfl, sl_cells (sz36 S.p), lit_fill (un104 S.p) (sz36 S.p) (ze36 S.p), iaddr_sl (un104 S.p) (sz36 S.p), len_sl (un104 S.p), len_nils (un104 S.p), part_sc (ag36 S.p), cL, d0, d1]
      exact Ends.some rfl
end Go.AM
