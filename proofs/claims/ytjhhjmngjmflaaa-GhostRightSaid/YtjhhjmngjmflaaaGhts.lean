/- Logs: what their plain functions answer. Conditions: none. -/
import Derived.Test.YtjhhjmngjmflaaaAmTab
import Derived.Test.YtjhhjmngjmflaaaGhs
import Derived.Test.YtjhhjmngjmflaaaMns
set_option linter.unusedVariables false
set_option linter.unusedSimpArgs false
set_option maxRecDepth 100000
namespace Go.AM
open Go.Proofs
theorem beqZ (a b : Int) : (a == b) = decide (a = b) := by by_cases h : a = b <;> simp [h]
section
variable {P : Program} {T : Tab} {K d : Nat} (S : Sd P T K)
include S
theorem s60 (hd : 1 ≤ d) (k : Int) (lk : Nat) (h : List AO) : ev P T K d 60 [.sc (.int .i64 k)] lk h = some (.v (.sc (.int .i64 (comM k))), h) := by
  obtain ⟨d, rfl⟩ : ∃ k, d = k + 1 := ⟨d - 1, by omega⟩
  refine ev_pure (at60 S.t) rfl ?_
  unfold i60 Try.f60 comM
  by_cases c1 : k = 1
  · rw [if_pos c1]
    simp (maxSteps := 1000000) (disch := first | omega | (simp (disch := first | omega | (simp only [EvV.len, MonV.len, ThV.len, EnV.len, List.length_append, List.length_cons, List.length_nil, List.length_set]; first | done | omega)) only [EvV.len, MonV.len, ThV.len, EnV.len, amSide, Int.reduceToNat, Nat.reducePow, Nat.reduceMul]; first | done | omega)) only  [↓amPre, amPost, ↓s_lit', Nat.reduceAdd, Nat.reduceSub, List.replicate, retA, resultsA, resultA, toC, toCL, Nat.reduceEqDiff, if_true, beqI_t, beqI_f]
    exact Ends.some rfl
  by_cases c2 : k = 2
  · rw [if_neg c1, if_pos c2]
    simp (maxSteps := 1000000) (disch := first | omega | (simp (disch := first | omega | (simp only [EvV.len, MonV.len, ThV.len, EnV.len, List.length_append, List.length_cons, List.length_nil, List.length_set]; first | done | omega)) only [EvV.len, MonV.len, ThV.len, EnV.len, amSide, Int.reduceToNat, Nat.reducePow, Nat.reduceMul]; first | done | omega)) only  [↓amPre, amPost, ↓s_lit', Nat.reduceAdd, Nat.reduceSub, List.replicate, retA, resultsA, resultA, toC, toCL, Nat.reduceEqDiff, if_true, beqI_t, beqI_f]
    exact Ends.some rfl
  by_cases c3 : k = 3
  · rw [if_neg c1, if_neg c2, if_pos c3]
    simp (maxSteps := 1000000) (disch := first | omega | (simp (disch := first | omega | (simp only [EvV.len, MonV.len, ThV.len, EnV.len, List.length_append, List.length_cons, List.length_nil, List.length_set]; first | done | omega)) only [EvV.len, MonV.len, ThV.len, EnV.len, amSide, Int.reduceToNat, Nat.reducePow, Nat.reduceMul]; first | done | omega)) only  [↓amPre, amPost, ↓s_lit', Nat.reduceAdd, Nat.reduceSub, List.replicate, retA, resultsA, resultA, toC, toCL, Nat.reduceEqDiff, if_true, beqI_t, beqI_f]
    exact Ends.some rfl
  by_cases c4 : k = 4
  · rw [if_neg c1, if_neg c2, if_neg c3, if_pos c4]
    simp (maxSteps := 1000000) (disch := first | omega | (simp (disch := first | omega | (simp only [EvV.len, MonV.len, ThV.len, EnV.len, List.length_append, List.length_cons, List.length_nil, List.length_set]; first | done | omega)) only [EvV.len, MonV.len, ThV.len, EnV.len, amSide, Int.reduceToNat, Nat.reducePow, Nat.reduceMul]; first | done | omega)) only  [↓amPre, amPost, ↓s_lit', Nat.reduceAdd, Nat.reduceSub, List.replicate, retA, resultsA, resultA, toC, toCL, Nat.reduceEqDiff, if_true, beqI_t, beqI_f]
    exact Ends.some rfl
  by_cases c5 : k = 5
  · rw [if_neg c1, if_neg c2, if_neg c3, if_neg c4, if_pos c5]
    simp (maxSteps := 1000000) (disch := first | omega | (simp (disch := first | omega | (simp only [EvV.len, MonV.len, ThV.len, EnV.len, List.length_append, List.length_cons, List.length_nil, List.length_set]; first | done | omega)) only [EvV.len, MonV.len, ThV.len, EnV.len, amSide, Int.reduceToNat, Nat.reducePow, Nat.reduceMul]; first | done | omega)) only  [↓amPre, amPost, ↓s_lit', Nat.reduceAdd, Nat.reduceSub, List.replicate, retA, resultsA, resultA, toC, toCL, Nat.reduceEqDiff, if_true, beqI_t, beqI_f]
    exact Ends.some rfl
  by_cases c6 : k = 6
  · rw [if_neg c1, if_neg c2, if_neg c3, if_neg c4, if_neg c5, if_pos c6]
    simp (maxSteps := 1000000) (disch := first | omega | (simp (disch := first | omega | (simp only [EvV.len, MonV.len, ThV.len, EnV.len, List.length_append, List.length_cons, List.length_nil, List.length_set]; first | done | omega)) only [EvV.len, MonV.len, ThV.len, EnV.len, amSide, Int.reduceToNat, Nat.reducePow, Nat.reduceMul]; first | done | omega)) only  [↓amPre, amPost, ↓s_lit', Nat.reduceAdd, Nat.reduceSub, List.replicate, retA, resultsA, resultA, toC, toCL, Nat.reduceEqDiff, if_true, beqI_t, beqI_f]
    exact Ends.some rfl
  by_cases c7 : k = 7
  · rw [if_neg c1, if_neg c2, if_neg c3, if_neg c4, if_neg c5, if_neg c6, if_pos c7]
    simp (maxSteps := 1000000) (disch := first | omega | (simp (disch := first | omega | (simp only [EvV.len, MonV.len, ThV.len, EnV.len, List.length_append, List.length_cons, List.length_nil, List.length_set]; first | done | omega)) only [EvV.len, MonV.len, ThV.len, EnV.len, amSide, Int.reduceToNat, Nat.reducePow, Nat.reduceMul]; first | done | omega)) only  [↓amPre, amPost, ↓s_lit', Nat.reduceAdd, Nat.reduceSub, List.replicate, retA, resultsA, resultA, toC, toCL, Nat.reduceEqDiff, if_true, beqI_t, beqI_f]
    exact Ends.some rfl
  by_cases c8 : k = 8
  · rw [if_neg c1, if_neg c2, if_neg c3, if_neg c4, if_neg c5, if_neg c6, if_neg c7, if_pos c8]
    simp (maxSteps := 1000000) (disch := first | omega | (simp (disch := first | omega | (simp only [EvV.len, MonV.len, ThV.len, EnV.len, List.length_append, List.length_cons, List.length_nil, List.length_set]; first | done | omega)) only [EvV.len, MonV.len, ThV.len, EnV.len, amSide, Int.reduceToNat, Nat.reducePow, Nat.reduceMul]; first | done | omega)) only  [↓amPre, amPost, ↓s_lit', Nat.reduceAdd, Nat.reduceSub, List.replicate, retA, resultsA, resultA, toC, toCL, Nat.reduceEqDiff, if_true, beqI_t, beqI_f]
    exact Ends.some rfl
  by_cases c9 : k = 9
  · rw [if_neg c1, if_neg c2, if_neg c3, if_neg c4, if_neg c5, if_neg c6, if_neg c7, if_neg c8, if_pos c9]
    simp (maxSteps := 1000000) (disch := first | omega | (simp (disch := first | omega | (simp only [EvV.len, MonV.len, ThV.len, EnV.len, List.length_append, List.length_cons, List.length_nil, List.length_set]; first | done | omega)) only [EvV.len, MonV.len, ThV.len, EnV.len, amSide, Int.reduceToNat, Nat.reducePow, Nat.reduceMul]; first | done | omega)) only  [↓amPre, amPost, ↓s_lit', Nat.reduceAdd, Nat.reduceSub, List.replicate, retA, resultsA, resultA, toC, toCL, Nat.reduceEqDiff, if_true, beqI_t, beqI_f]
    exact Ends.some rfl
  rw [if_neg c1, if_neg c2, if_neg c3, if_neg c4, if_neg c5, if_neg c6, if_neg c7, if_neg c8, if_neg c9]
  simp (maxSteps := 1000000) (disch := first | omega | (simp (disch := first | omega | (simp only [EvV.len, MonV.len, ThV.len, EnV.len, List.length_append, List.length_cons, List.length_nil, List.length_set]; first | done | omega)) only [EvV.len, MonV.len, ThV.len, EnV.len, amSide, Int.reduceToNat, Nat.reducePow, Nat.reduceMul]; first | done | omega)) only  [↓amPre, amPost, ↓s_lit', Nat.reduceAdd, Nat.reduceSub, List.replicate, retA, resultsA, resultA, toC, toCL, Nat.reduceEqDiff, if_true, beqI_t, beqI_f]
  exact Ends.some rfl
theorem partTh (t : ThV) : partA P 109 t.cells 0 = some (.ag t.cells) := part_all (ag109 S.p) (sz109 S.p) _ t.len
theorem partEv (e : EvV) : partA P 34 e.cells 0 = some (.ag e.cells) := part_all (ag34 S.p) (sz34 S.p) _ e.len
theorem partEn (x : EnV) : partA P 36 x.cells 0 = some (.ag x.cells) := part_all (ag36 S.p) (sz36 S.p) _ x.len
theorem s61 (hd : 1 ≤ d) (t : ThV) (e : EvV) (lk : Nat) (h : List AO) : ev P T K d 61 [.ag t.cells, .ag e.cells] lk h = some (.v (.sc (.bool (decide (ofT t e)))), h) := by
  obtain ⟨d, rfl⟩ : ∃ k, d = k + 1 := ⟨d - 1, by omega⟩
  refine ev_pure (at61 S.t) rfl ?_
  unfold i61 Try.f61
  have t0 := t.c0
  have t1 := t.c1
  have t2 := t.c2
  have t3 := t.c3
  have t4 := t.c4
  have t5 := t.c5
  have t6 := t.c6
  have t9 := t.c9
  have t10 := t.c10
  have e0 := e.c0
  have e1 := e.c1
  have e2 := e.c2
  have e3 := e.c3
  have e4 := e.c4
  by_cases c1 : t.ok = 9
  · by_cases c2 : e.o = 0
    · simp (maxSteps := 1000000) (disch := first | omega | (simp (disch := first | omega | (simp only [EvV.len, MonV.len, ThV.len, EnV.len, List.length_append, List.length_cons, List.length_nil, List.length_set]; first | done | omega)) only [EvV.len, MonV.len, ThV.len, EnV.len, amSide, Int.reduceToNat, Nat.reducePow, Nat.reduceMul]; first | done | omega)) only  [↓amPre, amPost, ↓s_lit', Nat.reduceAdd, Nat.reduceSub, List.replicate, retA, resultsA, resultA, toC, toCL, Nat.reduceEqDiff, (fa109_0 S.p), (fa27_0 S.p), (fa27_1 S.p), (fa27_2 S.p), (fa34_2 S.p), (fa34_3 S.p), part_sc (ag3 S.p), t0, t1, t2, t3, t4, t5, t6, t9, t10, e0, e1, e2, e3, e4, beqI_t, beqI_f, bneI_t, bneI_f, bne_self_eq_false, beq_self_eq_true, dec_t, dec_f, cells_self, cells_other, Nat.zero_add, Nat.add_zero]
      exact Ends.some (by simp_all [ofT, beqZ])
    · simp (maxSteps := 1000000) (disch := first | omega | (simp (disch := first | omega | (simp only [EvV.len, MonV.len, ThV.len, EnV.len, List.length_append, List.length_cons, List.length_nil, List.length_set]; first | done | omega)) only [EvV.len, MonV.len, ThV.len, EnV.len, amSide, Int.reduceToNat, Nat.reducePow, Nat.reduceMul]; first | done | omega)) only  [↓amPre, amPost, ↓s_lit', Nat.reduceAdd, Nat.reduceSub, List.replicate, retA, resultsA, resultA, toC, toCL, Nat.reduceEqDiff, (fa109_0 S.p), (fa27_0 S.p), (fa27_1 S.p), (fa27_2 S.p), (fa34_2 S.p), (fa34_3 S.p), part_sc (ag3 S.p), t0, t1, t2, t3, t4, t5, t6, t9, t10, e0, e1, e2, e3, e4, beqI_t, beqI_f, bneI_t, bneI_f, bne_self_eq_false, beq_self_eq_true, dec_t, dec_f, cells_self, cells_other, Nat.zero_add, Nat.add_zero]
      exact Ends.some (by simp_all [ofT, beqZ])
  · simp (maxSteps := 1000000) (disch := first | omega | (simp (disch := first | omega | (simp only [EvV.len, MonV.len, ThV.len, EnV.len, List.length_append, List.length_cons, List.length_nil, List.length_set]; first | done | omega)) only [EvV.len, MonV.len, ThV.len, EnV.len, amSide, Int.reduceToNat, Nat.reducePow, Nat.reduceMul]; first | done | omega)) only  [↓amPre, amPost, ↓s_lit', Nat.reduceAdd, Nat.reduceSub, List.replicate, retA, resultsA, resultA, toC, toCL, Nat.reduceEqDiff, (fa109_0 S.p), (fa27_0 S.p), (fa27_1 S.p), (fa27_2 S.p), (fa34_2 S.p), (fa34_3 S.p), part_sc (ag3 S.p), t0, t1, t2, t3, t4, t5, t6, t9, t10, e0, e1, e2, e3, e4, beqI_t, beqI_f, bneI_t, bneI_f, bne_self_eq_false, beq_self_eq_true, dec_t, dec_f, cells_self, cells_other, Nat.zero_add, Nat.add_zero]
    exact Ends.some (by simp_all [ofT, beqZ])
theorem s62 (hd : 1 ≤ d) (t : ThV) (e : EvV) (lk : Nat) (h : List AO) : ev P T K d 62 [.ag t.cells, .ag e.cells] lk h = some (.v (.sc (.bool (decide (waitsT t e)))), h) := by
  obtain ⟨d, rfl⟩ : ∃ k, d = k + 1 := ⟨d - 1, by omega⟩
  refine ev_pure (at62 S.t) rfl ?_
  unfold i62 Try.f62
  have t0 := t.c0
  have t1 := t.c1
  have t2 := t.c2
  have t3 := t.c3
  have t4 := t.c4
  have t5 := t.c5
  have t6 := t.c6
  have t9 := t.c9
  have t10 := t.c10
  have e0 := e.c0
  have e1 := e.c1
  have e2 := e.c2
  have e3 := e.c3
  have e4 := e.c4
  by_cases c1 : t.mn = 0
  · simp (maxSteps := 1000000) (disch := first | omega | (simp (disch := first | omega | (simp only [EvV.len, MonV.len, ThV.len, EnV.len, List.length_append, List.length_cons, List.length_nil, List.length_set]; first | done | omega)) only [EvV.len, MonV.len, ThV.len, EnV.len, amSide, Int.reduceToNat, Nat.reducePow, Nat.reduceMul]; first | done | omega)) only  [↓amPre, amPost, ↓s_lit', Nat.reduceAdd, Nat.reduceSub, List.replicate, retA, resultsA, resultA, toC, toCL, Nat.reduceEqDiff, (fa109_3 S.p), (fa109_4 S.p), (fa34_0 S.p), (fa34_4 S.p), part_sc (ag3 S.p), part_sc (ag32 S.p), t0, t1, t2, t3, t4, t5, t6, t9, t10, e0, e1, e2, e3, e4, beqI_t, beqI_f, bneI_t, bneI_f, bne_self_eq_false, beq_self_eq_true, dec_t, dec_f, cells_self, cells_other, Nat.zero_add, Nat.add_zero]
    exact Ends.some (by simp_all [waitsT, beqZ])
  · by_cases c2 : t.ls.k = 4
    · by_cases c3 : t.ls.e = 0
      · by_cases c4 : e.k = 5
        · simp (maxSteps := 1000000) (disch := first | omega | (simp (disch := first | omega | (simp only [EvV.len, MonV.len, ThV.len, EnV.len, List.length_append, List.length_cons, List.length_nil, List.length_set]; first | done | omega)) only [EvV.len, MonV.len, ThV.len, EnV.len, amSide, Int.reduceToNat, Nat.reducePow, Nat.reduceMul]; first | done | omega)) only  [↓amPre, amPost, ↓s_lit', Nat.reduceAdd, Nat.reduceSub, List.replicate, retA, resultsA, resultA, toC, toCL, Nat.reduceEqDiff, (fa109_3 S.p), (fa109_4 S.p), (fa34_0 S.p), (fa34_4 S.p), part_sc (ag3 S.p), part_sc (ag32 S.p), t0, t1, t2, t3, t4, t5, t6, t9, t10, e0, e1, e2, e3, e4, beqI_t, beqI_f, bneI_t, bneI_f, bne_self_eq_false, beq_self_eq_true, dec_t, dec_f, cells_self, cells_other, Nat.zero_add, Nat.add_zero]
          exact Ends.some (by simp_all [waitsT, beqZ])
        · simp (maxSteps := 1000000) (disch := first | omega | (simp (disch := first | omega | (simp only [EvV.len, MonV.len, ThV.len, EnV.len, List.length_append, List.length_cons, List.length_nil, List.length_set]; first | done | omega)) only [EvV.len, MonV.len, ThV.len, EnV.len, amSide, Int.reduceToNat, Nat.reducePow, Nat.reduceMul]; first | done | omega)) only  [↓amPre, amPost, ↓s_lit', Nat.reduceAdd, Nat.reduceSub, List.replicate, retA, resultsA, resultA, toC, toCL, Nat.reduceEqDiff, (fa109_3 S.p), (fa109_4 S.p), (fa34_0 S.p), (fa34_4 S.p), part_sc (ag3 S.p), part_sc (ag32 S.p), t0, t1, t2, t3, t4, t5, t6, t9, t10, e0, e1, e2, e3, e4, beqI_t, beqI_f, bneI_t, bneI_f, bne_self_eq_false, beq_self_eq_true, dec_t, dec_f, cells_self, cells_other, Nat.zero_add, Nat.add_zero]
          exact Ends.some (by simp_all [waitsT, beqZ])
      · simp (maxSteps := 1000000) (disch := first | omega | (simp (disch := first | omega | (simp only [EvV.len, MonV.len, ThV.len, EnV.len, List.length_append, List.length_cons, List.length_nil, List.length_set]; first | done | omega)) only [EvV.len, MonV.len, ThV.len, EnV.len, amSide, Int.reduceToNat, Nat.reducePow, Nat.reduceMul]; first | done | omega)) only  [↓amPre, amPost, ↓s_lit', Nat.reduceAdd, Nat.reduceSub, List.replicate, retA, resultsA, resultA, toC, toCL, Nat.reduceEqDiff, (fa109_3 S.p), (fa109_4 S.p), (fa34_0 S.p), (fa34_4 S.p), part_sc (ag3 S.p), part_sc (ag32 S.p), t0, t1, t2, t3, t4, t5, t6, t9, t10, e0, e1, e2, e3, e4, beqI_t, beqI_f, bneI_t, bneI_f, bne_self_eq_false, beq_self_eq_true, dec_t, dec_f, cells_self, cells_other, Nat.zero_add, Nat.add_zero]
        exact Ends.some (by simp_all [waitsT, beqZ])
    · by_cases c5 : t.ls.k = 5
      · simp (maxSteps := 1000000) (disch := first | omega | (simp (disch := first | omega | (simp only [EvV.len, MonV.len, ThV.len, EnV.len, List.length_append, List.length_cons, List.length_nil, List.length_set]; first | done | omega)) only [EvV.len, MonV.len, ThV.len, EnV.len, amSide, Int.reduceToNat, Nat.reducePow, Nat.reduceMul]; first | done | omega)) only  [↓amPre, amPost, ↓s_lit', Nat.reduceAdd, Nat.reduceSub, List.replicate, retA, resultsA, resultA, toC, toCL, Nat.reduceEqDiff, (fa109_3 S.p), (fa109_4 S.p), (fa34_0 S.p), (fa34_4 S.p), part_sc (ag3 S.p), part_sc (ag32 S.p), t0, t1, t2, t3, t4, t5, t6, t9, t10, e0, e1, e2, e3, e4, beqI_t, beqI_f, bneI_t, bneI_f, bne_self_eq_false, beq_self_eq_true, dec_t, dec_f, cells_self, cells_other, Nat.zero_add, Nat.add_zero]
        exact Ends.some (by simp_all [waitsT, beqZ])
      · simp (maxSteps := 1000000) (disch := first | omega | (simp (disch := first | omega | (simp only [EvV.len, MonV.len, ThV.len, EnV.len, List.length_append, List.length_cons, List.length_nil, List.length_set]; first | done | omega)) only [EvV.len, MonV.len, ThV.len, EnV.len, amSide, Int.reduceToNat, Nat.reducePow, Nat.reduceMul]; first | done | omega)) only  [↓amPre, amPost, ↓s_lit', Nat.reduceAdd, Nat.reduceSub, List.replicate, retA, resultsA, resultA, toC, toCL, Nat.reduceEqDiff, (fa109_3 S.p), (fa109_4 S.p), (fa34_0 S.p), (fa34_4 S.p), part_sc (ag3 S.p), part_sc (ag32 S.p), t0, t1, t2, t3, t4, t5, t6, t9, t10, e0, e1, e2, e3, e4, beqI_t, beqI_f, bneI_t, bneI_f, bne_self_eq_false, beq_self_eq_true, dec_t, dec_f, cells_self, cells_other, Nat.zero_add, Nat.add_zero]
        exact Ends.some (by simp_all [waitsT, beqZ])
theorem s63 (hd : 2 ≤ d) (t : ThV) (e : EvV) (lk : Nat) (h : List AO) : ev P T K d 63 [.ag t.cells, .ag e.cells] lk h = some (.v (.sc (.bool (decide (tellsT t e)))), h) := by
  obtain ⟨d, rfl⟩ : ∃ k, d = k + 1 := ⟨d - 1, by omega⟩
  refine ev_pure (at63 S.t) rfl ?_
  unfold i63 Try.f63
  have t0 := t.c0
  have t1 := t.c1
  have t2 := t.c2
  have t3 := t.c3
  have t4 := t.c4
  have t5 := t.c5
  have t6 := t.c6
  have t9 := t.c9
  have t10 := t.c10
  have e0 := e.c0
  have e1 := e.c1
  have e2 := e.c2
  have e3 := e.c3
  have e4 := e.c4
  have f60 := fun k lk h => s60 S (show 1 ≤ d by omega) k lk h
  by_cases c1 : t.mn > 0
  · by_cases c2 : t.ls.k = 7
    · by_cases c3 : e.k = 7
      · by_cases c4 : t.ok = 6
        · simp (maxSteps := 1000000) (disch := first | omega | (simp (disch := first | omega | (simp only [EvV.len, MonV.len, ThV.len, EnV.len, List.length_append, List.length_cons, List.length_nil, List.length_set]; first | done | omega)) only [EvV.len, MonV.len, ThV.len, EnV.len, amSide, Int.reduceToNat, Nat.reducePow, Nat.reduceMul]; first | done | omega)) only  [↓amPre, amPost, ↓s_lit', Nat.reduceAdd, Nat.reduceSub, List.replicate, retA, resultsA, resultA, toC, toCL, Nat.reduceEqDiff, (fa109_0 S.p), (fa109_3 S.p), (fa109_4 S.p), (fa27_0 S.p), (fa34_0 S.p), (fa34_3 S.p), part_sc (ag3 S.p), t0, t1, t2, t3, t4, t5, t6, t9, t10, e0, e1, e2, e3, e4, f60, beqI_t, beqI_f, bneI_t, bneI_f, bne_self_eq_false, beq_self_eq_true, dec_t, dec_f, cells_self, cells_other, Nat.zero_add, Nat.add_zero]
          exact Ends.some (by simp_all [tellsT, beqZ])
        · simp (maxSteps := 1000000) (disch := first | omega | (simp (disch := first | omega | (simp only [EvV.len, MonV.len, ThV.len, EnV.len, List.length_append, List.length_cons, List.length_nil, List.length_set]; first | done | omega)) only [EvV.len, MonV.len, ThV.len, EnV.len, amSide, Int.reduceToNat, Nat.reducePow, Nat.reduceMul]; first | done | omega)) only  [↓amPre, amPost, ↓s_lit', Nat.reduceAdd, Nat.reduceSub, List.replicate, retA, resultsA, resultA, toC, toCL, Nat.reduceEqDiff, (fa109_0 S.p), (fa109_3 S.p), (fa109_4 S.p), (fa27_0 S.p), (fa34_0 S.p), (fa34_3 S.p), part_sc (ag3 S.p), t0, t1, t2, t3, t4, t5, t6, t9, t10, e0, e1, e2, e3, e4, f60, beqI_t, beqI_f, bneI_t, bneI_f, bne_self_eq_false, beq_self_eq_true, dec_t, dec_f, cells_self, cells_other, Nat.zero_add, Nat.add_zero]
          exact Ends.some (by simp_all [tellsT, beqZ])
      · by_cases c4 : e.k = comM t.ok
        · by_cases c5 : t.ok = 6
          · simp (maxSteps := 1000000) (disch := first | omega | (simp (disch := first | omega | (simp only [EvV.len, MonV.len, ThV.len, EnV.len, List.length_append, List.length_cons, List.length_nil, List.length_set]; first | done | omega)) only [EvV.len, MonV.len, ThV.len, EnV.len, amSide, Int.reduceToNat, Nat.reducePow, Nat.reduceMul]; first | done | omega)) only  [↓amPre, amPost, ↓s_lit', Nat.reduceAdd, Nat.reduceSub, List.replicate, retA, resultsA, resultA, toC, toCL, Nat.reduceEqDiff, (fa109_0 S.p), (fa109_3 S.p), (fa109_4 S.p), (fa27_0 S.p), (fa34_0 S.p), (fa34_3 S.p), part_sc (ag3 S.p), t0, t1, t2, t3, t4, t5, t6, t9, t10, e0, e1, e2, e3, e4, f60, beqI_t, beqI_f, bneI_t, bneI_f, bne_self_eq_false, beq_self_eq_true, dec_t, dec_f, cells_self, cells_other, Nat.zero_add, Nat.add_zero]
            exact Ends.some (by simp_all [tellsT, beqZ])
          · simp (maxSteps := 1000000) (disch := first | omega | (simp (disch := first | omega | (simp only [EvV.len, MonV.len, ThV.len, EnV.len, List.length_append, List.length_cons, List.length_nil, List.length_set]; first | done | omega)) only [EvV.len, MonV.len, ThV.len, EnV.len, amSide, Int.reduceToNat, Nat.reducePow, Nat.reduceMul]; first | done | omega)) only  [↓amPre, amPost, ↓s_lit', Nat.reduceAdd, Nat.reduceSub, List.replicate, retA, resultsA, resultA, toC, toCL, Nat.reduceEqDiff, (fa109_0 S.p), (fa109_3 S.p), (fa109_4 S.p), (fa27_0 S.p), (fa34_0 S.p), (fa34_3 S.p), part_sc (ag3 S.p), t0, t1, t2, t3, t4, t5, t6, t9, t10, e0, e1, e2, e3, e4, f60, beqI_t, beqI_f, bneI_t, bneI_f, bne_self_eq_false, beq_self_eq_true, dec_t, dec_f, cells_self, cells_other, Nat.zero_add, Nat.add_zero]
            exact Ends.some (by simp_all [tellsT, beqZ])
        · simp (maxSteps := 1000000) (disch := first | omega | (simp (disch := first | omega | (simp only [EvV.len, MonV.len, ThV.len, EnV.len, List.length_append, List.length_cons, List.length_nil, List.length_set]; first | done | omega)) only [EvV.len, MonV.len, ThV.len, EnV.len, amSide, Int.reduceToNat, Nat.reducePow, Nat.reduceMul]; first | done | omega)) only  [↓amPre, amPost, ↓s_lit', Nat.reduceAdd, Nat.reduceSub, List.replicate, retA, resultsA, resultA, toC, toCL, Nat.reduceEqDiff, (fa109_0 S.p), (fa109_3 S.p), (fa109_4 S.p), (fa27_0 S.p), (fa34_0 S.p), (fa34_3 S.p), part_sc (ag3 S.p), t0, t1, t2, t3, t4, t5, t6, t9, t10, e0, e1, e2, e3, e4, f60, beqI_t, beqI_f, bneI_t, bneI_f, bne_self_eq_false, beq_self_eq_true, dec_t, dec_f, cells_self, cells_other, Nat.zero_add, Nat.add_zero]
          exact Ends.some (by simp_all [tellsT, beqZ])
    · simp (maxSteps := 1000000) (disch := first | omega | (simp (disch := first | omega | (simp only [EvV.len, MonV.len, ThV.len, EnV.len, List.length_append, List.length_cons, List.length_nil, List.length_set]; first | done | omega)) only [EvV.len, MonV.len, ThV.len, EnV.len, amSide, Int.reduceToNat, Nat.reducePow, Nat.reduceMul]; first | done | omega)) only  [↓amPre, amPost, ↓s_lit', Nat.reduceAdd, Nat.reduceSub, List.replicate, retA, resultsA, resultA, toC, toCL, Nat.reduceEqDiff, (fa109_0 S.p), (fa109_3 S.p), (fa109_4 S.p), (fa27_0 S.p), (fa34_0 S.p), (fa34_3 S.p), part_sc (ag3 S.p), t0, t1, t2, t3, t4, t5, t6, t9, t10, e0, e1, e2, e3, e4, f60, beqI_t, beqI_f, bneI_t, bneI_f, bne_self_eq_false, beq_self_eq_true, dec_t, dec_f, cells_self, cells_other, Nat.zero_add, Nat.add_zero]
      exact Ends.some (by simp_all [tellsT, beqZ])
  · by_cases c3 : e.k = 7
    · by_cases c4 : t.ok = 6
      · simp (maxSteps := 1000000) (disch := first | omega | (simp (disch := first | omega | (simp only [EvV.len, MonV.len, ThV.len, EnV.len, List.length_append, List.length_cons, List.length_nil, List.length_set]; first | done | omega)) only [EvV.len, MonV.len, ThV.len, EnV.len, amSide, Int.reduceToNat, Nat.reducePow, Nat.reduceMul]; first | done | omega)) only  [↓amPre, amPost, ↓s_lit', Nat.reduceAdd, Nat.reduceSub, List.replicate, retA, resultsA, resultA, toC, toCL, Nat.reduceEqDiff, (fa109_0 S.p), (fa109_3 S.p), (fa109_4 S.p), (fa27_0 S.p), (fa34_0 S.p), (fa34_3 S.p), part_sc (ag3 S.p), t0, t1, t2, t3, t4, t5, t6, t9, t10, e0, e1, e2, e3, e4, f60, beqI_t, beqI_f, bneI_t, bneI_f, bne_self_eq_false, beq_self_eq_true, dec_t, dec_f, cells_self, cells_other, Nat.zero_add, Nat.add_zero]
        exact Ends.some (by simp_all [tellsT, beqZ])
      · simp (maxSteps := 1000000) (disch := first | omega | (simp (disch := first | omega | (simp only [EvV.len, MonV.len, ThV.len, EnV.len, List.length_append, List.length_cons, List.length_nil, List.length_set]; first | done | omega)) only [EvV.len, MonV.len, ThV.len, EnV.len, amSide, Int.reduceToNat, Nat.reducePow, Nat.reduceMul]; first | done | omega)) only  [↓amPre, amPost, ↓s_lit', Nat.reduceAdd, Nat.reduceSub, List.replicate, retA, resultsA, resultA, toC, toCL, Nat.reduceEqDiff, (fa109_0 S.p), (fa109_3 S.p), (fa109_4 S.p), (fa27_0 S.p), (fa34_0 S.p), (fa34_3 S.p), part_sc (ag3 S.p), t0, t1, t2, t3, t4, t5, t6, t9, t10, e0, e1, e2, e3, e4, f60, beqI_t, beqI_f, bneI_t, bneI_f, bne_self_eq_false, beq_self_eq_true, dec_t, dec_f, cells_self, cells_other, Nat.zero_add, Nat.add_zero]
        exact Ends.some (by simp_all [tellsT, beqZ])
    · by_cases c4 : e.k = comM t.ok
      · by_cases c5 : t.ok = 6
        · simp (maxSteps := 1000000) (disch := first | omega | (simp (disch := first | omega | (simp only [EvV.len, MonV.len, ThV.len, EnV.len, List.length_append, List.length_cons, List.length_nil, List.length_set]; first | done | omega)) only [EvV.len, MonV.len, ThV.len, EnV.len, amSide, Int.reduceToNat, Nat.reducePow, Nat.reduceMul]; first | done | omega)) only  [↓amPre, amPost, ↓s_lit', Nat.reduceAdd, Nat.reduceSub, List.replicate, retA, resultsA, resultA, toC, toCL, Nat.reduceEqDiff, (fa109_0 S.p), (fa109_3 S.p), (fa109_4 S.p), (fa27_0 S.p), (fa34_0 S.p), (fa34_3 S.p), part_sc (ag3 S.p), t0, t1, t2, t3, t4, t5, t6, t9, t10, e0, e1, e2, e3, e4, f60, beqI_t, beqI_f, bneI_t, bneI_f, bne_self_eq_false, beq_self_eq_true, dec_t, dec_f, cells_self, cells_other, Nat.zero_add, Nat.add_zero]
          exact Ends.some (by simp_all [tellsT, beqZ])
        · simp (maxSteps := 1000000) (disch := first | omega | (simp (disch := first | omega | (simp only [EvV.len, MonV.len, ThV.len, EnV.len, List.length_append, List.length_cons, List.length_nil, List.length_set]; first | done | omega)) only [EvV.len, MonV.len, ThV.len, EnV.len, amSide, Int.reduceToNat, Nat.reducePow, Nat.reduceMul]; first | done | omega)) only  [↓amPre, amPost, ↓s_lit', Nat.reduceAdd, Nat.reduceSub, List.replicate, retA, resultsA, resultA, toC, toCL, Nat.reduceEqDiff, (fa109_0 S.p), (fa109_3 S.p), (fa109_4 S.p), (fa27_0 S.p), (fa34_0 S.p), (fa34_3 S.p), part_sc (ag3 S.p), t0, t1, t2, t3, t4, t5, t6, t9, t10, e0, e1, e2, e3, e4, f60, beqI_t, beqI_f, bneI_t, bneI_f, bne_self_eq_false, beq_self_eq_true, dec_t, dec_f, cells_self, cells_other, Nat.zero_add, Nat.add_zero]
          exact Ends.some (by congr 4; rw [beqZ, decide_eq_decide]; unfold tellsT; rw [if_neg (fun q => c1 q.1), if_neg c3, if_neg (fun q => q c4), if_neg c5, if_neg c1])
      · simp (maxSteps := 1000000) (disch := first | omega | (simp (disch := first | omega | (simp only [EvV.len, MonV.len, ThV.len, EnV.len, List.length_append, List.length_cons, List.length_nil, List.length_set]; first | done | omega)) only [EvV.len, MonV.len, ThV.len, EnV.len, amSide, Int.reduceToNat, Nat.reducePow, Nat.reduceMul]; first | done | omega)) only  [↓amPre, amPost, ↓s_lit', Nat.reduceAdd, Nat.reduceSub, List.replicate, retA, resultsA, resultA, toC, toCL, Nat.reduceEqDiff, (fa109_0 S.p), (fa109_3 S.p), (fa109_4 S.p), (fa27_0 S.p), (fa34_0 S.p), (fa34_3 S.p), part_sc (ag3 S.p), t0, t1, t2, t3, t4, t5, t6, t9, t10, e0, e1, e2, e3, e4, f60, beqI_t, beqI_f, bneI_t, bneI_f, bne_self_eq_false, beq_self_eq_true, dec_t, dec_f, cells_self, cells_other, Nat.zero_add, Nat.add_zero]
        exact Ends.some (by simp_all [tellsT, beqZ])
theorem s41 (hd : 3 ≤ d) (t : ThV) (e : EvV) (lk : Nat) (h : List AO) : ev P T K d 41 [.ag t.cells, .ag e.cells] lk h = some (.v (.sc (.bool (decide (takesT t e)))), h) := by
  obtain ⟨d, rfl⟩ : ∃ k, d = k + 1 := ⟨d - 1, by omega⟩
  refine ev_pure (at41 S.t) rfl ?_
  unfold i41 Try.f41
  have t0 := t.c0
  have t1 := t.c1
  have t2 := t.c2
  have t3 := t.c3
  have t4 := t.c4
  have t5 := t.c5
  have t6 := t.c6
  have t9 := t.c9
  have t10 := t.c10
  have e0 := e.c0
  have e1 := e.c1
  have e2 := e.c2
  have e3 := e.c3
  have e4 := e.c4
  have f60 := fun k lk h => s60 S (show 1 ≤ d by omega) k lk h
  have f61 := fun lk h => s61 S (show 1 ≤ d by omega) t e lk h
  have f62 := fun lk h => s62 S (show 1 ≤ d by omega) t e lk h
  have f63 := fun lk h => s63 S (show 2 ≤ d by omega) t e lk h
  have pt := partTh S t
  have pe := partEv S e
  cases c1 : t.op with
  | false =>
    rw [c1] at t4
    simp (maxSteps := 1000000) (disch := first | omega | (simp (disch := first | omega | (simp only [EvV.len, MonV.len, ThV.len, EnV.len, List.length_append, List.length_cons, List.length_nil, List.length_set]; first | done | omega)) only [EvV.len, MonV.len, ThV.len, EnV.len, amSide, Int.reduceToNat, Nat.reducePow, Nat.reduceMul]; first | done | omega)) only  [↓amPre, amPost, ↓s_lit', Nat.reduceAdd, Nat.reduceSub, List.replicate, retA, resultsA, resultA, toC, toCL, Nat.reduceEqDiff, (fa109_0 S.p), (fa109_2 S.p), (fa109_3 S.p), (fa27_0 S.p), (fa34_0 S.p), part_all (ag109 S.p) (sz109 S.p), part_at (ag109 S.p) (sz109 S.p), part_sc (ag3 S.p), part_all (ag34 S.p) (sz34 S.p), part_at (ag34 S.p) (sz34 S.p), part_sc (ag4 S.p), t0, t1, t2, t3, t4, t5, t6, t9, t10, e0, e1, e2, e3, e4, pt, pe, f60, f61, f62, f63, beqI_t, beqI_f, bneI_t, bneI_f, bne_self_eq_false, beq_self_eq_true, dec_t, dec_f, cells_self, cells_other, Nat.zero_add, Nat.add_zero]
    exact Ends.some (by simp_all [takesT, beqZ])
  | true =>
    rw [c1] at t4
    by_cases c2 : ofT t e
    · rw [decide_eq_true c2] at f61
      by_cases c3 : t.ok = 4
      · simp (maxSteps := 1000000) (disch := first | omega | (simp (disch := first | omega | (simp only [EvV.len, MonV.len, ThV.len, EnV.len, List.length_append, List.length_cons, List.length_nil, List.length_set]; first | done | omega)) only [EvV.len, MonV.len, ThV.len, EnV.len, amSide, Int.reduceToNat, Nat.reducePow, Nat.reduceMul]; first | done | omega)) only  [↓amPre, amPost, ↓s_lit', Nat.reduceAdd, Nat.reduceSub, List.replicate, retA, resultsA, resultA, toC, toCL, Nat.reduceEqDiff, (fa109_0 S.p), (fa109_2 S.p), (fa109_3 S.p), (fa27_0 S.p), (fa34_0 S.p), part_all (ag109 S.p) (sz109 S.p), part_at (ag109 S.p) (sz109 S.p), part_sc (ag3 S.p), part_all (ag34 S.p) (sz34 S.p), part_at (ag34 S.p) (sz34 S.p), part_sc (ag4 S.p), t0, t1, t2, t3, t4, t5, t6, t9, t10, e0, e1, e2, e3, e4, pt, pe, f60, f61, f62, f63, beqI_t, beqI_f, bneI_t, bneI_f, bne_self_eq_false, beq_self_eq_true, dec_t, dec_f, cells_self, cells_other, Nat.zero_add, Nat.add_zero]
        exact Ends.some (by simp_all [takesT, beqZ])
      · by_cases c4 : t.ok = 5
        · simp (maxSteps := 1000000) (disch := first | omega | (simp (disch := first | omega | (simp only [EvV.len, MonV.len, ThV.len, EnV.len, List.length_append, List.length_cons, List.length_nil, List.length_set]; first | done | omega)) only [EvV.len, MonV.len, ThV.len, EnV.len, amSide, Int.reduceToNat, Nat.reducePow, Nat.reduceMul]; first | done | omega)) only  [↓amPre, amPost, ↓s_lit', Nat.reduceAdd, Nat.reduceSub, List.replicate, retA, resultsA, resultA, toC, toCL, Nat.reduceEqDiff, (fa109_0 S.p), (fa109_2 S.p), (fa109_3 S.p), (fa27_0 S.p), (fa34_0 S.p), part_all (ag109 S.p) (sz109 S.p), part_at (ag109 S.p) (sz109 S.p), part_sc (ag3 S.p), part_all (ag34 S.p) (sz34 S.p), part_at (ag34 S.p) (sz34 S.p), part_sc (ag4 S.p), t0, t1, t2, t3, t4, t5, t6, t9, t10, e0, e1, e2, e3, e4, pt, pe, f60, f61, f62, f63, beqI_t, beqI_f, bneI_t, bneI_f, bne_self_eq_false, beq_self_eq_true, dec_t, dec_f, cells_self, cells_other, Nat.zero_add, Nat.add_zero]
          exact Ends.some (by simp_all [takesT, beqZ])
        · by_cases c5 : t.ok = 6
          · simp (maxSteps := 1000000) (disch := first | omega | (simp (disch := first | omega | (simp only [EvV.len, MonV.len, ThV.len, EnV.len, List.length_append, List.length_cons, List.length_nil, List.length_set]; first | done | omega)) only [EvV.len, MonV.len, ThV.len, EnV.len, amSide, Int.reduceToNat, Nat.reducePow, Nat.reduceMul]; first | done | omega)) only  [↓amPre, amPost, ↓s_lit', Nat.reduceAdd, Nat.reduceSub, List.replicate, retA, resultsA, resultA, toC, toCL, Nat.reduceEqDiff, (fa109_0 S.p), (fa109_2 S.p), (fa109_3 S.p), (fa27_0 S.p), (fa34_0 S.p), part_all (ag109 S.p) (sz109 S.p), part_at (ag109 S.p) (sz109 S.p), part_sc (ag3 S.p), part_all (ag34 S.p) (sz34 S.p), part_at (ag34 S.p) (sz34 S.p), part_sc (ag4 S.p), t0, t1, t2, t3, t4, t5, t6, t9, t10, e0, e1, e2, e3, e4, pt, pe, f60, f61, f62, f63, beqI_t, beqI_f, bneI_t, bneI_f, bne_self_eq_false, beq_self_eq_true, dec_t, dec_f, cells_self, cells_other, Nat.zero_add, Nat.add_zero]
            exact Ends.some (by simp_all [takesT, beqZ])
          · by_cases c6 : t.mn = 0
            · simp (maxSteps := 1000000) (disch := first | omega | (simp (disch := first | omega | (simp only [EvV.len, MonV.len, ThV.len, EnV.len, List.length_append, List.length_cons, List.length_nil, List.length_set]; first | done | omega)) only [EvV.len, MonV.len, ThV.len, EnV.len, amSide, Int.reduceToNat, Nat.reducePow, Nat.reduceMul]; first | done | omega)) only  [↓amPre, amPost, ↓s_lit', Nat.reduceAdd, Nat.reduceSub, List.replicate, retA, resultsA, resultA, toC, toCL, Nat.reduceEqDiff, (fa109_0 S.p), (fa109_2 S.p), (fa109_3 S.p), (fa27_0 S.p), (fa34_0 S.p), part_all (ag109 S.p) (sz109 S.p), part_at (ag109 S.p) (sz109 S.p), part_sc (ag3 S.p), part_all (ag34 S.p) (sz34 S.p), part_at (ag34 S.p) (sz34 S.p), part_sc (ag4 S.p), t0, t1, t2, t3, t4, t5, t6, t9, t10, e0, e1, e2, e3, e4, pt, pe, f60, f61, f62, f63, beqI_t, beqI_f, bneI_t, bneI_f, bne_self_eq_false, beq_self_eq_true, dec_t, dec_f, cells_self, cells_other, Nat.zero_add, Nat.add_zero]
              exact Ends.some (by simp_all [takesT, beqZ])
            · simp (maxSteps := 1000000) (disch := first | omega | (simp (disch := first | omega | (simp only [EvV.len, MonV.len, ThV.len, EnV.len, List.length_append, List.length_cons, List.length_nil, List.length_set]; first | done | omega)) only [EvV.len, MonV.len, ThV.len, EnV.len, amSide, Int.reduceToNat, Nat.reducePow, Nat.reduceMul]; first | done | omega)) only  [↓amPre, amPost, ↓s_lit', Nat.reduceAdd, Nat.reduceSub, List.replicate, retA, resultsA, resultA, toC, toCL, Nat.reduceEqDiff, (fa109_0 S.p), (fa109_2 S.p), (fa109_3 S.p), (fa27_0 S.p), (fa34_0 S.p), part_all (ag109 S.p) (sz109 S.p), part_at (ag109 S.p) (sz109 S.p), part_sc (ag3 S.p), part_all (ag34 S.p) (sz34 S.p), part_at (ag34 S.p) (sz34 S.p), part_sc (ag4 S.p), t0, t1, t2, t3, t4, t5, t6, t9, t10, e0, e1, e2, e3, e4, pt, pe, f60, f61, f62, f63, beqI_t, beqI_f, bneI_t, bneI_f, bne_self_eq_false, beq_self_eq_true, dec_t, dec_f, cells_self, cells_other, Nat.zero_add, Nat.add_zero]
              exact Ends.some (by simp_all [takesT, beqZ])
    · rw [decide_eq_false c2] at f61
      simp (maxSteps := 1000000) (disch := first | omega | (simp (disch := first | omega | (simp only [EvV.len, MonV.len, ThV.len, EnV.len, List.length_append, List.length_cons, List.length_nil, List.length_set]; first | done | omega)) only [EvV.len, MonV.len, ThV.len, EnV.len, amSide, Int.reduceToNat, Nat.reducePow, Nat.reduceMul]; first | done | omega)) only  [↓amPre, amPost, ↓s_lit', Nat.reduceAdd, Nat.reduceSub, List.replicate, retA, resultsA, resultA, toC, toCL, Nat.reduceEqDiff, (fa109_0 S.p), (fa109_2 S.p), (fa109_3 S.p), (fa27_0 S.p), (fa34_0 S.p), part_all (ag109 S.p) (sz109 S.p), part_at (ag109 S.p) (sz109 S.p), part_sc (ag3 S.p), part_all (ag34 S.p) (sz34 S.p), part_at (ag34 S.p) (sz34 S.p), part_sc (ag4 S.p), t0, t1, t2, t3, t4, t5, t6, t9, t10, e0, e1, e2, e3, e4, pt, pe, f60, f61, f62, f63, beqI_t, beqI_f, bneI_t, bneI_f, bne_self_eq_false, beq_self_eq_true, dec_t, dec_f, cells_self, cells_other, Nat.zero_add, Nat.add_zero]
      exact Ends.some (by simp_all [takesT, beqZ])
/-- What an operation tells. -/
theorem s42n (hd : 2 ≤ d) (t : ThV) (hn : t.op = false ∨ t.mn = 0) (lk : Nat) (h : List AO) : ev P T K d 42 [.ag t.cells] lk h = some (.tup [.sc (.int .i64 0), .sc (.int .i64 0), .sc (.bool false)], h) := by
  obtain ⟨d, rfl⟩ : ∃ k, d = k + 1 := ⟨d - 1, by omega⟩
  refine ev_pure (at42 S.t) rfl ?_
  unfold i42 Try.f42
  have t0 := t.c0
  have t1 := t.c1
  have t2 := t.c2
  have t3 := t.c3
  have t4 := t.c4
  have t5 := t.c5
  have t6 := t.c6
  have t9 := t.c9
  have t10 := t.c10
  cases c1 : t.op with
  | false =>
    rw [c1] at t4
    simp (maxSteps := 1000000) (disch := first | omega | (simp (disch := first | omega | (simp only [EvV.len, MonV.len, ThV.len, EnV.len, List.length_append, List.length_cons, List.length_nil, List.length_set]; first | done | omega)) only [EvV.len, MonV.len, ThV.len, EnV.len, amSide, Int.reduceToNat, Nat.reducePow, Nat.reduceMul]; first | done | omega)) only  [↓amPre, amPost, ↓s_lit', Nat.reduceAdd, Nat.reduceSub, List.replicate, retA, resultsA, resultA, toC, toCL, Nat.reduceEqDiff, (fa109_0 S.p), (fa109_2 S.p), (fa109_3 S.p), (fa109_4 S.p), (fa27_0 S.p), (fa34_0 S.p), (fa34_3 S.p), (fa34_4 S.p), part_sc (ag3 S.p), part_sc (ag32 S.p), part_sc (ag4 S.p), t0, t1, t2, t3, t4, t5, t6, t9, t10, beqI_t, beqI_f, bneI_t, bneI_f, bne_self_eq_false, beq_self_eq_true, dec_t, dec_f, cells_self, cells_other, Nat.zero_add, Nat.add_zero]
    exact Ends.some rfl
  | true =>
    rw [c1] at t4
    have c2 : t.mn = 0 := hn.resolve_left (by rw [c1]; simp)
    simp (maxSteps := 1000000) (disch := first | omega | (simp (disch := first | omega | (simp only [EvV.len, MonV.len, ThV.len, EnV.len, List.length_append, List.length_cons, List.length_nil, List.length_set]; first | done | omega)) only [EvV.len, MonV.len, ThV.len, EnV.len, amSide, Int.reduceToNat, Nat.reducePow, Nat.reduceMul]; first | done | omega)) only  [↓amPre, amPost, ↓s_lit', Nat.reduceAdd, Nat.reduceSub, List.replicate, retA, resultsA, resultA, toC, toCL, Nat.reduceEqDiff, (fa109_0 S.p), (fa109_2 S.p), (fa109_3 S.p), (fa109_4 S.p), (fa27_0 S.p), (fa34_0 S.p), (fa34_3 S.p), (fa34_4 S.p), part_sc (ag3 S.p), part_sc (ag32 S.p), part_sc (ag4 S.p), t0, t1, t2, t3, t4, t5, t6, t9, t10, beqI_t, beqI_f, bneI_t, bneI_f, bne_self_eq_false, beq_self_eq_true, dec_t, dec_f, cells_self, cells_other, Nat.zero_add, Nat.add_zero]
    exact Ends.some rfl
theorem s42 (hd : 2 ≤ d) (t : ThV) (h1 : t.op = true) (h2 : t.mn ≠ 0) (h3 : 0 ≤ t.mn ∧ t.mn ≤ 1000000) (lk : Nat) (h : List AO) : ev P T K d 42 [.ag t.cells] lk h = some (.tup [.sc (.int .i64 (numT t)), .sc (.int .i64 t.ls.e), .sc (.bool (decide (doneT t)))], h) := by
  obtain ⟨d, rfl⟩ : ∃ k, d = k + 1 := ⟨d - 1, by omega⟩
  refine ev_pure (at42 S.t) rfl ?_
  unfold i42 Try.f42
  have t0 := t.c0
  have t1 := t.c1
  have t2 := t.c2
  have t3 := t.c3
  have t4 := t.c4
  have t5 := t.c5
  have t6 := t.c6
  have t9 := t.c9
  have t10 := t.c10
  have f60 := fun k lk h => s60 S (show 1 ≤ d by omega) k lk h
  rw [h1] at t4
  have hdn : doneT t ↔ (t.ls.k = comM t.ok ∨ t.ok = 4 ∧ t.ls.k = 4 ∧ t.ls.e ≠ 0) := by unfold doneT; simp [h1, h2]
  by_cases c4 : t.ok = 4
  · have hnum : numT t = 0 := by unfold numT; rw [if_pos c4]
    rw [hnum]
    by_cases c0 : t.ls.k = comM t.ok
    · simp (maxSteps := 1000000) (disch := first | omega | (simp (disch := first | omega | (simp only [EvV.len, MonV.len, ThV.len, EnV.len, List.length_append, List.length_cons, List.length_nil, List.length_set]; first | done | omega)) only [EvV.len, MonV.len, ThV.len, EnV.len, amSide, Int.reduceToNat, Nat.reducePow, Nat.reduceMul]; first | done | omega)) only  [↓amPre, amPost, ↓s_lit', Nat.reduceAdd, Nat.reduceSub, List.replicate, retA, resultsA, resultA, toC, toCL, Nat.reduceEqDiff, (fa109_0 S.p), (fa109_2 S.p), (fa109_3 S.p), (fa109_4 S.p), (fa27_0 S.p), (fa34_0 S.p), (fa34_3 S.p), (fa34_4 S.p), part_sc (ag3 S.p), part_sc (ag32 S.p), part_sc (ag4 S.p), t0, t1, t2, t3, t4, t5, t6, t9, t10, f60, beqI_t, beqI_f, bneI_t, bneI_f, bne_self_eq_false, beq_self_eq_true, dec_t, dec_f, cells_self, cells_other, Nat.zero_add, Nat.add_zero]
      exact Ends.some (by simp [hdn, c0, beqZ])
    · by_cases ck : t.ls.k = 4
      · simp (maxSteps := 1000000) (disch := first | omega | (simp (disch := first | omega | (simp only [EvV.len, MonV.len, ThV.len, EnV.len, List.length_append, List.length_cons, List.length_nil, List.length_set]; first | done | omega)) only [EvV.len, MonV.len, ThV.len, EnV.len, amSide, Int.reduceToNat, Nat.reducePow, Nat.reduceMul]; first | done | omega)) only  [↓amPre, amPost, ↓s_lit', Nat.reduceAdd, Nat.reduceSub, List.replicate, retA, resultsA, resultA, toC, toCL, Nat.reduceEqDiff, (fa109_0 S.p), (fa109_2 S.p), (fa109_3 S.p), (fa109_4 S.p), (fa27_0 S.p), (fa34_0 S.p), (fa34_3 S.p), (fa34_4 S.p), part_sc (ag3 S.p), part_sc (ag32 S.p), part_sc (ag4 S.p), t0, t1, t2, t3, t4, t5, t6, t9, t10, f60, beqI_t, beqI_f, bneI_t, bneI_f, bne_self_eq_false, beq_self_eq_true, dec_t, dec_f, cells_self, cells_other, Nat.zero_add, Nat.add_zero]
        exact Ends.some (by simp [hdn, comM, c4, ck, bne, beqZ])
      · simp (maxSteps := 1000000) (disch := first | omega | (simp (disch := first | omega | (simp only [EvV.len, MonV.len, ThV.len, EnV.len, List.length_append, List.length_cons, List.length_nil, List.length_set]; first | done | omega)) only [EvV.len, MonV.len, ThV.len, EnV.len, amSide, Int.reduceToNat, Nat.reducePow, Nat.reduceMul]; first | done | omega)) only  [↓amPre, amPost, ↓s_lit', Nat.reduceAdd, Nat.reduceSub, List.replicate, retA, resultsA, resultA, toC, toCL, Nat.reduceEqDiff, (fa109_0 S.p), (fa109_2 S.p), (fa109_3 S.p), (fa109_4 S.p), (fa27_0 S.p), (fa34_0 S.p), (fa34_3 S.p), (fa34_4 S.p), part_sc (ag3 S.p), part_sc (ag32 S.p), part_sc (ag4 S.p), t0, t1, t2, t3, t4, t5, t6, t9, t10, f60, beqI_t, beqI_f, bneI_t, bneI_f, bne_self_eq_false, beq_self_eq_true, dec_t, dec_f, cells_self, cells_other, Nat.zero_add, Nat.add_zero]
        exact Ends.some (by simp [hdn, c0, ck])
  have hdn2 : doneT t ↔ t.ls.k = comM t.ok := by rw [hdn]; exact ⟨fun q => q.elim id fun q => absurd q.1 c4, .inl⟩
  by_cases c6 : t.ok = 6
  · have hnum : numT t = t.mn - 1 := by unfold numT; rw [if_neg c4, if_pos c6]
    rw [hnum]
    simp (maxSteps := 1000000) (disch := first | omega | (simp (disch := first | omega | (simp only [EvV.len, MonV.len, ThV.len, EnV.len, List.length_append, List.length_cons, List.length_nil, List.length_set]; first | done | omega)) only [EvV.len, MonV.len, ThV.len, EnV.len, amSide, Int.reduceToNat, Nat.reducePow, Nat.reduceMul]; first | done | omega)) only  [↓amPre, amPost, ↓s_lit', Nat.reduceAdd, Nat.reduceSub, List.replicate, retA, resultsA, resultA, toC, toCL, Nat.reduceEqDiff, (fa109_0 S.p), (fa109_2 S.p), (fa109_3 S.p), (fa109_4 S.p), (fa27_0 S.p), (fa34_0 S.p), (fa34_3 S.p), (fa34_4 S.p), part_sc (ag3 S.p), part_sc (ag32 S.p), part_sc (ag4 S.p), t0, t1, t2, t3, t4, t5, t6, t9, t10, f60, wrap_i64, beqI_t, beqI_f, bneI_t, bneI_f, bne_self_eq_false, beq_self_eq_true, dec_t, dec_f, cells_self, cells_other, Nat.zero_add, Nat.add_zero]
    exact Ends.some (by simp [hdn2, beqZ])
  by_cases c5 : t.ok = 5
  · have hnum : numT t = t.ls.a := by unfold numT; rw [if_neg c4, if_neg c6, if_pos (.inl c5)]
    rw [hnum]
    simp (maxSteps := 1000000) (disch := first | omega | (simp (disch := first | omega | (simp only [EvV.len, MonV.len, ThV.len, EnV.len, List.length_append, List.length_cons, List.length_nil, List.length_set]; first | done | omega)) only [EvV.len, MonV.len, ThV.len, EnV.len, amSide, Int.reduceToNat, Nat.reducePow, Nat.reduceMul]; first | done | omega)) only  [↓amPre, amPost, ↓s_lit', Nat.reduceAdd, Nat.reduceSub, List.replicate, retA, resultsA, resultA, toC, toCL, Nat.reduceEqDiff, (fa109_0 S.p), (fa109_2 S.p), (fa109_3 S.p), (fa109_4 S.p), (fa27_0 S.p), (fa34_0 S.p), (fa34_3 S.p), (fa34_4 S.p), part_sc (ag3 S.p), part_sc (ag32 S.p), part_sc (ag4 S.p), t0, t1, t2, t3, t4, t5, t6, t9, t10, f60, beqI_t, beqI_f, bneI_t, bneI_f, bne_self_eq_false, beq_self_eq_true, dec_t, dec_f, cells_self, cells_other, Nat.zero_add, Nat.add_zero]
    exact Ends.some (by simp [hdn2, beqZ])
  by_cases c7 : t.ok = 7
  · have hnum : numT t = t.ls.a := by unfold numT; rw [if_neg c4, if_neg c6, if_pos (.inr (.inl c7))]
    rw [hnum]
    simp (maxSteps := 1000000) (disch := first | omega | (simp (disch := first | omega | (simp only [EvV.len, MonV.len, ThV.len, EnV.len, List.length_append, List.length_cons, List.length_nil, List.length_set]; first | done | omega)) only [EvV.len, MonV.len, ThV.len, EnV.len, amSide, Int.reduceToNat, Nat.reducePow, Nat.reduceMul]; first | done | omega)) only  [↓amPre, amPost, ↓s_lit', Nat.reduceAdd, Nat.reduceSub, List.replicate, retA, resultsA, resultA, toC, toCL, Nat.reduceEqDiff, (fa109_0 S.p), (fa109_2 S.p), (fa109_3 S.p), (fa109_4 S.p), (fa27_0 S.p), (fa34_0 S.p), (fa34_3 S.p), (fa34_4 S.p), part_sc (ag3 S.p), part_sc (ag32 S.p), part_sc (ag4 S.p), t0, t1, t2, t3, t4, t5, t6, t9, t10, f60, beqI_t, beqI_f, bneI_t, bneI_f, bne_self_eq_false, beq_self_eq_true, dec_t, dec_f, cells_self, cells_other, Nat.zero_add, Nat.add_zero]
    exact Ends.some (by simp [hdn2, beqZ])
  by_cases c8 : t.ok = 8
  · have hnum : numT t = t.ls.a := by unfold numT; rw [if_neg c4, if_neg c6, if_pos (.inr (.inr c8))]
    rw [hnum]
    simp (maxSteps := 1000000) (disch := first | omega | (simp (disch := first | omega | (simp only [EvV.len, MonV.len, ThV.len, EnV.len, List.length_append, List.length_cons, List.length_nil, List.length_set]; first | done | omega)) only [EvV.len, MonV.len, ThV.len, EnV.len, amSide, Int.reduceToNat, Nat.reducePow, Nat.reduceMul]; first | done | omega)) only  [↓amPre, amPost, ↓s_lit', Nat.reduceAdd, Nat.reduceSub, List.replicate, retA, resultsA, resultA, toC, toCL, Nat.reduceEqDiff, (fa109_0 S.p), (fa109_2 S.p), (fa109_3 S.p), (fa109_4 S.p), (fa27_0 S.p), (fa34_0 S.p), (fa34_3 S.p), (fa34_4 S.p), part_sc (ag3 S.p), part_sc (ag32 S.p), part_sc (ag4 S.p), t0, t1, t2, t3, t4, t5, t6, t9, t10, f60, beqI_t, beqI_f, bneI_t, bneI_f, bne_self_eq_false, beq_self_eq_true, dec_t, dec_f, cells_self, cells_other, Nat.zero_add, Nat.add_zero]
    exact Ends.some (by simp [hdn2, beqZ])
  have hnum : numT t = 0 := by unfold numT; rw [if_neg c4, if_neg c6, if_neg (by omega)]
  rw [hnum]
  simp (maxSteps := 1000000) (disch := first | omega | (simp (disch := first | omega | (simp only [EvV.len, MonV.len, ThV.len, EnV.len, List.length_append, List.length_cons, List.length_nil, List.length_set]; first | done | omega)) only [EvV.len, MonV.len, ThV.len, EnV.len, amSide, Int.reduceToNat, Nat.reducePow, Nat.reduceMul]; first | done | omega)) only  [↓amPre, amPost, ↓s_lit', Nat.reduceAdd, Nat.reduceSub, List.replicate, retA, resultsA, resultA, toC, toCL, Nat.reduceEqDiff, (fa109_0 S.p), (fa109_2 S.p), (fa109_3 S.p), (fa109_4 S.p), (fa27_0 S.p), (fa34_0 S.p), (fa34_3 S.p), (fa34_4 S.p), part_sc (ag3 S.p), part_sc (ag32 S.p), part_sc (ag4 S.p), t0, t1, t2, t3, t4, t5, t6, t9, t10, f60, beqI_t, beqI_f, bneI_t, bneI_f, bne_self_eq_false, beq_self_eq_true, dec_t, dec_f, cells_self, cells_other, Nat.zero_add, Nat.add_zero]
  exact Ends.some (by simp [hdn2, beqZ])
end
end Go.AM
/- Logs: what an entry is; the document's plain functions. Conditions: none. -/
set_option linter.unusedVariables false
set_option linter.unusedSimpArgs false
set_option maxRecDepth 100000
namespace Go.AM
open Go.Proofs
-- LENS: EvV.len, MonV.len, ThV.len, EnV.len
theorem eqL_i (zs : List Nat) (xs ys : List SV) (a b : Int) : eqL (1 :: zs) (.int .i64 a :: xs) (.int .i64 b :: ys) = (eqL zs xs ys).map ((a == b) && ·) := by simp [eqL, eqS]
theorem eqL_0 : eqL [] [] [] = some true := nrfl rfl
theorem splice_def (cs : List SV) (i : Nat) (new : List SV) : splice cs i new = cs.take i ++ new ++ cs.drop (i + new.length) := nrfl rfl
theorem cells_lt {h : List AO} {l : Nat} {cs : List SV} (hc : cellsAt h l = some cs) : l < h.length := by
  rcases Nat.lt_or_ge l h.length with q | q
  · exact q
  · rw [cellsAt, List.getElem?_eq_none q] at hc; cases hc
/-- The document's thread, as it lies there. -/
def atC (a : AtV) (q : SV) : List SV := [.int .i64 a.cl, .bool a.op, .int .i64 a.ok, .int .i64 a.oo, .int .i64 a.oa, q]
theorem last_at {h : List AO} {q : SV} {a : AtV} (hq : Rs EvV.cells 5 h q a.L) (hl : a.L ≠ []) {t : ThV} (M : AtM t a) : ∃ b, q = .sl b 0 a.L.length 5 ∧ b < h.length ∧ cellsAt h b = some (recs EvV.cells a.L) ∧ a.L[a.L.length - 1]? = some t.ls := by
  have hpos : 0 < a.L.length := by cases hL : a.L with | nil => exact absurd hL hl | cons _ _ => simp
  obtain ⟨b, h1, h2, h3⟩ := hq.at hpos
  refine ⟨b, h1, h2, h3, ?_⟩
  have hg : a.L.getLast? = some (a.L.getLast hl) := List.getLast?_eq_some_getLast hl
  rw [M.ls _ hg, ← hg, List.getLast?_eq_getElem?]
section
variable {P : Program} {T : Tab} {K d : Nat} (S : Sd P T K)
include S
theorem s39 (hd : 1 ≤ d) (x : EnV) (lk : Nat) (h : List AO) : ev P T K d 39 [.ag x.cells] lk h = some (.v (.sc (.bool (decide (bareE x)))), h) := by
  obtain ⟨d, rfl⟩ : ∃ k, d = k + 1 := ⟨d - 1, by omega⟩
  refine ev_pure (at39 S.t) rfl ?_
  unfold i39 Try.f39
  obtain ⟨kd, th, nm, ok, oo, oa, ⟨vk, vt, vo, va, ve⟩, vl, er⟩ := x
  unfold EnV.cells
  by_cases c1 : kd = 1
  · simp (maxSteps := 1000000) (disch := first | omega | (simp (disch := first | omega | (simp only [EvV.len, MonV.len, ThV.len, EnV.len, List.length_append, List.length_cons, List.length_nil, List.length_set]; first | done | omega)) only [EvV.len, MonV.len, ThV.len, EnV.len, amSide, Int.reduceToNat, Nat.reducePow, Nat.reduceMul]; first | done | omega)) only  [↓amPre, amPost, ↓s_lit', Nat.reduceAdd, Nat.reduceSub, List.replicate, retA, resultsA, resultA, toC, toCL, Nat.reduceEqDiff, (ze36 S.p), eql_ag, neq_ag, (eq36 S.p), (bu36 S.p), (fa34_1 S.p), (fa36_0 S.p), (fa36_1 S.p), (fa36_2 S.p), (fa36_3 S.p), (fa36_4 S.p), (fa36_5 S.p), (fa36_6 S.p), part_all (ag27 S.p) (sz27 S.p), part_at (ag27 S.p) (sz27 S.p), part_sc (ag3 S.p), part_sc (ag32 S.p), part_all (ag34 S.p) (sz34 S.p), part_at (ag34 S.p) (sz34 S.p), part_all (ag36 S.p) (sz36 S.p), part_at (ag36 S.p) (sz36 S.p), store_last (sz27 S.p), (sz27 S.p), store_last (sz3 S.p), (sz3 S.p), store_last (sz32 S.p), (sz32 S.p), store_last (sz34 S.p), (sz34 S.p), store_last (sz36 S.p), (sz36 S.p), splice_def, eqL_i, eqL_0, beqI_t, beqI_f, bneI_t, bneI_f, bne_self_eq_false, beq_self_eq_true, dec_t, dec_f, cells_self, cells_other, Nat.zero_add, Nat.add_zero]
    exact Ends.some (by simp_all [bareE, noEv, beqZ, eq_comm, Bool.and_assoc])
  · by_cases c2 : kd = 2
    · simp (maxSteps := 1000000) (disch := first | omega | (simp (disch := first | omega | (simp only [EvV.len, MonV.len, ThV.len, EnV.len, List.length_append, List.length_cons, List.length_nil, List.length_set]; first | done | omega)) only [EvV.len, MonV.len, ThV.len, EnV.len, amSide, Int.reduceToNat, Nat.reducePow, Nat.reduceMul]; first | done | omega)) only  [↓amPre, amPost, ↓s_lit', Nat.reduceAdd, Nat.reduceSub, List.replicate, retA, resultsA, resultA, toC, toCL, Nat.reduceEqDiff, (ze36 S.p), eql_ag, neq_ag, (eq36 S.p), (bu36 S.p), (fa34_1 S.p), (fa36_0 S.p), (fa36_1 S.p), (fa36_2 S.p), (fa36_3 S.p), (fa36_4 S.p), (fa36_5 S.p), (fa36_6 S.p), part_all (ag27 S.p) (sz27 S.p), part_at (ag27 S.p) (sz27 S.p), part_sc (ag3 S.p), part_sc (ag32 S.p), part_all (ag34 S.p) (sz34 S.p), part_at (ag34 S.p) (sz34 S.p), part_all (ag36 S.p) (sz36 S.p), part_at (ag36 S.p) (sz36 S.p), store_last (sz27 S.p), (sz27 S.p), store_last (sz3 S.p), (sz3 S.p), store_last (sz32 S.p), (sz32 S.p), store_last (sz34 S.p), (sz34 S.p), store_last (sz36 S.p), (sz36 S.p), splice_def, eqL_i, eqL_0, beqI_t, beqI_f, bneI_t, bneI_f, bne_self_eq_false, beq_self_eq_true, dec_t, dec_f, cells_self, cells_other, Nat.zero_add, Nat.add_zero]
      exact Ends.some (by simp_all [bareE, noEv, beqZ, eq_comm, Bool.and_assoc])
    · by_cases c3 : kd = 3
      · simp (maxSteps := 1000000) (disch := first | omega | (simp (disch := first | omega | (simp only [EvV.len, MonV.len, ThV.len, EnV.len, List.length_append, List.length_cons, List.length_nil, List.length_set]; first | done | omega)) only [EvV.len, MonV.len, ThV.len, EnV.len, amSide, Int.reduceToNat, Nat.reducePow, Nat.reduceMul]; first | done | omega)) only  [↓amPre, amPost, ↓s_lit', Nat.reduceAdd, Nat.reduceSub, List.replicate, retA, resultsA, resultA, toC, toCL, Nat.reduceEqDiff, (ze36 S.p), eql_ag, neq_ag, (eq36 S.p), (bu36 S.p), (fa34_1 S.p), (fa36_0 S.p), (fa36_1 S.p), (fa36_2 S.p), (fa36_3 S.p), (fa36_4 S.p), (fa36_5 S.p), (fa36_6 S.p), part_all (ag27 S.p) (sz27 S.p), part_at (ag27 S.p) (sz27 S.p), part_sc (ag3 S.p), part_sc (ag32 S.p), part_all (ag34 S.p) (sz34 S.p), part_at (ag34 S.p) (sz34 S.p), part_all (ag36 S.p) (sz36 S.p), part_at (ag36 S.p) (sz36 S.p), store_last (sz27 S.p), (sz27 S.p), store_last (sz3 S.p), (sz3 S.p), store_last (sz32 S.p), (sz32 S.p), store_last (sz34 S.p), (sz34 S.p), store_last (sz36 S.p), (sz36 S.p), splice_def, eqL_i, eqL_0, beqI_t, beqI_f, bneI_t, bneI_f, bne_self_eq_false, beq_self_eq_true, dec_t, dec_f, cells_self, cells_other, Nat.zero_add, Nat.add_zero]
        exact Ends.some (by simp_all [bareE, noEv, beqZ, eq_comm, Bool.and_assoc])
      · simp (maxSteps := 1000000) (disch := first | omega | (simp (disch := first | omega | (simp only [EvV.len, MonV.len, ThV.len, EnV.len, List.length_append, List.length_cons, List.length_nil, List.length_set]; first | done | omega)) only [EvV.len, MonV.len, ThV.len, EnV.len, amSide, Int.reduceToNat, Nat.reducePow, Nat.reduceMul]; first | done | omega)) only  [↓amPre, amPost, ↓s_lit', Nat.reduceAdd, Nat.reduceSub, List.replicate, retA, resultsA, resultA, toC, toCL, Nat.reduceEqDiff, (ze36 S.p), eql_ag, neq_ag, (eq36 S.p), (bu36 S.p), (fa34_1 S.p), (fa36_0 S.p), (fa36_1 S.p), (fa36_2 S.p), (fa36_3 S.p), (fa36_4 S.p), (fa36_5 S.p), (fa36_6 S.p), part_all (ag27 S.p) (sz27 S.p), part_at (ag27 S.p) (sz27 S.p), part_sc (ag3 S.p), part_sc (ag32 S.p), part_all (ag34 S.p) (sz34 S.p), part_at (ag34 S.p) (sz34 S.p), part_all (ag36 S.p) (sz36 S.p), part_at (ag36 S.p) (sz36 S.p), store_last (sz27 S.p), (sz27 S.p), store_last (sz3 S.p), (sz3 S.p), store_last (sz32 S.p), (sz32 S.p), store_last (sz34 S.p), (sz34 S.p), store_last (sz36 S.p), (sz36 S.p), splice_def, eqL_i, eqL_0, beqI_t, beqI_f, bneI_t, bneI_f, bne_self_eq_false, beq_self_eq_true, dec_t, dec_f, cells_self, cells_other, Nat.zero_add, Nat.add_zero]
        exact Ends.some (by simp_all [bareE])
theorem s32 (hd : 1 ≤ d) (x : EnV) (lk : Nat) (h : List AO) : ev P T K d 32 [.ag x.cells] lk h = some (.v (.sc (.bool (decide (bareE x)))), h) := by
  obtain ⟨d, rfl⟩ : ∃ k, d = k + 1 := ⟨d - 1, by omega⟩
  refine ev_pure (at32 S.t) rfl ?_
  unfold i32 Try.f32
  obtain ⟨kd, th, nm, ok, oo, oa, ⟨vk, vt, vo, va, ve⟩, vl, er⟩ := x
  unfold EnV.cells
  by_cases c1 : kd = 1
  · simp (maxSteps := 1000000) (disch := first | omega | (simp (disch := first | omega | (simp only [EvV.len, MonV.len, ThV.len, EnV.len, List.length_append, List.length_cons, List.length_nil, List.length_set]; first | done | omega)) only [EvV.len, MonV.len, ThV.len, EnV.len, amSide, Int.reduceToNat, Nat.reducePow, Nat.reduceMul]; first | done | omega)) only  [↓amPre, amPost, ↓s_lit', Nat.reduceAdd, Nat.reduceSub, List.replicate, retA, resultsA, resultA, toC, toCL, Nat.reduceEqDiff, (ze31 S.p), eql_ag, neq_ag, (eq31 S.p), (bu31 S.p), (fa29_1 S.p), (fa31_0 S.p), (fa31_1 S.p), (fa31_2 S.p), (fa31_3 S.p), (fa31_4 S.p), (fa31_5 S.p), (fa31_6 S.p), part_all (ag27 S.p) (sz27 S.p), part_at (ag27 S.p) (sz27 S.p), part_all (ag29 S.p) (sz29 S.p), part_at (ag29 S.p) (sz29 S.p), part_sc (ag3 S.p), part_all (ag31 S.p) (sz31 S.p), part_at (ag31 S.p) (sz31 S.p), store_last (sz31 S.p), (sz31 S.p), splice_def, eqL_i, eqL_0, beqI_t, beqI_f, bneI_t, bneI_f, bne_self_eq_false, beq_self_eq_true, dec_t, dec_f, cells_self, cells_other, Nat.zero_add, Nat.add_zero]
    exact Ends.some (by simp_all [bareE, noEv, beqZ, eq_comm, Bool.and_assoc])
  · by_cases c2 : kd = 2
    · simp (maxSteps := 1000000) (disch := first | omega | (simp (disch := first | omega | (simp only [EvV.len, MonV.len, ThV.len, EnV.len, List.length_append, List.length_cons, List.length_nil, List.length_set]; first | done | omega)) only [EvV.len, MonV.len, ThV.len, EnV.len, amSide, Int.reduceToNat, Nat.reducePow, Nat.reduceMul]; first | done | omega)) only  [↓amPre, amPost, ↓s_lit', Nat.reduceAdd, Nat.reduceSub, List.replicate, retA, resultsA, resultA, toC, toCL, Nat.reduceEqDiff, (ze31 S.p), eql_ag, neq_ag, (eq31 S.p), (bu31 S.p), (fa29_1 S.p), (fa31_0 S.p), (fa31_1 S.p), (fa31_2 S.p), (fa31_3 S.p), (fa31_4 S.p), (fa31_5 S.p), (fa31_6 S.p), part_all (ag27 S.p) (sz27 S.p), part_at (ag27 S.p) (sz27 S.p), part_all (ag29 S.p) (sz29 S.p), part_at (ag29 S.p) (sz29 S.p), part_sc (ag3 S.p), part_all (ag31 S.p) (sz31 S.p), part_at (ag31 S.p) (sz31 S.p), store_last (sz31 S.p), (sz31 S.p), splice_def, eqL_i, eqL_0, beqI_t, beqI_f, bneI_t, bneI_f, bne_self_eq_false, beq_self_eq_true, dec_t, dec_f, cells_self, cells_other, Nat.zero_add, Nat.add_zero]
      exact Ends.some (by simp_all [bareE, noEv, beqZ, eq_comm, Bool.and_assoc])
    · by_cases c3 : kd = 3
      · simp (maxSteps := 1000000) (disch := first | omega | (simp (disch := first | omega | (simp only [EvV.len, MonV.len, ThV.len, EnV.len, List.length_append, List.length_cons, List.length_nil, List.length_set]; first | done | omega)) only [EvV.len, MonV.len, ThV.len, EnV.len, amSide, Int.reduceToNat, Nat.reducePow, Nat.reduceMul]; first | done | omega)) only  [↓amPre, amPost, ↓s_lit', Nat.reduceAdd, Nat.reduceSub, List.replicate, retA, resultsA, resultA, toC, toCL, Nat.reduceEqDiff, (ze31 S.p), eql_ag, neq_ag, (eq31 S.p), (bu31 S.p), (fa29_1 S.p), (fa31_0 S.p), (fa31_1 S.p), (fa31_2 S.p), (fa31_3 S.p), (fa31_4 S.p), (fa31_5 S.p), (fa31_6 S.p), part_all (ag27 S.p) (sz27 S.p), part_at (ag27 S.p) (sz27 S.p), part_all (ag29 S.p) (sz29 S.p), part_at (ag29 S.p) (sz29 S.p), part_sc (ag3 S.p), part_all (ag31 S.p) (sz31 S.p), part_at (ag31 S.p) (sz31 S.p), store_last (sz31 S.p), (sz31 S.p), splice_def, eqL_i, eqL_0, beqI_t, beqI_f, bneI_t, bneI_f, bne_self_eq_false, beq_self_eq_true, dec_t, dec_f, cells_self, cells_other, Nat.zero_add, Nat.add_zero]
        exact Ends.some (by simp_all [bareE, noEv, beqZ, eq_comm, Bool.and_assoc])
      · simp (maxSteps := 1000000) (disch := first | omega | (simp (disch := first | omega | (simp only [EvV.len, MonV.len, ThV.len, EnV.len, List.length_append, List.length_cons, List.length_nil, List.length_set]; first | done | omega)) only [EvV.len, MonV.len, ThV.len, EnV.len, amSide, Int.reduceToNat, Nat.reducePow, Nat.reduceMul]; first | done | omega)) only  [↓amPre, amPost, ↓s_lit', Nat.reduceAdd, Nat.reduceSub, List.replicate, retA, resultsA, resultA, toC, toCL, Nat.reduceEqDiff, (ze31 S.p), eql_ag, neq_ag, (eq31 S.p), (bu31 S.p), (fa29_1 S.p), (fa31_0 S.p), (fa31_1 S.p), (fa31_2 S.p), (fa31_3 S.p), (fa31_4 S.p), (fa31_5 S.p), (fa31_6 S.p), part_all (ag27 S.p) (sz27 S.p), part_at (ag27 S.p) (sz27 S.p), part_all (ag29 S.p) (sz29 S.p), part_at (ag29 S.p) (sz29 S.p), part_sc (ag3 S.p), part_all (ag31 S.p) (sz31 S.p), part_at (ag31 S.p) (sz31 S.p), store_last (sz31 S.p), (sz31 S.p), splice_def, eqL_i, eqL_0, beqI_t, beqI_f, bneI_t, bneI_f, bne_self_eq_false, beq_self_eq_true, dec_t, dec_f, cells_self, cells_other, Nat.zero_add, Nat.add_zero]
        exact Ends.some (by simp_all [bareE])
/-- A log's first block. -/
def lgC (G : LgV) (pm bt : Nat) (qe : SV) : List SV := [.int .i64 G.objs, .ptr pm 0, .sl bt 0 G.ths.length 11, qe]
theorem s40 (hd : 2 ≤ d) (G : LgV) {p pm bt : Nat} {qe : SV} (k o a : Int) (lk : Nat) (h : List AO) (hp : cellsAt h p = some (lgC G pm bt qe)) : ev P T K d 40 [.sc (.ptr p 0), .ag [.int .i64 k, .int .i64 o, .int .i64 a]] lk h = some (.v (.sc (.bool (decide (mayO G.objs G.ths.length k o a)))), h) := by
  obtain ⟨d, rfl⟩ : ∃ k, d = k + 1 := ⟨d - 1, by omega⟩
  refine ev_pure (at40 S.t) rfl ?_
  unfold i40 Try.f40
  have hpl := cells_lt hp
  have f60 := fun k lk h => s60 S (show 1 ≤ d by omega) k lk h
  unfold lgC at hp
  have hdec : ∀ q : Prop, [Decidable q] → (mayO G.objs G.ths.length k o a ↔ q) → decide (mayO G.objs G.ths.length k o a) = decide q := fun q _ e => decide_eq_decide.2 e
  have hcm := comM_in (k := k)
  by_cases c1 : comM k = 0
  · simp (maxSteps := 1000000) (disch := first | omega | (simp (disch := first | omega | (simp only [EvV.len, MonV.len, ThV.len, EnV.len, List.length_append, List.length_cons, List.length_nil, List.length_set]; first | done | omega)) only [EvV.len, MonV.len, ThV.len, EnV.len, amSide, Int.reduceToNat, Nat.reducePow, Nat.reduceMul]; first | done | omega)) only  [↓amPre, amPost, ↓s_lit', Nat.reduceAdd, Nat.reduceSub, List.replicate, retA, resultsA, resultA, toC, toCL, Nat.reduceEqDiff, (fa27_0 S.p), (fa27_1 S.p), (fa27_2 S.p), (fa67_0 S.p), (fa67_2 S.p), len_sl (un65 S.p), len_nils (un65 S.p), part_sc (ag3 S.p), part_sc (ag65 S.p), hp, f60, beqI_t, beqI_f, bneI_t, bneI_f, bne_self_eq_false, beq_self_eq_true, dec_t, dec_f, cells_self, cells_other, Nat.zero_add, Nat.add_zero]
    exact Ends.some (by rw [decide_eq_false]; exact fun q => absurd (hcm.2 q.1) (fun q => q c1))
  · have c1' := hcm.1 c1
    by_cases c2 : o < 0
    · simp (maxSteps := 1000000) (disch := first | omega | (simp (disch := first | omega | (simp only [EvV.len, MonV.len, ThV.len, EnV.len, List.length_append, List.length_cons, List.length_nil, List.length_set]; first | done | omega)) only [EvV.len, MonV.len, ThV.len, EnV.len, amSide, Int.reduceToNat, Nat.reducePow, Nat.reduceMul]; first | done | omega)) only  [↓amPre, amPost, ↓s_lit', Nat.reduceAdd, Nat.reduceSub, List.replicate, retA, resultsA, resultA, toC, toCL, Nat.reduceEqDiff, (fa27_0 S.p), (fa27_1 S.p), (fa27_2 S.p), (fa67_0 S.p), (fa67_2 S.p), len_sl (un65 S.p), len_nils (un65 S.p), part_sc (ag3 S.p), part_sc (ag65 S.p), hp, f60, beqI_t, beqI_f, bneI_t, bneI_f, bne_self_eq_false, beq_self_eq_true, dec_t, dec_f, cells_self, cells_other, Nat.zero_add, Nat.add_zero]
      exact Ends.some (by rw [decide_eq_false (by unfold mayO; omega)])
    · by_cases c3 : G.objs ≤ o
      · simp (maxSteps := 1000000) (disch := first | omega | (simp (disch := first | omega | (simp only [EvV.len, MonV.len, ThV.len, EnV.len, List.length_append, List.length_cons, List.length_nil, List.length_set]; first | done | omega)) only [EvV.len, MonV.len, ThV.len, EnV.len, amSide, Int.reduceToNat, Nat.reducePow, Nat.reduceMul]; first | done | omega)) only  [↓amPre, amPost, ↓s_lit', Nat.reduceAdd, Nat.reduceSub, List.replicate, retA, resultsA, resultA, toC, toCL, Nat.reduceEqDiff, (fa27_0 S.p), (fa27_1 S.p), (fa27_2 S.p), (fa67_0 S.p), (fa67_2 S.p), len_sl (un65 S.p), len_nils (un65 S.p), part_sc (ag3 S.p), part_sc (ag65 S.p), hp, f60, beqI_t, beqI_f, bneI_t, bneI_f, bne_self_eq_false, beq_self_eq_true, dec_t, dec_f, cells_self, cells_other, Nat.zero_add, Nat.add_zero]
        exact Ends.some (by rw [decide_eq_false (by unfold mayO; omega)])
      · by_cases c4 : a < 0
        · simp (maxSteps := 1000000) (disch := first | omega | (simp (disch := first | omega | (simp only [EvV.len, MonV.len, ThV.len, EnV.len, List.length_append, List.length_cons, List.length_nil, List.length_set]; first | done | omega)) only [EvV.len, MonV.len, ThV.len, EnV.len, amSide, Int.reduceToNat, Nat.reducePow, Nat.reduceMul]; first | done | omega)) only  [↓amPre, amPost, ↓s_lit', Nat.reduceAdd, Nat.reduceSub, List.replicate, retA, resultsA, resultA, toC, toCL, Nat.reduceEqDiff, (fa27_0 S.p), (fa27_1 S.p), (fa27_2 S.p), (fa67_0 S.p), (fa67_2 S.p), len_sl (un65 S.p), len_nils (un65 S.p), part_sc (ag3 S.p), part_sc (ag65 S.p), hp, f60, beqI_t, beqI_f, bneI_t, bneI_f, bne_self_eq_false, beq_self_eq_true, dec_t, dec_f, cells_self, cells_other, Nat.zero_add, Nat.add_zero]
          exact Ends.some (by rw [decide_eq_false (by unfold mayO; omega)])
        · by_cases c5 : k = 9
          · skip
            simp (maxSteps := 1000000) (disch := first | omega | (simp (disch := first | omega | (simp only [EvV.len, MonV.len, ThV.len, EnV.len, List.length_append, List.length_cons, List.length_nil, List.length_set]; first | done | omega)) only [EvV.len, MonV.len, ThV.len, EnV.len, amSide, Int.reduceToNat, Nat.reducePow, Nat.reduceMul]; first | done | omega)) only  [↓amPre, amPost, ↓s_lit', Nat.reduceAdd, Nat.reduceSub, List.replicate, retA, resultsA, resultA, toC, toCL, Nat.reduceEqDiff, (fa27_0 S.p), (fa27_1 S.p), (fa27_2 S.p), (fa67_0 S.p), (fa67_2 S.p), len_sl (un65 S.p), len_nils (un65 S.p), part_sc (ag3 S.p), part_sc (ag65 S.p), hp, f60, beqI_t, beqI_f, bneI_t, bneI_f, bne_self_eq_false, beq_self_eq_true, dec_t, dec_f, cells_self, cells_other, Nat.zero_add, Nat.add_zero]
            exact Ends.some (by rw [show decide (mayO G.objs G.ths.length k o a) = decide (a < (G.ths.length : Int)) from decide_eq_decide.2 (by unfold mayO; rw [if_pos c5]; omega)])
          · skip
            by_cases c6 : k = 4
            · simp (maxSteps := 1000000) (disch := first | omega | (simp (disch := first | omega | (simp only [EvV.len, MonV.len, ThV.len, EnV.len, List.length_append, List.length_cons, List.length_nil, List.length_set]; first | done | omega)) only [EvV.len, MonV.len, ThV.len, EnV.len, amSide, Int.reduceToNat, Nat.reducePow, Nat.reduceMul]; first | done | omega)) only  [↓amPre, amPost, ↓s_lit', Nat.reduceAdd, Nat.reduceSub, List.replicate, retA, resultsA, resultA, toC, toCL, Nat.reduceEqDiff, (fa27_0 S.p), (fa27_1 S.p), (fa27_2 S.p), (fa67_0 S.p), (fa67_2 S.p), len_sl (un65 S.p), len_nils (un65 S.p), part_sc (ag3 S.p), part_sc (ag65 S.p), hp, f60, beqI_t, beqI_f, bneI_t, bneI_f, bne_self_eq_false, beq_self_eq_true, dec_t, dec_f, cells_self, cells_other, Nat.zero_add, Nat.add_zero]
              exact Ends.some (by rw [decide_eq_true (by unfold mayO; rw [if_neg c5]; omega)])
            · simp (maxSteps := 1000000) (disch := first | omega | (simp (disch := first | omega | (simp only [EvV.len, MonV.len, ThV.len, EnV.len, List.length_append, List.length_cons, List.length_nil, List.length_set]; first | done | omega)) only [EvV.len, MonV.len, ThV.len, EnV.len, amSide, Int.reduceToNat, Nat.reducePow, Nat.reduceMul]; first | done | omega)) only  [↓amPre, amPost, ↓s_lit', Nat.reduceAdd, Nat.reduceSub, List.replicate, retA, resultsA, resultA, toC, toCL, Nat.reduceEqDiff, (fa27_0 S.p), (fa27_1 S.p), (fa27_2 S.p), (fa67_0 S.p), (fa67_2 S.p), len_sl (un65 S.p), len_nils (un65 S.p), part_sc (ag3 S.p), part_sc (ag65 S.p), hp, f60, beqI_t, beqI_f, bneI_t, bneI_f, bne_self_eq_false, beq_self_eq_true, dec_t, dec_f, cells_self, cells_other, Nat.zero_add, Nat.add_zero]
              refine Ends.some ?_
              by_cases c7 : a = 0
              · rw [beqI_t c7, decide_eq_true (by unfold mayO; rw [if_neg c5]; omega)]
              · rw [beqI_f c7, decide_eq_false (by unfold mayO; rw [if_neg c5]; omega)]
theorem s33 (hd : 1 ≤ d) (k o a n m : Int) (lk : Nat) (h : List AO) : ev P T K d 33 [.ag [.int .i64 k, .int .i64 o, .int .i64 a], .sc (.int .i64 n), .sc (.int .i64 m)] lk h = some (.v (.sc (.bool (decide (mayO m n k o a)))), h) := by
  obtain ⟨d, rfl⟩ : ∃ k, d = k + 1 := ⟨d - 1, by omega⟩
  refine ev_pure (at33 S.t) rfl ?_
  unfold i33 Try.f33
  have hdec : ∀ q : Prop, [Decidable q] → (mayO m n k o a ↔ q) → decide (mayO m n k o a) = decide q := fun q _ e => decide_eq_decide.2 e
  by_cases c1 : k < 1
  · simp (maxSteps := 1000000) (disch := first | omega | (simp (disch := first | omega | (simp only [EvV.len, MonV.len, ThV.len, EnV.len, List.length_append, List.length_cons, List.length_nil, List.length_set]; first | done | omega)) only [EvV.len, MonV.len, ThV.len, EnV.len, amSide, Int.reduceToNat, Nat.reducePow, Nat.reduceMul]; first | done | omega)) only  [↓amPre, amPost, ↓s_lit', Nat.reduceAdd, Nat.reduceSub, List.replicate, retA, resultsA, resultA, toC, toCL, Nat.reduceEqDiff, (fa27_0 S.p), (fa27_1 S.p), (fa27_2 S.p), part_sc (ag3 S.p), beqI_t, beqI_f, bneI_t, bneI_f, bne_self_eq_false, beq_self_eq_true, dec_t, dec_f, cells_self, cells_other, Nat.zero_add, Nat.add_zero]
    exact Ends.some (by rw [decide_eq_false (by unfold mayO; omega)])
  · by_cases c0 : 9 < k
    · simp (maxSteps := 1000000) (disch := first | omega | (simp (disch := first | omega | (simp only [EvV.len, MonV.len, ThV.len, EnV.len, List.length_append, List.length_cons, List.length_nil, List.length_set]; first | done | omega)) only [EvV.len, MonV.len, ThV.len, EnV.len, amSide, Int.reduceToNat, Nat.reducePow, Nat.reduceMul]; first | done | omega)) only  [↓amPre, amPost, ↓s_lit', Nat.reduceAdd, Nat.reduceSub, List.replicate, retA, resultsA, resultA, toC, toCL, Nat.reduceEqDiff, (fa27_0 S.p), (fa27_1 S.p), (fa27_2 S.p), part_sc (ag3 S.p), beqI_t, beqI_f, bneI_t, bneI_f, bne_self_eq_false, beq_self_eq_true, dec_t, dec_f, cells_self, cells_other, Nat.zero_add, Nat.add_zero]
      exact Ends.some (by rw [decide_eq_false (by unfold mayO; omega)])
    · by_cases c2 : o < 0
      · simp (maxSteps := 1000000) (disch := first | omega | (simp (disch := first | omega | (simp only [EvV.len, MonV.len, ThV.len, EnV.len, List.length_append, List.length_cons, List.length_nil, List.length_set]; first | done | omega)) only [EvV.len, MonV.len, ThV.len, EnV.len, amSide, Int.reduceToNat, Nat.reducePow, Nat.reduceMul]; first | done | omega)) only  [↓amPre, amPost, ↓s_lit', Nat.reduceAdd, Nat.reduceSub, List.replicate, retA, resultsA, resultA, toC, toCL, Nat.reduceEqDiff, (fa27_0 S.p), (fa27_1 S.p), (fa27_2 S.p), part_sc (ag3 S.p), beqI_t, beqI_f, bneI_t, bneI_f, bne_self_eq_false, beq_self_eq_true, dec_t, dec_f, cells_self, cells_other, Nat.zero_add, Nat.add_zero]
        exact Ends.some (by rw [decide_eq_false (by unfold mayO; omega)])
      · by_cases c3 : m ≤ o
        · simp (maxSteps := 1000000) (disch := first | omega | (simp (disch := first | omega | (simp only [EvV.len, MonV.len, ThV.len, EnV.len, List.length_append, List.length_cons, List.length_nil, List.length_set]; first | done | omega)) only [EvV.len, MonV.len, ThV.len, EnV.len, amSide, Int.reduceToNat, Nat.reducePow, Nat.reduceMul]; first | done | omega)) only  [↓amPre, amPost, ↓s_lit', Nat.reduceAdd, Nat.reduceSub, List.replicate, retA, resultsA, resultA, toC, toCL, Nat.reduceEqDiff, (fa27_0 S.p), (fa27_1 S.p), (fa27_2 S.p), part_sc (ag3 S.p), beqI_t, beqI_f, bneI_t, bneI_f, bne_self_eq_false, beq_self_eq_true, dec_t, dec_f, cells_self, cells_other, Nat.zero_add, Nat.add_zero]
          exact Ends.some (by rw [decide_eq_false (by unfold mayO; omega)])
        · by_cases c4 : a < 0
          · simp (maxSteps := 1000000) (disch := first | omega | (simp (disch := first | omega | (simp only [EvV.len, MonV.len, ThV.len, EnV.len, List.length_append, List.length_cons, List.length_nil, List.length_set]; first | done | omega)) only [EvV.len, MonV.len, ThV.len, EnV.len, amSide, Int.reduceToNat, Nat.reducePow, Nat.reduceMul]; first | done | omega)) only  [↓amPre, amPost, ↓s_lit', Nat.reduceAdd, Nat.reduceSub, List.replicate, retA, resultsA, resultA, toC, toCL, Nat.reduceEqDiff, (fa27_0 S.p), (fa27_1 S.p), (fa27_2 S.p), part_sc (ag3 S.p), beqI_t, beqI_f, bneI_t, bneI_f, bne_self_eq_false, beq_self_eq_true, dec_t, dec_f, cells_self, cells_other, Nat.zero_add, Nat.add_zero]
            exact Ends.some (by rw [decide_eq_false (by unfold mayO; omega)])
          · by_cases c5 : k = 9
            · skip
              simp (maxSteps := 1000000) (disch := first | omega | (simp (disch := first | omega | (simp only [EvV.len, MonV.len, ThV.len, EnV.len, List.length_append, List.length_cons, List.length_nil, List.length_set]; first | done | omega)) only [EvV.len, MonV.len, ThV.len, EnV.len, amSide, Int.reduceToNat, Nat.reducePow, Nat.reduceMul]; first | done | omega)) only  [↓amPre, amPost, ↓s_lit', Nat.reduceAdd, Nat.reduceSub, List.replicate, retA, resultsA, resultA, toC, toCL, Nat.reduceEqDiff, (fa27_0 S.p), (fa27_1 S.p), (fa27_2 S.p), part_sc (ag3 S.p), beqI_t, beqI_f, bneI_t, bneI_f, bne_self_eq_false, beq_self_eq_true, dec_t, dec_f, cells_self, cells_other, Nat.zero_add, Nat.add_zero]
              exact Ends.some (by rw [show decide (mayO m n k o a) = decide (a < n) from decide_eq_decide.2 (by unfold mayO; rw [if_pos c5]; omega)])
            · skip
              by_cases c6 : k = 4
              · simp (maxSteps := 1000000) (disch := first | omega | (simp (disch := first | omega | (simp only [EvV.len, MonV.len, ThV.len, EnV.len, List.length_append, List.length_cons, List.length_nil, List.length_set]; first | done | omega)) only [EvV.len, MonV.len, ThV.len, EnV.len, amSide, Int.reduceToNat, Nat.reducePow, Nat.reduceMul]; first | done | omega)) only  [↓amPre, amPost, ↓s_lit', Nat.reduceAdd, Nat.reduceSub, List.replicate, retA, resultsA, resultA, toC, toCL, Nat.reduceEqDiff, (fa27_0 S.p), (fa27_1 S.p), (fa27_2 S.p), part_sc (ag3 S.p), beqI_t, beqI_f, bneI_t, bneI_f, bne_self_eq_false, beq_self_eq_true, dec_t, dec_f, cells_self, cells_other, Nat.zero_add, Nat.add_zero]
                exact Ends.some (by rw [decide_eq_true (by unfold mayO; rw [if_neg c5]; omega)])
              · simp (maxSteps := 1000000) (disch := first | omega | (simp (disch := first | omega | (simp only [EvV.len, MonV.len, ThV.len, EnV.len, List.length_append, List.length_cons, List.length_nil, List.length_set]; first | done | omega)) only [EvV.len, MonV.len, ThV.len, EnV.len, amSide, Int.reduceToNat, Nat.reducePow, Nat.reduceMul]; first | done | omega)) only  [↓amPre, amPost, ↓s_lit', Nat.reduceAdd, Nat.reduceSub, List.replicate, retA, resultsA, resultA, toC, toCL, Nat.reduceEqDiff, (fa27_0 S.p), (fa27_1 S.p), (fa27_2 S.p), part_sc (ag3 S.p), beqI_t, beqI_f, bneI_t, bneI_f, bne_self_eq_false, beq_self_eq_true, dec_t, dec_f, cells_self, cells_other, Nat.zero_add, Nat.add_zero]
                refine Ends.some ?_
                by_cases c7 : a = 0
                · rw [beqI_t c7, decide_eq_true (by unfold mayO; rw [if_neg c5]; omega)]
                · rw [beqI_f c7, decide_eq_false (by unfold mayO; rw [if_neg c5]; omega)]
theorem s57 (hd : 1 ≤ d) (k : Int) (hk : 1 ≤ k ∧ k ≤ 9) (lk : Nat) (h : List AO) : ev P T K d 57 [.sc (.int .i64 k)] lk h = some (.v (.sc (.int .i64 (comM k))), h) := by
  obtain ⟨d, rfl⟩ : ∃ k, d = k + 1 := ⟨d - 1, by omega⟩
  refine ev_pure (at57 S.t) rfl ?_
  unfold i57 Try.f57
  rcases (show k = 1 ∨ k = 2 ∨ k = 3 ∨ k = 4 ∨ k = 5 ∨ k = 6 ∨ k = 7 ∨ k = 8 ∨ k = 9 by omega) with rfl | rfl | rfl | rfl | rfl | rfl | rfl | rfl | rfl <;>
  · simp (maxSteps := 1000000) (disch := first | omega | (simp (disch := first | omega | (simp only [EvV.len, MonV.len, ThV.len, EnV.len, List.length_append, List.length_cons, List.length_nil, List.length_set]; first | done | omega)) only [EvV.len, MonV.len, ThV.len, EnV.len, amSide, Int.reduceToNat, Nat.reducePow, Nat.reduceMul]; first | done | omega)) only  [↓amPre, amPost, ↓s_lit', Nat.reduceAdd, Nat.reduceSub, List.replicate, retA, resultsA, resultA, toC, toCL, Nat.reduceEqDiff, lit_fill (un81 S.p) (sz3 S.p) (ze3 S.p), iaddr_sl (un81 S.p) (sz3 S.p), part_sc (ag3 S.p), splice_def, idx_ok, List.flatten_cons, List.flatten_nil, Nat.mul_one, Nat.one_mul, Int.reduceToNat, beqI_t, beqI_f, bneI_t, bneI_f, bne_self_eq_false, beq_self_eq_true, dec_t, dec_f, cells_self, cells_other, Nat.zero_add, Nat.add_zero]
    exact Ends.some rfl
theorem s58 (hd : 1 ≤ d) (k : Int) (e : EvV) (lk : Nat) (h : List AO) : ev P T K d 58 [.sc (.int .i64 k), .ag e.cells] lk h = some (.v (.sc (.int .i64 (if k = 7 ∨ k = 8 then e.a else 0))), h) := by
  obtain ⟨d, rfl⟩ : ∃ k, d = k + 1 := ⟨d - 1, by omega⟩
  refine ev_pure (at58 S.t) rfl ?_
  unfold i58 Try.f58
  have e3 := e.c3
  by_cases c7 : k = 7
  · rw [if_pos (.inl c7)]
    simp (maxSteps := 1000000) (disch := first | omega | (simp (disch := first | omega | (simp only [EvV.len, MonV.len, ThV.len, EnV.len, List.length_append, List.length_cons, List.length_nil, List.length_set]; first | done | omega)) only [EvV.len, MonV.len, ThV.len, EnV.len, amSide, Int.reduceToNat, Nat.reducePow, Nat.reduceMul]; first | done | omega)) only  [↓amPre, amPost, ↓s_lit', Nat.reduceAdd, Nat.reduceSub, List.replicate, retA, resultsA, resultA, toC, toCL, Nat.reduceEqDiff, (fa29_3 S.p), part_sc (ag3 S.p), e3, beqI_t, beqI_f, bneI_t, bneI_f, bne_self_eq_false, beq_self_eq_true, dec_t, dec_f, cells_self, cells_other, Nat.zero_add, Nat.add_zero]
    exact Ends.some rfl
  · by_cases c8 : k = 8
    · rw [if_pos (.inr c8)]
      simp (maxSteps := 1000000) (disch := first | omega | (simp (disch := first | omega | (simp only [EvV.len, MonV.len, ThV.len, EnV.len, List.length_append, List.length_cons, List.length_nil, List.length_set]; first | done | omega)) only [EvV.len, MonV.len, ThV.len, EnV.len, amSide, Int.reduceToNat, Nat.reducePow, Nat.reduceMul]; first | done | omega)) only  [↓amPre, amPost, ↓s_lit', Nat.reduceAdd, Nat.reduceSub, List.replicate, retA, resultsA, resultA, toC, toCL, Nat.reduceEqDiff, (fa29_3 S.p), part_sc (ag3 S.p), e3, beqI_t, beqI_f, bneI_t, bneI_f, bne_self_eq_false, beq_self_eq_true, dec_t, dec_f, cells_self, cells_other, Nat.zero_add, Nat.add_zero]
      exact Ends.some rfl
    · rw [if_neg (by omega)]
      simp (maxSteps := 1000000) (disch := first | omega | (simp (disch := first | omega | (simp only [EvV.len, MonV.len, ThV.len, EnV.len, List.length_append, List.length_cons, List.length_nil, List.length_set]; first | done | omega)) only [EvV.len, MonV.len, ThV.len, EnV.len, amSide, Int.reduceToNat, Nat.reducePow, Nat.reduceMul]; first | done | omega)) only  [↓amPre, amPost, ↓s_lit', Nat.reduceAdd, Nat.reduceSub, List.replicate, retA, resultsA, resultA, toC, toCL, Nat.reduceEqDiff, (fa29_3 S.p), part_sc (ag3 S.p), e3, beqI_t, beqI_f, bneI_t, bneI_f, bne_self_eq_false, beq_self_eq_true, dec_t, dec_f, cells_self, cells_other, Nat.zero_add, Nat.add_zero]
      exact Ends.some rfl
set_option maxHeartbeats 8000000 in
theorem s35 (hd : 2 ≤ d) {t : ThV} {a : AtV} (M : AtM t a) (hk : t.op = true → 1 ≤ t.ok ∧ t.ok ≤ 9) (hm : a.L.length ≤ 1000000) (e : EvV) {q : SV} (lk : Nat) (h : List AO) (hq : Rs EvV.cells 5 h q a.L) :
    ev P T K d 35 [.ag (atC a q), .ag e.cells] lk h = some (.v (.sc (.bool (decide (takesT t e)))), h) := by
  obtain ⟨d, rfl⟩ : ∃ k, d = k + 1 := ⟨d - 1, by omega⟩
  refine ev_pure (at35 S.t) rfl ?_
  unfold i35 Try.f35
  have hlen := fun hh => hq.len (un48 S.p) hh
  have hcl := M.cl
  have hop := M.op
  have hok := M.ok
  have hoo := M.oo
  have hoa := M.oa
  have hmn := M.mn
  have e0 := e.c0
  have e2 := e.c2
  have e3 := e.c3
  have f57 := fun hk lk h => s57 S (show 1 ≤ d by omega) a.ok hk lk h
  unfold atC
  rw [← hcl, ← hop, ← hok, ← hoo, ← hoa]
  rw [← hok] at f57
  cases c1 : t.op with
  | false =>
    simp (maxSteps := 1000000) (disch := first | omega | (simp (disch := first | omega | (simp only [EvV.len, MonV.len, ThV.len, EnV.len, List.length_append, List.length_cons, List.length_nil, List.length_set]; first | done | omega)) only [EvV.len, MonV.len, ThV.len, EnV.len, amSide, Int.reduceToNat, Nat.reducePow, Nat.reduceMul]; first | done | omega)) only  [↓amPre, amPost, ↓s_lit', Nat.reduceAdd, Nat.reduceSub, List.replicate, retA, resultsA, resultA, toC, toCL, Nat.reduceEqDiff, (ze29 S.p), (fa27_0 S.p), (fa27_1 S.p), (fa27_2 S.p), (fa29_0 S.p), (fa29_2 S.p), (fa29_3 S.p), (fa29_4 S.p), (fa50_1 S.p), (fa50_2 S.p), (fa50_3 S.p), iaddr_sl (un48 S.p) (sz29 S.p), len_sl (un48 S.p), len_nils (un48 S.p), part_all (ag29 S.p) (sz29 S.p), part_at (ag29 S.p) (sz29 S.p), part_sc (ag3 S.p), part_sc (ag4 S.p), part_sc (ag48 S.p), store_last (sz29 S.p), (sz29 S.p), e0, e2, e3, beqI_t, beqI_f, bneI_t, bneI_f, bne_self_eq_false, beq_self_eq_true, dec_t, dec_f, cells_self, cells_other, Nat.zero_add, Nat.add_zero]
    exact Ends.some (by simp_all [takesT])
  | true =>
    have hk := hk c1
    have f57' := fun lk h => f57 hk lk h
    clear f57 hcl hop hok hoo hoa
    by_cases c9 : t.ok = 9
    · by_cases c2 : e.o = 0
      · by_cases c3 : e.a = t.oa
        · by_cases c4 : t.mn = 0
          · have hL : a.L.length = 0 := by omega
            simp (maxSteps := 1000000) (disch := first | omega | (simp (disch := first | omega | (simp only [EvV.len, MonV.len, ThV.len, EnV.len, List.length_append, List.length_cons, List.length_nil, List.length_set]; first | done | omega)) only [EvV.len, MonV.len, ThV.len, EnV.len, amSide, Int.reduceToNat, Nat.reducePow, Nat.reduceMul]; first | done | omega)) only  [↓amPre, amPost, ↓s_lit', Nat.reduceAdd, Nat.reduceSub, List.replicate, retA, resultsA, resultA, toC, toCL, Nat.reduceEqDiff, (ze29 S.p), (fa27_0 S.p), (fa27_1 S.p), (fa27_2 S.p), (fa29_0 S.p), (fa29_2 S.p), (fa29_3 S.p), (fa29_4 S.p), (fa50_1 S.p), (fa50_2 S.p), (fa50_3 S.p), iaddr_sl (un48 S.p) (sz29 S.p), len_sl (un48 S.p), len_nils (un48 S.p), part_all (ag29 S.p) (sz29 S.p), part_at (ag29 S.p) (sz29 S.p), part_sc (ag3 S.p), part_sc (ag4 S.p), part_sc (ag48 S.p), store_last (sz29 S.p), (sz29 S.p), e0, e2, e3, hlen, f57', hL, Int.natCast_zero, beqI_t, beqI_f, bneI_t, bneI_f, bne_self_eq_false, beq_self_eq_true, dec_t, dec_f, cells_self, cells_other, Nat.zero_add, Nat.add_zero]
            exact Ends.some (by simp_all [takesT, ofT, beqZ])
          · have hL : a.L.length ≠ 0 := by omega
            simp (maxSteps := 1000000) (disch := first | omega | (simp (disch := first | omega | (simp only [EvV.len, MonV.len, ThV.len, EnV.len, List.length_append, List.length_cons, List.length_nil, List.length_set]; first | done | omega)) only [EvV.len, MonV.len, ThV.len, EnV.len, amSide, Int.reduceToNat, Nat.reducePow, Nat.reduceMul]; first | done | omega)) only  [↓amPre, amPost, ↓s_lit', Nat.reduceAdd, Nat.reduceSub, List.replicate, retA, resultsA, resultA, toC, toCL, Nat.reduceEqDiff, (ze29 S.p), (fa27_0 S.p), (fa27_1 S.p), (fa27_2 S.p), (fa29_0 S.p), (fa29_2 S.p), (fa29_3 S.p), (fa29_4 S.p), (fa50_1 S.p), (fa50_2 S.p), (fa50_3 S.p), iaddr_sl (un48 S.p) (sz29 S.p), len_sl (un48 S.p), len_nils (un48 S.p), part_all (ag29 S.p) (sz29 S.p), part_at (ag29 S.p) (sz29 S.p), part_sc (ag3 S.p), part_sc (ag4 S.p), part_sc (ag48 S.p), store_last (sz29 S.p), (sz29 S.p), e0, e2, e3, hlen, f57', beqI_t, beqI_f, bneI_t, bneI_f, bne_self_eq_false, beq_self_eq_true, dec_t, dec_f, cells_self, cells_other, Nat.zero_add, Nat.add_zero]
            exact Ends.some (by simp_all [takesT, ofT, beqZ])
        · simp (maxSteps := 1000000) (disch := first | omega | (simp (disch := first | omega | (simp only [EvV.len, MonV.len, ThV.len, EnV.len, List.length_append, List.length_cons, List.length_nil, List.length_set]; first | done | omega)) only [EvV.len, MonV.len, ThV.len, EnV.len, amSide, Int.reduceToNat, Nat.reducePow, Nat.reduceMul]; first | done | omega)) only  [↓amPre, amPost, ↓s_lit', Nat.reduceAdd, Nat.reduceSub, List.replicate, retA, resultsA, resultA, toC, toCL, Nat.reduceEqDiff, (ze29 S.p), (fa27_0 S.p), (fa27_1 S.p), (fa27_2 S.p), (fa29_0 S.p), (fa29_2 S.p), (fa29_3 S.p), (fa29_4 S.p), (fa50_1 S.p), (fa50_2 S.p), (fa50_3 S.p), iaddr_sl (un48 S.p) (sz29 S.p), len_sl (un48 S.p), len_nils (un48 S.p), part_all (ag29 S.p) (sz29 S.p), part_at (ag29 S.p) (sz29 S.p), part_sc (ag3 S.p), part_sc (ag4 S.p), part_sc (ag48 S.p), store_last (sz29 S.p), (sz29 S.p), e0, e2, e3, beqI_t, beqI_f, bneI_t, bneI_f, bne_self_eq_false, beq_self_eq_true, dec_t, dec_f, cells_self, cells_other, Nat.zero_add, Nat.add_zero]
          exact Ends.some (by simp_all [takesT, ofT, beqZ])
      · simp (maxSteps := 1000000) (disch := first | omega | (simp (disch := first | omega | (simp only [EvV.len, MonV.len, ThV.len, EnV.len, List.length_append, List.length_cons, List.length_nil, List.length_set]; first | done | omega)) only [EvV.len, MonV.len, ThV.len, EnV.len, amSide, Int.reduceToNat, Nat.reducePow, Nat.reduceMul]; first | done | omega)) only  [↓amPre, amPost, ↓s_lit', Nat.reduceAdd, Nat.reduceSub, List.replicate, retA, resultsA, resultA, toC, toCL, Nat.reduceEqDiff, (ze29 S.p), (fa27_0 S.p), (fa27_1 S.p), (fa27_2 S.p), (fa29_0 S.p), (fa29_2 S.p), (fa29_3 S.p), (fa29_4 S.p), (fa50_1 S.p), (fa50_2 S.p), (fa50_3 S.p), iaddr_sl (un48 S.p) (sz29 S.p), len_sl (un48 S.p), len_nils (un48 S.p), part_all (ag29 S.p) (sz29 S.p), part_at (ag29 S.p) (sz29 S.p), part_sc (ag3 S.p), part_sc (ag4 S.p), part_sc (ag48 S.p), store_last (sz29 S.p), (sz29 S.p), e0, e2, e3, beqI_t, beqI_f, bneI_t, bneI_f, bne_self_eq_false, beq_self_eq_true, dec_t, dec_f, cells_self, cells_other, Nat.zero_add, Nat.add_zero]
        exact Ends.some (by simp_all [takesT, ofT, beqZ])
    · by_cases c2 : e.o = t.oo
      · by_cases hL : a.L = []
        · have hL0 : a.L.length = 0 := by rw [hL]; rfl
          have hm0 : t.mn = 0 := by omega
          by_cases c4 : t.ok = 4
          · simp (maxSteps := 1000000) (disch := first | omega | (simp (disch := first | omega | (simp only [EvV.len, MonV.len, ThV.len, EnV.len, List.length_append, List.length_cons, List.length_nil, List.length_set]; first | done | omega)) only [EvV.len, MonV.len, ThV.len, EnV.len, amSide, Int.reduceToNat, Nat.reducePow, Nat.reduceMul]; first | done | omega)) only  [↓amPre, amPost, ↓s_lit', Nat.reduceAdd, Nat.reduceSub, List.replicate, retA, resultsA, resultA, toC, toCL, Nat.reduceEqDiff, (ze29 S.p), (fa27_0 S.p), (fa27_1 S.p), (fa27_2 S.p), (fa29_0 S.p), (fa29_2 S.p), (fa29_3 S.p), (fa29_4 S.p), (fa50_1 S.p), (fa50_2 S.p), (fa50_3 S.p), iaddr_sl (un48 S.p) (sz29 S.p), len_sl (un48 S.p), len_nils (un48 S.p), part_all (ag29 S.p) (sz29 S.p), part_at (ag29 S.p) (sz29 S.p), part_sc (ag3 S.p), part_sc (ag4 S.p), part_sc (ag48 S.p), store_last (sz29 S.p), (sz29 S.p), e0, e2, e3, hlen, f57', hL0, Int.natCast_zero, beqI_t, beqI_f, bneI_t, bneI_f, bne_self_eq_false, beq_self_eq_true, dec_t, dec_f, cells_self, cells_other, Nat.zero_add, Nat.add_zero]
            exact Ends.some (by simp_all [takesT, ofT, waitsT, beqZ])
          · by_cases c5 : t.ok = 5
            · by_cases c7 : e.k = 7
              · simp (maxSteps := 1000000) (disch := first | omega | (simp (disch := first | omega | (simp only [EvV.len, MonV.len, ThV.len, EnV.len, List.length_append, List.length_cons, List.length_nil, List.length_set]; first | done | omega)) only [EvV.len, MonV.len, ThV.len, EnV.len, amSide, Int.reduceToNat, Nat.reducePow, Nat.reduceMul]; first | done | omega)) only  [↓amPre, amPost, ↓s_lit', Nat.reduceAdd, Nat.reduceSub, List.replicate, retA, resultsA, resultA, toC, toCL, Nat.reduceEqDiff, (ze29 S.p), (fa27_0 S.p), (fa27_1 S.p), (fa27_2 S.p), (fa29_0 S.p), (fa29_2 S.p), (fa29_3 S.p), (fa29_4 S.p), (fa50_1 S.p), (fa50_2 S.p), (fa50_3 S.p), iaddr_sl (un48 S.p) (sz29 S.p), len_sl (un48 S.p), len_nils (un48 S.p), part_all (ag29 S.p) (sz29 S.p), part_at (ag29 S.p) (sz29 S.p), part_sc (ag3 S.p), part_sc (ag4 S.p), part_sc (ag48 S.p), store_last (sz29 S.p), (sz29 S.p), e0, e2, e3, hlen, f57', hL0, Int.natCast_zero, beqI_t, beqI_f, bneI_t, bneI_f, bne_self_eq_false, beq_self_eq_true, dec_t, dec_f, cells_self, cells_other, Nat.zero_add, Nat.add_zero]
                exact Ends.some (by simp_all [takesT, ofT, tellsT, beqZ])
              · by_cases c8 : e.k = comM t.ok
                · simp (maxSteps := 1000000) (disch := first | omega | (simp (disch := first | omega | (simp only [EvV.len, MonV.len, ThV.len, EnV.len, List.length_append, List.length_cons, List.length_nil, List.length_set]; first | done | omega)) only [EvV.len, MonV.len, ThV.len, EnV.len, amSide, Int.reduceToNat, Nat.reducePow, Nat.reduceMul]; first | done | omega)) only  [↓amPre, amPost, ↓s_lit', Nat.reduceAdd, Nat.reduceSub, List.replicate, retA, resultsA, resultA, toC, toCL, Nat.reduceEqDiff, (ze29 S.p), (fa27_0 S.p), (fa27_1 S.p), (fa27_2 S.p), (fa29_0 S.p), (fa29_2 S.p), (fa29_3 S.p), (fa29_4 S.p), (fa50_1 S.p), (fa50_2 S.p), (fa50_3 S.p), iaddr_sl (un48 S.p) (sz29 S.p), len_sl (un48 S.p), len_nils (un48 S.p), part_all (ag29 S.p) (sz29 S.p), part_at (ag29 S.p) (sz29 S.p), part_sc (ag3 S.p), part_sc (ag4 S.p), part_sc (ag48 S.p), store_last (sz29 S.p), (sz29 S.p), e0, e2, e3, hlen, f57', hL0, Int.natCast_zero, beqI_t, beqI_f, bneI_t, bneI_f, bne_self_eq_false, beq_self_eq_true, dec_t, dec_f, cells_self, cells_other, Nat.zero_add, Nat.add_zero]
                  exact Ends.some (by simp_all [takesT, ofT, tellsT, beqZ])
                · simp (maxSteps := 1000000) (disch := first | omega | (simp (disch := first | omega | (simp only [EvV.len, MonV.len, ThV.len, EnV.len, List.length_append, List.length_cons, List.length_nil, List.length_set]; first | done | omega)) only [EvV.len, MonV.len, ThV.len, EnV.len, amSide, Int.reduceToNat, Nat.reducePow, Nat.reduceMul]; first | done | omega)) only  [↓amPre, amPost, ↓s_lit', Nat.reduceAdd, Nat.reduceSub, List.replicate, retA, resultsA, resultA, toC, toCL, Nat.reduceEqDiff, (ze29 S.p), (fa27_0 S.p), (fa27_1 S.p), (fa27_2 S.p), (fa29_0 S.p), (fa29_2 S.p), (fa29_3 S.p), (fa29_4 S.p), (fa50_1 S.p), (fa50_2 S.p), (fa50_3 S.p), iaddr_sl (un48 S.p) (sz29 S.p), len_sl (un48 S.p), len_nils (un48 S.p), part_all (ag29 S.p) (sz29 S.p), part_at (ag29 S.p) (sz29 S.p), part_sc (ag3 S.p), part_sc (ag4 S.p), part_sc (ag48 S.p), store_last (sz29 S.p), (sz29 S.p), e0, e2, e3, hlen, f57', hL0, Int.natCast_zero, beqI_t, beqI_f, bneI_t, bneI_f, bne_self_eq_false, beq_self_eq_true, dec_t, dec_f, cells_self, cells_other, Nat.zero_add, Nat.add_zero]
                  exact Ends.some (by simp_all [takesT, ofT, tellsT, beqZ])
            · by_cases c6 : t.ok = 6
              · by_cases c7 : e.k = 7
                · simp (maxSteps := 1000000) (disch := first | omega | (simp (disch := first | omega | (simp only [EvV.len, MonV.len, ThV.len, EnV.len, List.length_append, List.length_cons, List.length_nil, List.length_set]; first | done | omega)) only [EvV.len, MonV.len, ThV.len, EnV.len, amSide, Int.reduceToNat, Nat.reducePow, Nat.reduceMul]; first | done | omega)) only  [↓amPre, amPost, ↓s_lit', Nat.reduceAdd, Nat.reduceSub, List.replicate, retA, resultsA, resultA, toC, toCL, Nat.reduceEqDiff, (ze29 S.p), (fa27_0 S.p), (fa27_1 S.p), (fa27_2 S.p), (fa29_0 S.p), (fa29_2 S.p), (fa29_3 S.p), (fa29_4 S.p), (fa50_1 S.p), (fa50_2 S.p), (fa50_3 S.p), iaddr_sl (un48 S.p) (sz29 S.p), len_sl (un48 S.p), len_nils (un48 S.p), part_all (ag29 S.p) (sz29 S.p), part_at (ag29 S.p) (sz29 S.p), part_sc (ag3 S.p), part_sc (ag4 S.p), part_sc (ag48 S.p), store_last (sz29 S.p), (sz29 S.p), e0, e2, e3, hlen, f57', hL0, Int.natCast_zero, beqI_t, beqI_f, bneI_t, bneI_f, bne_self_eq_false, beq_self_eq_true, dec_t, dec_f, cells_self, cells_other, Nat.zero_add, Nat.add_zero]
                  exact Ends.some (by simp_all [takesT, ofT, tellsT, beqZ])
                · by_cases c8 : e.k = comM t.ok
                  · simp (maxSteps := 1000000) (disch := first | omega | (simp (disch := first | omega | (simp only [EvV.len, MonV.len, ThV.len, EnV.len, List.length_append, List.length_cons, List.length_nil, List.length_set]; first | done | omega)) only [EvV.len, MonV.len, ThV.len, EnV.len, amSide, Int.reduceToNat, Nat.reducePow, Nat.reduceMul]; first | done | omega)) only  [↓amPre, amPost, ↓s_lit', Nat.reduceAdd, Nat.reduceSub, List.replicate, retA, resultsA, resultA, toC, toCL, Nat.reduceEqDiff, (ze29 S.p), (fa27_0 S.p), (fa27_1 S.p), (fa27_2 S.p), (fa29_0 S.p), (fa29_2 S.p), (fa29_3 S.p), (fa29_4 S.p), (fa50_1 S.p), (fa50_2 S.p), (fa50_3 S.p), iaddr_sl (un48 S.p) (sz29 S.p), len_sl (un48 S.p), len_nils (un48 S.p), part_all (ag29 S.p) (sz29 S.p), part_at (ag29 S.p) (sz29 S.p), part_sc (ag3 S.p), part_sc (ag4 S.p), part_sc (ag48 S.p), store_last (sz29 S.p), (sz29 S.p), e0, e2, e3, hlen, f57', hL0, Int.natCast_zero, beqI_t, beqI_f, bneI_t, bneI_f, bne_self_eq_false, beq_self_eq_true, dec_t, dec_f, cells_self, cells_other, Nat.zero_add, Nat.add_zero]
                    exact Ends.some (by simp_all [takesT, ofT, tellsT, beqZ])
                  · simp (maxSteps := 1000000) (disch := first | omega | (simp (disch := first | omega | (simp only [EvV.len, MonV.len, ThV.len, EnV.len, List.length_append, List.length_cons, List.length_nil, List.length_set]; first | done | omega)) only [EvV.len, MonV.len, ThV.len, EnV.len, amSide, Int.reduceToNat, Nat.reducePow, Nat.reduceMul]; first | done | omega)) only  [↓amPre, amPost, ↓s_lit', Nat.reduceAdd, Nat.reduceSub, List.replicate, retA, resultsA, resultA, toC, toCL, Nat.reduceEqDiff, (ze29 S.p), (fa27_0 S.p), (fa27_1 S.p), (fa27_2 S.p), (fa29_0 S.p), (fa29_2 S.p), (fa29_3 S.p), (fa29_4 S.p), (fa50_1 S.p), (fa50_2 S.p), (fa50_3 S.p), iaddr_sl (un48 S.p) (sz29 S.p), len_sl (un48 S.p), len_nils (un48 S.p), part_all (ag29 S.p) (sz29 S.p), part_at (ag29 S.p) (sz29 S.p), part_sc (ag3 S.p), part_sc (ag4 S.p), part_sc (ag48 S.p), store_last (sz29 S.p), (sz29 S.p), e0, e2, e3, hlen, f57', hL0, Int.natCast_zero, beqI_t, beqI_f, bneI_t, bneI_f, bne_self_eq_false, beq_self_eq_true, dec_t, dec_f, cells_self, cells_other, Nat.zero_add, Nat.add_zero]
                    exact Ends.some (by simp_all [takesT, ofT, tellsT, beqZ])
              · simp (maxSteps := 1000000) (disch := first | omega | (simp (disch := first | omega | (simp only [EvV.len, MonV.len, ThV.len, EnV.len, List.length_append, List.length_cons, List.length_nil, List.length_set]; first | done | omega)) only [EvV.len, MonV.len, ThV.len, EnV.len, amSide, Int.reduceToNat, Nat.reducePow, Nat.reduceMul]; first | done | omega)) only  [↓amPre, amPost, ↓s_lit', Nat.reduceAdd, Nat.reduceSub, List.replicate, retA, resultsA, resultA, toC, toCL, Nat.reduceEqDiff, (ze29 S.p), (fa27_0 S.p), (fa27_1 S.p), (fa27_2 S.p), (fa29_0 S.p), (fa29_2 S.p), (fa29_3 S.p), (fa29_4 S.p), (fa50_1 S.p), (fa50_2 S.p), (fa50_3 S.p), iaddr_sl (un48 S.p) (sz29 S.p), len_sl (un48 S.p), len_nils (un48 S.p), part_all (ag29 S.p) (sz29 S.p), part_at (ag29 S.p) (sz29 S.p), part_sc (ag3 S.p), part_sc (ag4 S.p), part_sc (ag48 S.p), store_last (sz29 S.p), (sz29 S.p), e0, e2, e3, hlen, f57', hL0, Int.natCast_zero, beqI_t, beqI_f, bneI_t, bneI_f, bne_self_eq_false, beq_self_eq_true, dec_t, dec_f, cells_self, cells_other, Nat.zero_add, Nat.add_zero]
                exact Ends.some (by simp_all [takesT, ofT, beqZ])
        · obtain ⟨b, rfl, hb, hcb, hls⟩ := last_at hq hL M
          have hpos : 0 < a.L.length := by cases hL' : a.L with | nil => exact absurd hL' hL | cons _ _ => simp
          have hN : ((a.L.length : Int) - 1).toNat = a.L.length - 1 := by omega
          have hm1 : ¬ t.mn = 0 := by omega
          have hm2 : 0 < t.mn := by omega
          have hpt := recs_part (ag29 S.p) (sz29 S.p) EvV.len hls
          have r0 := recs_get EvV.len hls 0 (by omega)
          have r3 := recs_get EvV.len hls 3 (by omega)
          rw [Nat.add_zero, t.ls.c0] at r0
          rw [t.ls.c3] at r3
          have l0 := t.ls.c0
          have l4 := t.ls.c4
          have hidx : (a.L.length : Int) - 1 < a.L.length := by omega
          by_cases c4 : t.ok = 4
          · by_cases q1 : t.ls.e = 0
            · by_cases q2 : t.ls.k = 4
              · by_cases q4 : e.k = 5
                · simp (maxSteps := 1000000) (disch := first | omega | (simp (disch := first | omega | (simp only [EvV.len, MonV.len, ThV.len, EnV.len, List.length_append, List.length_cons, List.length_nil, List.length_set]; first | done | omega)) only [EvV.len, MonV.len, ThV.len, EnV.len, amSide, Int.reduceToNat, Nat.reducePow, Nat.reduceMul]; first | done | omega)) only  [↓amPre, amPost, ↓s_lit', Nat.reduceAdd, Nat.reduceSub, List.replicate, retA, resultsA, resultA, toC, toCL, Nat.reduceEqDiff, (ze29 S.p), (fa27_0 S.p), (fa27_1 S.p), (fa27_2 S.p), (fa29_0 S.p), (fa29_2 S.p), (fa29_3 S.p), (fa29_4 S.p), (fa50_1 S.p), (fa50_2 S.p), (fa50_3 S.p), iaddr_sl (un48 S.p) (sz29 S.p), len_sl (un48 S.p), len_nils (un48 S.p), part_all (ag29 S.p) (sz29 S.p), part_at (ag29 S.p) (sz29 S.p), part_sc (ag3 S.p), part_sc (ag4 S.p), part_sc (ag48 S.p), store_last (sz29 S.p), (sz29 S.p), e0, e2, e3, hlen, f57', hcb, hpt, l0, l4, hN, idx_ok, wrap_i64, beqI_t, beqI_f, bneI_t, bneI_f, bne_self_eq_false, beq_self_eq_true, dec_t, dec_f, cells_self, cells_other, Nat.zero_add, Nat.add_zero]
                  exact Ends.some (by simp_all [takesT, ofT, waitsT, beqZ])
                · by_cases q5 : e.k = 6
                  · simp (maxSteps := 1000000) (disch := first | omega | (simp (disch := first | omega | (simp only [EvV.len, MonV.len, ThV.len, EnV.len, List.length_append, List.length_cons, List.length_nil, List.length_set]; first | done | omega)) only [EvV.len, MonV.len, ThV.len, EnV.len, amSide, Int.reduceToNat, Nat.reducePow, Nat.reduceMul]; first | done | omega)) only  [↓amPre, amPost, ↓s_lit', Nat.reduceAdd, Nat.reduceSub, List.replicate, retA, resultsA, resultA, toC, toCL, Nat.reduceEqDiff, (ze29 S.p), (fa27_0 S.p), (fa27_1 S.p), (fa27_2 S.p), (fa29_0 S.p), (fa29_2 S.p), (fa29_3 S.p), (fa29_4 S.p), (fa50_1 S.p), (fa50_2 S.p), (fa50_3 S.p), iaddr_sl (un48 S.p) (sz29 S.p), len_sl (un48 S.p), len_nils (un48 S.p), part_all (ag29 S.p) (sz29 S.p), part_at (ag29 S.p) (sz29 S.p), part_sc (ag3 S.p), part_sc (ag4 S.p), part_sc (ag48 S.p), store_last (sz29 S.p), (sz29 S.p), e0, e2, e3, hlen, f57', hcb, hpt, l0, l4, hN, idx_ok, wrap_i64, beqI_t, beqI_f, bneI_t, bneI_f, bne_self_eq_false, beq_self_eq_true, dec_t, dec_f, cells_self, cells_other, Nat.zero_add, Nat.add_zero]
                    exact Ends.some (by simp_all [takesT, ofT, waitsT, beqZ])
                  · simp (maxSteps := 1000000) (disch := first | omega | (simp (disch := first | omega | (simp only [EvV.len, MonV.len, ThV.len, EnV.len, List.length_append, List.length_cons, List.length_nil, List.length_set]; first | done | omega)) only [EvV.len, MonV.len, ThV.len, EnV.len, amSide, Int.reduceToNat, Nat.reducePow, Nat.reduceMul]; first | done | omega)) only  [↓amPre, amPost, ↓s_lit', Nat.reduceAdd, Nat.reduceSub, List.replicate, retA, resultsA, resultA, toC, toCL, Nat.reduceEqDiff, (ze29 S.p), (fa27_0 S.p), (fa27_1 S.p), (fa27_2 S.p), (fa29_0 S.p), (fa29_2 S.p), (fa29_3 S.p), (fa29_4 S.p), (fa50_1 S.p), (fa50_2 S.p), (fa50_3 S.p), iaddr_sl (un48 S.p) (sz29 S.p), len_sl (un48 S.p), len_nils (un48 S.p), part_all (ag29 S.p) (sz29 S.p), part_at (ag29 S.p) (sz29 S.p), part_sc (ag3 S.p), part_sc (ag4 S.p), part_sc (ag48 S.p), store_last (sz29 S.p), (sz29 S.p), e0, e2, e3, hlen, f57', hcb, hpt, l0, l4, hN, idx_ok, wrap_i64, beqI_t, beqI_f, bneI_t, bneI_f, bne_self_eq_false, beq_self_eq_true, dec_t, dec_f, cells_self, cells_other, Nat.zero_add, Nat.add_zero]
                    exact Ends.some (by simp_all [takesT, ofT, waitsT, beqZ])
              · by_cases q3 : t.ls.k = 5
                · simp (maxSteps := 1000000) (disch := first | omega | (simp (disch := first | omega | (simp only [EvV.len, MonV.len, ThV.len, EnV.len, List.length_append, List.length_cons, List.length_nil, List.length_set]; first | done | omega)) only [EvV.len, MonV.len, ThV.len, EnV.len, amSide, Int.reduceToNat, Nat.reducePow, Nat.reduceMul]; first | done | omega)) only  [↓amPre, amPost, ↓s_lit', Nat.reduceAdd, Nat.reduceSub, List.replicate, retA, resultsA, resultA, toC, toCL, Nat.reduceEqDiff, (ze29 S.p), (fa27_0 S.p), (fa27_1 S.p), (fa27_2 S.p), (fa29_0 S.p), (fa29_2 S.p), (fa29_3 S.p), (fa29_4 S.p), (fa50_1 S.p), (fa50_2 S.p), (fa50_3 S.p), iaddr_sl (un48 S.p) (sz29 S.p), len_sl (un48 S.p), len_nils (un48 S.p), part_all (ag29 S.p) (sz29 S.p), part_at (ag29 S.p) (sz29 S.p), part_sc (ag3 S.p), part_sc (ag4 S.p), part_sc (ag48 S.p), store_last (sz29 S.p), (sz29 S.p), e0, e2, e3, hlen, f57', hcb, hpt, l0, l4, hN, idx_ok, wrap_i64, beqI_t, beqI_f, bneI_t, bneI_f, bne_self_eq_false, beq_self_eq_true, dec_t, dec_f, cells_self, cells_other, Nat.zero_add, Nat.add_zero]
                  exact Ends.some (by simp_all [takesT, ofT, waitsT, beqZ])
                · simp (maxSteps := 1000000) (disch := first | omega | (simp (disch := first | omega | (simp only [EvV.len, MonV.len, ThV.len, EnV.len, List.length_append, List.length_cons, List.length_nil, List.length_set]; first | done | omega)) only [EvV.len, MonV.len, ThV.len, EnV.len, amSide, Int.reduceToNat, Nat.reducePow, Nat.reduceMul]; first | done | omega)) only  [↓amPre, amPost, ↓s_lit', Nat.reduceAdd, Nat.reduceSub, List.replicate, retA, resultsA, resultA, toC, toCL, Nat.reduceEqDiff, (ze29 S.p), (fa27_0 S.p), (fa27_1 S.p), (fa27_2 S.p), (fa29_0 S.p), (fa29_2 S.p), (fa29_3 S.p), (fa29_4 S.p), (fa50_1 S.p), (fa50_2 S.p), (fa50_3 S.p), iaddr_sl (un48 S.p) (sz29 S.p), len_sl (un48 S.p), len_nils (un48 S.p), part_all (ag29 S.p) (sz29 S.p), part_at (ag29 S.p) (sz29 S.p), part_sc (ag3 S.p), part_sc (ag4 S.p), part_sc (ag48 S.p), store_last (sz29 S.p), (sz29 S.p), e0, e2, e3, hlen, f57', hcb, hpt, l0, l4, hN, idx_ok, wrap_i64, beqI_t, beqI_f, bneI_t, bneI_f, bne_self_eq_false, beq_self_eq_true, dec_t, dec_f, cells_self, cells_other, Nat.zero_add, Nat.add_zero]
                  exact Ends.some (by simp_all [takesT, ofT, waitsT, beqZ])
            · by_cases q3 : t.ls.k = 5
              · simp (maxSteps := 1000000) (disch := first | omega | (simp (disch := first | omega | (simp only [EvV.len, MonV.len, ThV.len, EnV.len, List.length_append, List.length_cons, List.length_nil, List.length_set]; first | done | omega)) only [EvV.len, MonV.len, ThV.len, EnV.len, amSide, Int.reduceToNat, Nat.reducePow, Nat.reduceMul]; first | done | omega)) only  [↓amPre, amPost, ↓s_lit', Nat.reduceAdd, Nat.reduceSub, List.replicate, retA, resultsA, resultA, toC, toCL, Nat.reduceEqDiff, (ze29 S.p), (fa27_0 S.p), (fa27_1 S.p), (fa27_2 S.p), (fa29_0 S.p), (fa29_2 S.p), (fa29_3 S.p), (fa29_4 S.p), (fa50_1 S.p), (fa50_2 S.p), (fa50_3 S.p), iaddr_sl (un48 S.p) (sz29 S.p), len_sl (un48 S.p), len_nils (un48 S.p), part_all (ag29 S.p) (sz29 S.p), part_at (ag29 S.p) (sz29 S.p), part_sc (ag3 S.p), part_sc (ag4 S.p), part_sc (ag48 S.p), store_last (sz29 S.p), (sz29 S.p), e0, e2, e3, hlen, f57', hcb, hpt, l0, l4, hN, idx_ok, wrap_i64, beqI_t, beqI_f, bneI_t, bneI_f, bne_self_eq_false, beq_self_eq_true, dec_t, dec_f, cells_self, cells_other, Nat.zero_add, Nat.add_zero]
                exact Ends.some (by simp_all [takesT, ofT, waitsT, beqZ])
              · simp (maxSteps := 1000000) (disch := first | omega | (simp (disch := first | omega | (simp only [EvV.len, MonV.len, ThV.len, EnV.len, List.length_append, List.length_cons, List.length_nil, List.length_set]; first | done | omega)) only [EvV.len, MonV.len, ThV.len, EnV.len, amSide, Int.reduceToNat, Nat.reducePow, Nat.reduceMul]; first | done | omega)) only  [↓amPre, amPost, ↓s_lit', Nat.reduceAdd, Nat.reduceSub, List.replicate, retA, resultsA, resultA, toC, toCL, Nat.reduceEqDiff, (ze29 S.p), (fa27_0 S.p), (fa27_1 S.p), (fa27_2 S.p), (fa29_0 S.p), (fa29_2 S.p), (fa29_3 S.p), (fa29_4 S.p), (fa50_1 S.p), (fa50_2 S.p), (fa50_3 S.p), iaddr_sl (un48 S.p) (sz29 S.p), len_sl (un48 S.p), len_nils (un48 S.p), part_all (ag29 S.p) (sz29 S.p), part_at (ag29 S.p) (sz29 S.p), part_sc (ag3 S.p), part_sc (ag4 S.p), part_sc (ag48 S.p), store_last (sz29 S.p), (sz29 S.p), e0, e2, e3, hlen, f57', hcb, hpt, l0, l4, hN, idx_ok, wrap_i64, beqI_t, beqI_f, bneI_t, bneI_f, bne_self_eq_false, beq_self_eq_true, dec_t, dec_f, cells_self, cells_other, Nat.zero_add, Nat.add_zero]
                exact Ends.some (by simp_all [takesT, ofT, waitsT, beqZ])
          · by_cases c56 : t.ok = 5 ∨ t.ok = 6
            · by_cases c7 : t.ls.k = 7
              · by_cases c8 : e.k = 7 <;> by_cases c5 : t.ok = 6 <;> by_cases c9 : e.k = comM t.ok
                all_goals
                  simp (maxSteps := 1000000) (disch := first | omega | (simp (disch := first | omega | (simp only [EvV.len, MonV.len, ThV.len, EnV.len, List.length_append, List.length_cons, List.length_nil, List.length_set]; first | done | omega)) only [EvV.len, MonV.len, ThV.len, EnV.len, amSide, Int.reduceToNat, Nat.reducePow, Nat.reduceMul]; first | done | omega)) only  [↓amPre, amPost, ↓s_lit', Nat.reduceAdd, Nat.reduceSub, List.replicate, retA, resultsA, resultA, toC, toCL, Nat.reduceEqDiff, (ze29 S.p), (fa27_0 S.p), (fa27_1 S.p), (fa27_2 S.p), (fa29_0 S.p), (fa29_2 S.p), (fa29_3 S.p), (fa29_4 S.p), (fa50_1 S.p), (fa50_2 S.p), (fa50_3 S.p), iaddr_sl (un48 S.p) (sz29 S.p), len_sl (un48 S.p), len_nils (un48 S.p), part_all (ag29 S.p) (sz29 S.p), part_at (ag29 S.p) (sz29 S.p), part_sc (ag3 S.p), part_sc (ag4 S.p), part_sc (ag48 S.p), store_last (sz29 S.p), (sz29 S.p), e0, e2, e3, hlen, f57', hcb, hpt, r0, r3, l0, l4, hN, idx_ok, wrap_i64, beqI_t, beqI_f, bneI_t, bneI_f, bne_self_eq_false, beq_self_eq_true, dec_t, dec_f, cells_self, cells_other, Nat.zero_add, Nat.add_zero]
                  exact Ends.some (by simp_all [takesT, ofT, tellsT, beqZ])
              · rcases c56 with c56 | c56
                all_goals
                  simp (maxSteps := 1000000) (disch := first | omega | (simp (disch := first | omega | (simp only [EvV.len, MonV.len, ThV.len, EnV.len, List.length_append, List.length_cons, List.length_nil, List.length_set]; first | done | omega)) only [EvV.len, MonV.len, ThV.len, EnV.len, amSide, Int.reduceToNat, Nat.reducePow, Nat.reduceMul]; first | done | omega)) only  [↓amPre, amPost, ↓s_lit', Nat.reduceAdd, Nat.reduceSub, List.replicate, retA, resultsA, resultA, toC, toCL, Nat.reduceEqDiff, (ze29 S.p), (fa27_0 S.p), (fa27_1 S.p), (fa27_2 S.p), (fa29_0 S.p), (fa29_2 S.p), (fa29_3 S.p), (fa29_4 S.p), (fa50_1 S.p), (fa50_2 S.p), (fa50_3 S.p), iaddr_sl (un48 S.p) (sz29 S.p), len_sl (un48 S.p), len_nils (un48 S.p), part_all (ag29 S.p) (sz29 S.p), part_at (ag29 S.p) (sz29 S.p), part_sc (ag3 S.p), part_sc (ag4 S.p), part_sc (ag48 S.p), store_last (sz29 S.p), (sz29 S.p), e0, e2, e3, hlen, f57', hcb, hpt, r0, r3, l0, l4, hN, idx_ok, wrap_i64, beqI_t, beqI_f, bneI_t, bneI_f, bne_self_eq_false, beq_self_eq_true, dec_t, dec_f, cells_self, cells_other, Nat.zero_add, Nat.add_zero]
                  exact Ends.some (by simp_all [takesT, ofT, tellsT, beqZ])
            · have c5 : ¬ t.ok = 5 := fun q => c56 (.inl q)
              have c6 : ¬ t.ok = 6 := fun q => c56 (.inr q)
              simp (maxSteps := 1000000) (disch := first | omega | (simp (disch := first | omega | (simp only [EvV.len, MonV.len, ThV.len, EnV.len, List.length_append, List.length_cons, List.length_nil, List.length_set]; first | done | omega)) only [EvV.len, MonV.len, ThV.len, EnV.len, amSide, Int.reduceToNat, Nat.reducePow, Nat.reduceMul]; first | done | omega)) only  [↓amPre, amPost, ↓s_lit', Nat.reduceAdd, Nat.reduceSub, List.replicate, retA, resultsA, resultA, toC, toCL, Nat.reduceEqDiff, (ze29 S.p), (fa27_0 S.p), (fa27_1 S.p), (fa27_2 S.p), (fa29_0 S.p), (fa29_2 S.p), (fa29_3 S.p), (fa29_4 S.p), (fa50_1 S.p), (fa50_2 S.p), (fa50_3 S.p), iaddr_sl (un48 S.p) (sz29 S.p), len_sl (un48 S.p), len_nils (un48 S.p), part_all (ag29 S.p) (sz29 S.p), part_at (ag29 S.p) (sz29 S.p), part_sc (ag3 S.p), part_sc (ag4 S.p), part_sc (ag48 S.p), store_last (sz29 S.p), (sz29 S.p), e0, e2, e3, hlen, f57', beqI_t, beqI_f, bneI_t, bneI_f, bne_self_eq_false, beq_self_eq_true, dec_t, dec_f, cells_self, cells_other, Nat.zero_add, Nat.add_zero]
              exact Ends.some (by simp_all [takesT, ofT, beqZ])
      · simp (maxSteps := 1000000) (disch := first | omega | (simp (disch := first | omega | (simp only [EvV.len, MonV.len, ThV.len, EnV.len, List.length_append, List.length_cons, List.length_nil, List.length_set]; first | done | omega)) only [EvV.len, MonV.len, ThV.len, EnV.len, amSide, Int.reduceToNat, Nat.reducePow, Nat.reduceMul]; first | done | omega)) only  [↓amPre, amPost, ↓s_lit', Nat.reduceAdd, Nat.reduceSub, List.replicate, retA, resultsA, resultA, toC, toCL, Nat.reduceEqDiff, (ze29 S.p), (fa27_0 S.p), (fa27_1 S.p), (fa27_2 S.p), (fa29_0 S.p), (fa29_2 S.p), (fa29_3 S.p), (fa29_4 S.p), (fa50_1 S.p), (fa50_2 S.p), (fa50_3 S.p), iaddr_sl (un48 S.p) (sz29 S.p), len_sl (un48 S.p), len_nils (un48 S.p), part_all (ag29 S.p) (sz29 S.p), part_at (ag29 S.p) (sz29 S.p), part_sc (ag3 S.p), part_sc (ag4 S.p), part_sc (ag48 S.p), store_last (sz29 S.p), (sz29 S.p), e0, e2, e3, beqI_t, beqI_f, bneI_t, bneI_f, bne_self_eq_false, beq_self_eq_true, dec_t, dec_f, cells_self, cells_other, Nat.zero_add, Nat.add_zero]
        exact Ends.some (by simp_all [takesT, ofT, beqZ])
theorem s36n (hd : 2 ≤ d) {t : ThV} {a : AtV} (M : AtM t a) (hn : t.op = false ∨ t.mn = 0) {q : SV} (lk : Nat) (h : List AO) (hq : Rs EvV.cells 5 h q a.L) :
    ev P T K d 36 [.ag (atC a q)] lk h = some (.tup [.sc (.int .i64 0), .sc (.int .i64 0), .sc (.bool false)], h) := by
  obtain ⟨d, rfl⟩ : ∃ k, d = k + 1 := ⟨d - 1, by omega⟩
  refine ev_pure (at36 S.t) rfl ?_
  unfold i36 Try.f36
  have hlen := fun hh => hq.len (un48 S.p) hh
  have hop := M.op
  have hmn := M.mn
  unfold atC
  rw [← hop]
  cases c1 : t.op with
  | false =>
    simp (maxSteps := 1000000) (disch := first | omega | (simp (disch := first | omega | (simp only [EvV.len, MonV.len, ThV.len, EnV.len, List.length_append, List.length_cons, List.length_nil, List.length_set]; first | done | omega)) only [EvV.len, MonV.len, ThV.len, EnV.len, amSide, Int.reduceToNat, Nat.reducePow, Nat.reduceMul]; first | done | omega)) only  [↓amPre, amPost, ↓s_lit', Nat.reduceAdd, Nat.reduceSub, List.replicate, retA, resultsA, resultA, toC, toCL, Nat.reduceEqDiff, (ze29 S.p), (fa27_0 S.p), (fa29_0 S.p), (fa29_3 S.p), (fa29_4 S.p), (fa50_1 S.p), (fa50_2 S.p), (fa50_3 S.p), iaddr_sl (un48 S.p) (sz29 S.p), len_sl (un48 S.p), len_nils (un48 S.p), part_all (ag29 S.p) (sz29 S.p), part_at (ag29 S.p) (sz29 S.p), part_sc (ag3 S.p), part_sc (ag4 S.p), part_sc (ag48 S.p), store_last (sz29 S.p), (sz29 S.p), hlen, beqI_t, beqI_f, bneI_t, bneI_f, bne_self_eq_false, beq_self_eq_true, dec_t, dec_f, cells_self, cells_other, Nat.zero_add, Nat.add_zero]
    exact Ends.some rfl
  | true =>
    have c2 : t.mn = 0 := hn.resolve_left (by rw [c1]; simp)
    have hL : a.L.length = 0 := by omega
    simp (maxSteps := 1000000) (disch := first | omega | (simp (disch := first | omega | (simp only [EvV.len, MonV.len, ThV.len, EnV.len, List.length_append, List.length_cons, List.length_nil, List.length_set]; first | done | omega)) only [EvV.len, MonV.len, ThV.len, EnV.len, amSide, Int.reduceToNat, Nat.reducePow, Nat.reduceMul]; first | done | omega)) only  [↓amPre, amPost, ↓s_lit', Nat.reduceAdd, Nat.reduceSub, List.replicate, retA, resultsA, resultA, toC, toCL, Nat.reduceEqDiff, (ze29 S.p), (fa27_0 S.p), (fa29_0 S.p), (fa29_3 S.p), (fa29_4 S.p), (fa50_1 S.p), (fa50_2 S.p), (fa50_3 S.p), iaddr_sl (un48 S.p) (sz29 S.p), len_sl (un48 S.p), len_nils (un48 S.p), part_all (ag29 S.p) (sz29 S.p), part_at (ag29 S.p) (sz29 S.p), part_sc (ag3 S.p), part_sc (ag4 S.p), part_sc (ag48 S.p), store_last (sz29 S.p), (sz29 S.p), hlen, hL, Int.natCast_zero, beqI_t, beqI_f, bneI_t, bneI_f, bne_self_eq_false, beq_self_eq_true, dec_t, dec_f, cells_self, cells_other, Nat.zero_add, Nat.add_zero]
    exact Ends.some rfl
set_option maxHeartbeats 8000000 in
theorem s36 (hd : 2 ≤ d) {t : ThV} {a : AtV} (M : AtM t a) (h1 : t.op = true) (h2 : t.mn ≠ 0) (hm : a.L.length ≤ 1000000) {q : SV} (lk : Nat) (h : List AO) (hq : Rs EvV.cells 5 h q a.L) :
    ev P T K d 36 [.ag (atC a q)] lk h = some (.tup [.sc (.int .i64 (numT t)), .sc (.int .i64 t.ls.e), .sc (.bool (decide (doneT t)))], h) := by
  obtain ⟨d, rfl⟩ : ∃ k, d = k + 1 := ⟨d - 1, by omega⟩
  refine ev_pure (at36 S.t) rfl ?_
  unfold i36 Try.f36
  have hlen := fun hh => hq.len (un48 S.p) hh
  have hop := M.op
  have hmn := M.mn
  have hok := M.ok
  have hkn := M.kn
  have hL : a.L ≠ [] := fun q => h2 (by rw [hmn, q]; rfl)
  have hdn : doneT t ↔ (t.ls.k = comM t.ok ∨ t.ok = 4 ∧ t.ls.k = 4 ∧ t.ls.e ≠ 0) := by unfold doneT; simp [h1, h2]
  obtain ⟨b, rfl, hb, hcb, hls⟩ := last_at hq hL M
  have hpos : 0 < a.L.length := by cases hL' : a.L with | nil => exact absurd hL' hL | cons _ _ => simp
  have hN : ((a.L.length : Int) - 1).toNat = a.L.length - 1 := by omega
  have hpt := recs_part (ag29 S.p) (sz29 S.p) EvV.len hls
  have hpe : partA P 29 t.ls.cells 0 = some (.ag t.ls.cells) := part_all (ag29 S.p) (sz29 S.p) _ t.ls.len
  have l0 := t.ls.c0
  have l3 := t.ls.c3
  have l4 := t.ls.c4
  have f58 := fun lk h => s58 S (show 1 ≤ d by omega) t.ok t.ls lk h
  have hL1 : ¬ a.L.length = 0 := by omega
  unfold atC
  rw [← hop, ← hok, h1]
  by_cases c4 : t.ok = 4
  · have hnum : numT t = 0 := by unfold numT; rw [if_pos c4]
    have hcm : comM t.ok = 6 := by rw [c4]; rfl
    rw [hcm] at hdn
    rw [hnum]
    by_cases q1 : t.ls.k = 6 <;> by_cases q2 : t.ls.k = 4 <;> first | (exfalso; omega) | skip
    all_goals
      simp (maxSteps := 1000000) (disch := first | omega | (simp (disch := first | omega | (simp only [EvV.len, MonV.len, ThV.len, EnV.len, List.length_append, List.length_cons, List.length_nil, List.length_set]; first | done | omega)) only [EvV.len, MonV.len, ThV.len, EnV.len, amSide, Int.reduceToNat, Nat.reducePow, Nat.reduceMul]; first | done | omega)) only  [↓amPre, amPost, ↓s_lit', Nat.reduceAdd, Nat.reduceSub, List.replicate, retA, resultsA, resultA, toC, toCL, Nat.reduceEqDiff, (ze29 S.p), (fa27_0 S.p), (fa29_0 S.p), (fa29_3 S.p), (fa29_4 S.p), (fa50_1 S.p), (fa50_2 S.p), (fa50_3 S.p), iaddr_sl (un48 S.p) (sz29 S.p), len_sl (un48 S.p), len_nils (un48 S.p), part_all (ag29 S.p) (sz29 S.p), part_at (ag29 S.p) (sz29 S.p), part_sc (ag3 S.p), part_sc (ag4 S.p), part_sc (ag48 S.p), store_last (sz29 S.p), (sz29 S.p), hlen, hcb, hpt, hpe, l0, l3, l4, hN, idx_ok, wrap_i64, beqI_t, beqI_f, bneI_t, bneI_f, bne_self_eq_false, beq_self_eq_true, dec_t, dec_f, cells_self, cells_other, Nat.zero_add, Nat.add_zero]
      exact Ends.some (by simp_all [beqZ, bne])
  by_cases c5 : t.ok = 5
  · have hnum : numT t = t.ls.a := by unfold numT; rw [if_neg c4, if_neg (by omega), if_pos (.inl c5)]
    have hcm : comM t.ok = 8 := by rw [c5]; rfl
    rw [hcm] at hdn
    rw [hnum]
    simp (maxSteps := 1000000) (disch := first | omega | (simp (disch := first | omega | (simp only [EvV.len, MonV.len, ThV.len, EnV.len, List.length_append, List.length_cons, List.length_nil, List.length_set]; first | done | omega)) only [EvV.len, MonV.len, ThV.len, EnV.len, amSide, Int.reduceToNat, Nat.reducePow, Nat.reduceMul]; first | done | omega)) only  [↓amPre, amPost, ↓s_lit', Nat.reduceAdd, Nat.reduceSub, List.replicate, retA, resultsA, resultA, toC, toCL, Nat.reduceEqDiff, (ze29 S.p), (fa27_0 S.p), (fa29_0 S.p), (fa29_3 S.p), (fa29_4 S.p), (fa50_1 S.p), (fa50_2 S.p), (fa50_3 S.p), iaddr_sl (un48 S.p) (sz29 S.p), len_sl (un48 S.p), len_nils (un48 S.p), part_all (ag29 S.p) (sz29 S.p), part_at (ag29 S.p) (sz29 S.p), part_sc (ag3 S.p), part_sc (ag4 S.p), part_sc (ag48 S.p), store_last (sz29 S.p), (sz29 S.p), hlen, hcb, hpt, hpe, l0, l3, l4, hN, idx_ok, wrap_i64, beqI_t, beqI_f, bneI_t, bneI_f, bne_self_eq_false, beq_self_eq_true, dec_t, dec_f, cells_self, cells_other, Nat.zero_add, Nat.add_zero]
    exact Ends.some (by simp_all [beqZ])
  by_cases c6 : t.ok = 6
  · have hnum : numT t = t.mn - 1 := by unfold numT; rw [if_neg c4, if_pos c6]
    have hcm : comM t.ok = 9 := by rw [c6]; rfl
    rw [hcm] at hdn
    rw [hnum, hmn]
    simp (maxSteps := 1000000) (disch := first | omega | (simp (disch := first | omega | (simp only [EvV.len, MonV.len, ThV.len, EnV.len, List.length_append, List.length_cons, List.length_nil, List.length_set]; first | done | omega)) only [EvV.len, MonV.len, ThV.len, EnV.len, amSide, Int.reduceToNat, Nat.reducePow, Nat.reduceMul]; first | done | omega)) only  [↓amPre, amPost, ↓s_lit', Nat.reduceAdd, Nat.reduceSub, List.replicate, retA, resultsA, resultA, toC, toCL, Nat.reduceEqDiff, (ze29 S.p), (fa27_0 S.p), (fa29_0 S.p), (fa29_3 S.p), (fa29_4 S.p), (fa50_1 S.p), (fa50_2 S.p), (fa50_3 S.p), iaddr_sl (un48 S.p) (sz29 S.p), len_sl (un48 S.p), len_nils (un48 S.p), part_all (ag29 S.p) (sz29 S.p), part_at (ag29 S.p) (sz29 S.p), part_sc (ag3 S.p), part_sc (ag4 S.p), part_sc (ag48 S.p), store_last (sz29 S.p), (sz29 S.p), hlen, hcb, hpt, hpe, l0, l3, l4, hN, idx_ok, wrap_i64, beqI_t, beqI_f, bneI_t, bneI_f, bne_self_eq_false, beq_self_eq_true, dec_t, dec_f, cells_self, cells_other, Nat.zero_add, Nat.add_zero]
    exact Ends.some (by simp_all [beqZ])
  have hnum : numT t = (if t.ok = 7 ∨ t.ok = 8 then t.ls.a else 0) := by
    unfold numT; rw [if_neg c4, if_neg c6]
    by_cases c : t.ok = 7 ∨ t.ok = 8
    · rw [if_pos c, if_pos (.inr c)]
    · rw [if_neg c, if_neg (fun q => q.elim c5 c)]
  have hdt : decide (doneT t) = true := decide_eq_true (hdn.2 (.inl (hkn hL c4 c5 c6)))
  rw [hnum, hdt]
  simp (maxSteps := 1000000) (disch := first | omega | (simp (disch := first | omega | (simp only [EvV.len, MonV.len, ThV.len, EnV.len, List.length_append, List.length_cons, List.length_nil, List.length_set]; first | done | omega)) only [EvV.len, MonV.len, ThV.len, EnV.len, amSide, Int.reduceToNat, Nat.reducePow, Nat.reduceMul]; first | done | omega)) only  [↓amPre, amPost, ↓s_lit', Nat.reduceAdd, Nat.reduceSub, List.replicate, retA, resultsA, resultA, toC, toCL, Nat.reduceEqDiff, (ze29 S.p), (fa27_0 S.p), (fa29_0 S.p), (fa29_3 S.p), (fa29_4 S.p), (fa50_1 S.p), (fa50_2 S.p), (fa50_3 S.p), iaddr_sl (un48 S.p) (sz29 S.p), len_sl (un48 S.p), len_nils (un48 S.p), part_all (ag29 S.p) (sz29 S.p), part_at (ag29 S.p) (sz29 S.p), part_sc (ag3 S.p), part_sc (ag4 S.p), part_sc (ag48 S.p), store_last (sz29 S.p), (sz29 S.p), hlen, hcb, hpt, hpe, f58, l0, l3, l4, hN, idx_ok, wrap_i64, beqI_t, beqI_f, bneI_t, bneI_f, bne_self_eq_false, beq_self_eq_true, dec_t, dec_f, cells_self, cells_other, Nat.zero_add, Nat.add_zero]
  exact Ends.some rfl
end
end Go.AM
/- Logs: where they lie; what is asked of them. Conditions: none. -/
set_option linter.unusedVariables false
set_option linter.unusedSimpArgs false
set_option maxRecDepth 100000
namespace Go.AM
open Go.Proofs
-- LENS: EvV.len, MonV.len, ThV.len, EnV.len
/-- Cells put into one record. -/
theorem recs_splice {α : Type} {f : α → List SV} {s : Nat} (hf : ∀ a, (f a).length = s) {l : List α} {i : Nat} {x : α} (hx : l[i]? = some x) (off : Nat) (new : List SV) (ho : off + new.length ≤ s) (y : α) (hy : splice (f x) off new = f y) :
    splice (recs f l) (i * s + off) new = recs f (l.set i y) := by
  have hi := (List.getElem?_eq_some_iff.1 hx).1
  have he := (List.getElem?_eq_some_iff.1 hx).2
  have h1 : l = l.take i ++ x :: l.drop (i + 1) := by rw [← he, List.getElem_cons_drop, List.take_append_drop]
  have h2 : recs f l = recs f (l.take i) ++ (f x ++ recs f (l.drop (i + 1))) := by rw [← recs_cons, ← recs_app, ← h1]
  have hl : (recs f (l.take i)).length = i * s := by rw [recs_len hf, List.length_take, Nat.min_eq_left (by omega)]
  have hxl := hf x
  rw [List.set_eq_take_append_cons_drop, if_pos hi, recs_app, recs_cons, ← hy, h2]
  unfold splice
  rw [List.take_append, hl, List.take_of_length_le (by omega), show i * s + off - i * s = off by omega, List.take_append, hxl, show off - s = 0 by omega, List.take_zero, List.append_nil]
  rw [List.drop_append, hl, List.drop_eq_nil_of_le (by omega), List.nil_append, show i * s + off + new.length - i * s = off + new.length by omega, List.drop_append, hxl, show off + new.length - s = 0 by omega, List.drop_zero]
  simp only [List.append_assoc]
/-- A block that a slice does not lie in. -/
def NotB (l : Nat) (q : SV) : Prop := ∀ o n s, q ≠ .sl l o n s
/-- The same slice, or a new one. -/
def QN (h : List AO) (q q' : SV) : Prop := q' = q ∨ ∃ b o n s, h.length ≤ b ∧ q' = .sl b o n s
theorem QN.notB {h : List AO} {q q' : SV} (H : QN h q q') {l : Nat} (hl : l < h.length) (hn : NotB l q) : NotB l q' := by
  rcases H with rfl | ⟨b, o, n, s, hb, rfl⟩
  · exact hn
  · intro o' n' s' e
    simp only [SV.sl.injEq] at e
    omega
/-- A log's blocks. -/
structure LgAt (h : List AO) (p pm bm bf bw bl bt : Nat) (qe : SV) (G : LgV) : Prop where
  pl : h[p]? = some (.rw 67 (lgC G pm bt qe))
  md : MdAt h pm bm bf bw bl G.V
  pt : h[bt]? = some (.rw 109 (recs ThV.cells G.ths))
  en : ∃ lo, Own 36 13 lo h qe (recs EnV.cells G.ents) ∧ p < lo ∧ pm < lo ∧ bm < lo ∧ bf < lo ∧ bw < lo ∧ bl < lo ∧ bt < lo
  nz : G.ents = [] → qe = .nils
/-- Other blocks are as they were. -/
def FrL (p bm bf bw bl bt : Nat) (qe : SV) (h h' : List AO) : Prop := h.length ≤ h'.length ∧ ∀ l, l < h.length → l ≠ p → l ≠ bm → l ≠ bf → l ≠ bw → l ≠ bl → l ≠ bt → NotB l qe → h'[l]? = h[l]?
section
variable {h : List AO} {p pm bm bf bw bl bt : Nat} {qe : SV} {G : LgV}
theorem FrL.refl : FrL p bm bf bw bl bt qe h h := ⟨Nat.le_refl _, fun _ _ _ _ _ _ _ _ _ => rfl⟩
theorem FrL.trans {h1 h2 : List AO} {qe' : SV} (a : FrL p bm bf bw bl bt qe h h1) (q : QN h qe qe') (b : FrL p bm bf bw bl bt qe' h1 h2) : FrL p bm bf bw bl bt qe h h2 :=
  ⟨Nat.le_trans a.1 b.1, fun l hl n0 n1 n2 n3 n4 n5 n6 => (b.2 l (Nat.lt_of_lt_of_le hl a.1) n0 n1 n2 n3 n4 n5 (q.notB hl n6)).trans (a.2 l hl n0 n1 n2 n3 n4 n5 n6)⟩
theorem FrL.of_ext {h' : List AO} (hx : Ext1 h h') : FrL p bm bf bw bl bt qe h h' := ⟨hx.len, fun l hl _ _ _ _ _ _ _ => hx.get hl⟩
theorem FrL.ext {a h' : List AO} (F : FrL p bm bf bw bl bt qe h h') (hx : Ext1 a h) (h0 : a.length ≤ p) (h1 : a.length ≤ bm) (h2 : a.length ≤ bf) (h3 : a.length ≤ bw) (h4 : a.length ≤ bl) (h5 : a.length ≤ bt) (h6 : ∀ l, l < a.length → NotB l qe) : Ext1 a h' :=
  ext_of_get (Nat.le_trans hx.len F.1) fun l hl => (F.2 l (Nat.lt_of_lt_of_le hl hx.len) (by omega) (by omega) (by omega) (by omega) (by omega) (by omega) (h6 l hl)).trans (hx.get hl)
theorem LgAt.cl (L : LgAt h p pm bm bf bw bl bt qe G) : cellsAt h p = some (lgC G pm bt qe) := cells_at L.pl
theorem LgAt.ct (L : LgAt h p pm bm bf bw bl bt qe G) : cellsAt h bt = some (recs ThV.cells G.ths) := cells_at L.pt
theorem LgAt.lts (L : LgAt h p pm bm bf bw bl bt qe G) : p < h.length ∧ bt < h.length := ⟨(List.getElem?_eq_some_iff.1 L.pl).1, (List.getElem?_eq_some_iff.1 L.pt).1⟩
theorem LgAt.nes (L : LgAt h p pm bm bf bw bl bt qe G) : p ≠ pm ∧ p ≠ bm ∧ p ≠ bf ∧ p ≠ bw ∧ p ≠ bl ∧ p ≠ bt ∧ bt ≠ pm ∧ bt ≠ bm ∧ bt ≠ bf ∧ bt ≠ bw ∧ bt ≠ bl := by
  have h0 := L.pl
  have h9 := L.pt
  have h1 := L.md.pp
  have h2 := L.md.pm
  have h3 := L.md.pf
  have h4 := L.md.pw
  have h5 := L.md.pl
  refine ⟨?_, ?_, ?_, ?_, ?_, ?_, ?_, ?_, ?_, ?_, ?_⟩ <;> rintro rfl <;> simp_all
theorem LgAt.ext (L : LgAt h p pm bm bf bw bl bt qe G) {h' : List AO} (hx : Ext1 h h') : LgAt h' p pm bm bf bw bl bt qe G := by
  obtain ⟨l1, l2⟩ := L.lts
  obtain ⟨lo, e1, e2⟩ := L.en
  exact ⟨(hx.get l1).trans L.pl, L.md.ext hx, (hx.get l2).trans L.pt, ⟨lo, e1.ext hx, e2⟩, L.nz⟩
/-- A thread is another one. -/
theorem LgAt.setT (L : LgAt h p pm bm bf bw bl bt qe G) (i : Nat) (t : ThV) : LgAt (h.set bt (.rw 109 (recs ThV.cells (G.ths.set i t)))) p pm bm bf bw bl bt qe { G with ths := G.ths.set i t } := by
  obtain ⟨n1, n2, n3, n4, n5, n6, n7, n8, n9, n10, n11⟩ := L.nes
  obtain ⟨l1, l2⟩ := L.lts
  obtain ⟨lo, e1, e2⟩ := L.en
  refine ⟨?_, L.md.frame _ n7 n8 n9 n10 n11, List.getElem?_set_self l2, ⟨lo, e1.set e2.2.2.2.2.2.2 _, e2⟩, L.nz⟩
  rw [List.getElem?_set_ne (Ne.symm n6)]
  have := L.pl
  unfold lgC at this ⊢
  simp only [List.length_set]; exact this
theorem LgAt.setV (L : LgAt h p pm bm bf bw bl bt qe G) {h' : List AO} {W : MdV} (F : Fr bm bf bw bl h h') (M : MdAt h' pm bm bf bw bl W) : LgAt h' p pm bm bf bw bl bt qe { G with V := W } := by
  obtain ⟨n1, n2, n3, n4, n5, n6, n7, n8, n9, n10, n11⟩ := L.nes
  obtain ⟨l1, l2⟩ := L.lts
  obtain ⟨lo, e1, e2⟩ := L.en
  refine ⟨(F.2 p l1 n2 n3 n4 n5).trans L.pl, M, (F.2 bt l2 n8 n9 n10 n11).trans L.pt, ⟨lo, ?_, e2⟩, L.nz⟩
  rcases e1 with ⟨rfl, e3⟩ | ⟨b, b1, b2, b3, b4, b5⟩
  · exact .inl ⟨rfl, e3⟩
  · refine .inr ⟨b, b1, Nat.lt_of_lt_of_le b2 F.1, b3, ?_, b5⟩
    exact (F.2 b b2 (by omega) (by omega) (by omega) (by omega)).trans b4
end
section
variable {P : Program} {T : Tab} {K d : Nat} (S : Sd P T K)
include S
theorem s38c (hd : 1 ≤ d) {p pm : Nat} {h : List AO} {o : Int} {q1 q2 : SV} (hp : cellsAt h p = some [.int .i64 o, .ptr pm 0, q1, q2]) (lk : Nat) : ev P T K d 38 [.sc (.ptr p 0)] lk h = some (.v (.sc (.bool true)), h) := by
  obtain ⟨d, rfl⟩ : ∃ k, d = k + 1 := ⟨d - 1, by omega⟩
  refine ev_pure (at38 S.t) rfl ?_
  unfold i38 Try.f38
  have e1 : binOpA P .neq 56 (.v (.sc (.ptr p 0))) (.v (.sc .nilp)) = some (.v (.sc (.bool true))) := by simp [binOpA, eqA, un56 S.p]
  have e2 : binOpA P .neq 64 (.v (.sc (.ptr pm 0))) (.v (.sc .nilp)) = some (.v (.sc (.bool true))) := by simp [binOpA, eqA, un64 S.p]
  simp (maxSteps := 1000000) (disch := first | omega | (simp (disch := first | omega | (simp only [EvV.len, MonV.len, ThV.len, EnV.len, List.length_append, List.length_cons, List.length_nil, List.length_set]; first | done | omega)) only [EvV.len, MonV.len, ThV.len, EnV.len, amSide, Int.reduceToNat, Nat.reducePow, Nat.reduceMul]; first | done | omega)) only  [↓amPre, amPost, ↓s_lit', Nat.reduceAdd, Nat.reduceSub, List.replicate, retA, resultsA, resultA, toC, toCL, Nat.reduceEqDiff, (fa67_1 S.p), part_sc (ag64 S.p), e1, e2, hp]
  exact Ends.some rfl
theorem s38 (hd : 1 ≤ d) {p pm bm bf bw bl bt : Nat} {qe : SV} {G : LgV} {h : List AO} (L : LgAt h p pm bm bf bw bl bt qe G) (lk : Nat) : ev P T K d 38 [.sc (.ptr p 0)] lk h = some (.v (.sc (.bool true)), h) := s38c S hd L.cl lk
theorem s18 (hd : 2 ≤ d) {p pm bm bf bw bl bt : Nat} {qe : SV} {G : LgV} {h : List AO} (L : LgAt h p pm bm bf bw bl bt qe G) (lk : Nat) : ev P T K d 18 [.sc (.ptr p 0)] lk h = some (.v (.sc (.int .i64 G.ents.length)), h) := by
  obtain ⟨d, rfl⟩ : ∃ k, d = k + 1 := ⟨d - 1, by omega⟩
  refine ev_pure (at18 S.t) rfl ?_
  unfold i18 Try.f18
  have f38 := fun lk => s38 S (show 1 ≤ d by omega) L lk
  have hp := L.cl
  unfold lgC at hp
  obtain ⟨lo, e1, e2⟩ := L.en
  have hq : Rs EnV.cells 13 h qe G.ents := e1.rs (by omega) EnV.len
  have hlen := fun hh => hq.len (un25 S.p) hh
  simp (maxSteps := 1000000) (disch := first | omega | (simp (disch := first | omega | (simp only [EvV.len, MonV.len, ThV.len, EnV.len, List.length_append, List.length_cons, List.length_nil, List.length_set]; first | done | omega)) only [EvV.len, MonV.len, ThV.len, EnV.len, amSide, Int.reduceToNat, Nat.reducePow, Nat.reduceMul]; first | done | omega)) only  [↓amPre, amPost, ↓s_lit', Nat.reduceAdd, Nat.reduceSub, List.replicate, retA, resultsA, resultA, toC, toCL, Nat.reduceEqDiff, (fa67_3 S.p), len_sl (un25 S.p), len_nils (un25 S.p), part_sc (ag25 S.p), f38, hp, hlen]
  exact Ends.some rfl
end
end Go.AM
