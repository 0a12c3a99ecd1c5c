/- Races: accesses, and which two race. Conditions: none. -/
import Derived.Test.YtgcgbcdgbfeaaaaRa1
import Derived.Test.YtgcgbcdgbfeaaaaAmRecs
set_option linter.unusedVariables false
set_option linter.unusedSimpArgs false
set_option maxRecDepth 100000
namespace Go.AM
open Go.Proofs
-- LENS: freeL_ck, ck_len, joinTo_len, join_len, AcV.len, AcV.hk
def besV (a b : List Int) : Bool := !decide (join a b = b) && !decide (join b a = a)
def raceV (a b : AcV) : Bool := a.one && b.one && decide (a.c = b.c) && decide (a.t ≠ b.t) && (a.w || b.w) && besV a.k b.k
theorem leqTo_join (a b : List Int) (h : a.length = b.length) : leqTo a.length a b = decide (join a b = b) := by
  rw [Bool.eq_iff_iff]
  simp only [leqTo, List.all_eq_true, List.mem_range, decide_eq_true_eq]
  constructor
  · intro H
    apply List.ext_getElem (by rw [join_len _ _ h, h])
    intro i h1 h2
    rw [join_len _ _ h] at h1
    have := H i h1
    simp only [List.getD_eq_getElem?_getD, List.getElem?_eq_getElem h1, List.getElem?_eq_getElem h2, Option.getD_some] at this
    simp only [join, List.getElem_zipWith]
    omega
  · intro H i hi
    have h2 : i < b.length := by omega
    have : (join a b)[i]? = b[i]? := by rw [H]
    simp only [join, List.getElem?_zipWith, List.getElem?_eq_getElem hi, List.getElem?_eq_getElem h2, Option.some.injEq] at this
    simp only [List.getD_eq_getElem?_getD, List.getElem?_eq_getElem hi, List.getElem?_eq_getElem h2, Option.getD_some]
    omega
theorem s59 {P : Program} {T : Tab} {K d : Nat} (S : Sd P T K) (hd : 1 ≤ d) (x : AcV) (lk : Nat) (h : List AO) : ev P T K d 59 [.ag x.cells] lk h = some (.v (.sc (.bool x.one)), h) := by
  obtain ⟨d, rfl⟩ : ∃ k, d = k + 1 := ⟨d - 1, by omega⟩
  refine ev_pure (at59 S.t) rfl ?_
  unfold i59 Try.f59
  have h0 := AcV.c0 x
  unfold AcV.one
  by_cases c1 : 0 ≤ x.t
  · by_cases c2 : x.t ≤ 7
    · simp (maxSteps := 1000000) (disch := first | omega | (simp (disch := first | omega | (simp only [freeL_ck, ck_len, joinTo_len, join_len, AcV.len, AcV.hk, List.length_append, List.length_cons, List.length_nil, List.length_set]; first | done | omega)) only [freeL_ck, ck_len, joinTo_len, join_len, AcV.len, AcV.hk, amSide, Int.reduceToNat, Nat.reducePow, Nat.reduceMul]; first | done | omega)) only  [↓amPre, amPost, ↓s_lit', Nat.reduceAdd, Nat.reduceSub, List.replicate, retA, resultsA, resultA, toC, toCL, Nat.reduceEqDiff, (fa41_0 S.p), part_sc (ag3 S.p), cells_self, h0, dec_t, Nat.zero_add]
      exact Ends.some rfl
    · simp (maxSteps := 1000000) (disch := first | omega | (simp (disch := first | omega | (simp only [freeL_ck, ck_len, joinTo_len, join_len, AcV.len, AcV.hk, List.length_append, List.length_cons, List.length_nil, List.length_set]; first | done | omega)) only [freeL_ck, ck_len, joinTo_len, join_len, AcV.len, AcV.hk, amSide, Int.reduceToNat, Nat.reducePow, Nat.reduceMul]; first | done | omega)) only  [↓amPre, amPost, ↓s_lit', Nat.reduceAdd, Nat.reduceSub, List.replicate, retA, resultsA, resultA, toC, toCL, Nat.reduceEqDiff, (fa41_0 S.p), part_sc (ag3 S.p), cells_self, h0, dec_t, dec_f, Nat.zero_add]
      exact Ends.some rfl
  · simp (maxSteps := 1000000) (disch := first | omega | (simp (disch := first | omega | (simp only [freeL_ck, ck_len, joinTo_len, join_len, AcV.len, AcV.hk, List.length_append, List.length_cons, List.length_nil, List.length_set]; first | done | omega)) only [freeL_ck, ck_len, joinTo_len, join_len, AcV.len, AcV.hk, amSide, Int.reduceToNat, Nat.reducePow, Nat.reduceMul]; first | done | omega)) only  [↓amPre, amPost, ↓s_lit', Nat.reduceAdd, Nat.reduceSub, List.replicate, retA, resultsA, resultA, toC, toCL, Nat.reduceEqDiff, (fa41_0 S.p), part_sc (ag3 S.p), cells_self, h0, dec_f, Nat.zero_add]
    exact Ends.some rfl
theorem s97 {P : Program} {T : Tab} {K d : Nat} (S : Sd P T K) (hd : 1 ≤ d) (x : AcV) (lk : Nat) (h : List AO) : ev P T K d 97 [.ag x.cells] lk h = some (.v (.sc (.bool x.one)), h) := by
  obtain ⟨d, rfl⟩ : ∃ k, d = k + 1 := ⟨d - 1, by omega⟩
  refine ev_pure (at97 S.t) rfl ?_
  unfold i97 Try.f97
  have h0 := AcV.c0 x
  unfold AcV.one
  by_cases c1 : 0 ≤ x.t
  · by_cases c2 : x.t ≤ 7
    · simp (maxSteps := 1000000) (disch := first | omega | (simp (disch := first | omega | (simp only [freeL_ck, ck_len, joinTo_len, join_len, AcV.len, AcV.hk, List.length_append, List.length_cons, List.length_nil, List.length_set]; first | done | omega)) only [freeL_ck, ck_len, joinTo_len, join_len, AcV.len, AcV.hk, amSide, Int.reduceToNat, Nat.reducePow, Nat.reduceMul]; first | done | omega)) only  [↓amPre, amPost, ↓s_lit', Nat.reduceAdd, Nat.reduceSub, List.replicate, retA, resultsA, resultA, toC, toCL, Nat.reduceEqDiff, (fa131_0 S.p), part_sc (ag3 S.p), cells_self, h0, dec_t, Nat.zero_add]
      exact Ends.some rfl
    · simp (maxSteps := 1000000) (disch := first | omega | (simp (disch := first | omega | (simp only [freeL_ck, ck_len, joinTo_len, join_len, AcV.len, AcV.hk, List.length_append, List.length_cons, List.length_nil, List.length_set]; first | done | omega)) only [freeL_ck, ck_len, joinTo_len, join_len, AcV.len, AcV.hk, amSide, Int.reduceToNat, Nat.reducePow, Nat.reduceMul]; first | done | omega)) only  [↓amPre, amPost, ↓s_lit', Nat.reduceAdd, Nat.reduceSub, List.replicate, retA, resultsA, resultA, toC, toCL, Nat.reduceEqDiff, (fa131_0 S.p), part_sc (ag3 S.p), cells_self, h0, dec_t, dec_f, Nat.zero_add]
      exact Ends.some rfl
  · simp (maxSteps := 1000000) (disch := first | omega | (simp (disch := first | omega | (simp only [freeL_ck, ck_len, joinTo_len, join_len, AcV.len, AcV.hk, List.length_append, List.length_cons, List.length_nil, List.length_set]; first | done | omega)) only [freeL_ck, ck_len, joinTo_len, join_len, AcV.len, AcV.hk, amSide, Int.reduceToNat, Nat.reducePow, Nat.reduceMul]; first | done | omega)) only  [↓amPre, amPost, ↓s_lit', Nat.reduceAdd, Nat.reduceSub, List.replicate, retA, resultsA, resultA, toC, toCL, Nat.reduceEqDiff, (fa131_0 S.p), part_sc (ag3 S.p), cells_self, h0, dec_f, Nat.zero_add]
    exact Ends.some rfl
set_option maxHeartbeats 4000000 in
theorem s21 {P : Program} {T : Tab} {K d : Nat} (S : Sd P T K) (hd : 4 ≤ d) (x y : AcV) (lk : Nat) (h : List AO) : ev P T K d 21 [.ag x.cells, .ag y.cells] lk h = some (.v (.sc (.bool (raceV x y))), h) := by
  obtain ⟨d, rfl⟩ : ∃ k, d = k + 1 := ⟨d - 1, by omega⟩
  refine ev_pure (at21 S.t) rfl ?_
  unfold i21 Try.f21
  have x0 := AcV.c0 x
  have x1 := AcV.c1 x
  have x2 := AcV.c2 x
  have x3 := AcV.clk2 x
  have y0 := AcV.c0 y
  have y1 := AcV.c1 y
  have y2 := AcV.c2 y
  have y3 := AcV.clk2 y
  have f1 := fun lk h => s59 S (show 1 ≤ d by omega) x lk h
  have f2 := fun lk h => s59 S (show 1 ≤ d by omega) y lk h
  have f3 := fun lk h => s20 S (show 3 ≤ d by omega) x.k y.k x.hk y.hk lk h
  have hb : raceV x y = (x.one && y.one && decide (x.c = y.c) && decide (x.t ≠ y.t) && (x.w || y.w) && besV x.k y.k) := rfl
  rw [hb]
  have f3' : ∀ lk h, ev P T K d 20 [.ag (ck x.k), .ag (ck y.k)] lk h = some (.v (.sc (.bool (besV x.k y.k))), h) := f3
  generalize besV x.k y.k = B at *
  generalize x.one = o1 at *
  generalize y.one = o2 at *
  generalize hw1 : x.w = w1 at *
  generalize hw2 : y.w = w2 at *
  clear f3 hb
  cases o1
  · simp (maxSteps := 1000000) (disch := first | omega | (simp (disch := first | omega | (simp only [freeL_ck, ck_len, joinTo_len, join_len, AcV.len, AcV.hk, List.length_append, List.length_cons, List.length_nil, List.length_set]; first | done | omega)) only [freeL_ck, ck_len, joinTo_len, join_len, AcV.len, AcV.hk, amSide, Int.reduceToNat, Nat.reducePow, Nat.reduceMul]; first | done | omega)) only  [↓amPre, amPost, ↓s_lit', Nat.reduceAdd, Nat.reduceSub, List.replicate, retA, resultsA, resultA, toC, toCL, Nat.reduceEqDiff, (fa41_0 S.p), (fa41_1 S.p), (fa41_2 S.p), (fa41_3 S.p), part_sc (ag3 S.p), part_all (ag38 S.p) (sz38 S.p), part_at (ag38 S.p) (sz38 S.p), part_sc (ag4 S.p), part_all (ag41 S.p) (sz41 S.p), part_at (ag41 S.p) (sz41 S.p), cells_self, cells_other, x0, x1, x2, x3, y0, y1, y2, y3, f1, f2, f3', Nat.zero_add]
    exact Ends.some rfl
  cases o2
  · simp (maxSteps := 1000000) (disch := first | omega | (simp (disch := first | omega | (simp only [freeL_ck, ck_len, joinTo_len, join_len, AcV.len, AcV.hk, List.length_append, List.length_cons, List.length_nil, List.length_set]; first | done | omega)) only [freeL_ck, ck_len, joinTo_len, join_len, AcV.len, AcV.hk, amSide, Int.reduceToNat, Nat.reducePow, Nat.reduceMul]; first | done | omega)) only  [↓amPre, amPost, ↓s_lit', Nat.reduceAdd, Nat.reduceSub, List.replicate, retA, resultsA, resultA, toC, toCL, Nat.reduceEqDiff, (fa41_0 S.p), (fa41_1 S.p), (fa41_2 S.p), (fa41_3 S.p), part_sc (ag3 S.p), part_all (ag38 S.p) (sz38 S.p), part_at (ag38 S.p) (sz38 S.p), part_sc (ag4 S.p), part_all (ag41 S.p) (sz41 S.p), part_at (ag41 S.p) (sz41 S.p), cells_self, cells_other, x0, x1, x2, x3, y0, y1, y2, y3, f1, f2, f3', Nat.zero_add]
    exact Ends.some rfl
  by_cases c1 : x.c = y.c
  · by_cases c2 : x.t = y.t
    · simp (maxSteps := 1000000) (disch := first | omega | (simp (disch := first | omega | (simp only [freeL_ck, ck_len, joinTo_len, join_len, AcV.len, AcV.hk, List.length_append, List.length_cons, List.length_nil, List.length_set]; first | done | omega)) only [freeL_ck, ck_len, joinTo_len, join_len, AcV.len, AcV.hk, amSide, Int.reduceToNat, Nat.reducePow, Nat.reduceMul]; first | done | omega)) only  [↓amPre, amPost, ↓s_lit', Nat.reduceAdd, Nat.reduceSub, List.replicate, retA, resultsA, resultA, toC, toCL, Nat.reduceEqDiff, (fa41_0 S.p), (fa41_1 S.p), (fa41_2 S.p), (fa41_3 S.p), part_sc (ag3 S.p), part_all (ag38 S.p) (sz38 S.p), part_at (ag38 S.p) (sz38 S.p), part_sc (ag4 S.p), part_all (ag41 S.p) (sz41 S.p), part_at (ag41 S.p) (sz41 S.p), cells_self, cells_other, x0, x1, x2, x3, y0, y1, y2, y3, f1, f2, f3', beqI_t, bneI_f, Nat.zero_add]
      first | (exact Ends.some rfl) | (exact Ends.some (by simp [c1, c2]))
    · cases w1
      · cases w2
        · simp (maxSteps := 1000000) (disch := first | omega | (simp (disch := first | omega | (simp only [freeL_ck, ck_len, joinTo_len, join_len, AcV.len, AcV.hk, List.length_append, List.length_cons, List.length_nil, List.length_set]; first | done | omega)) only [freeL_ck, ck_len, joinTo_len, join_len, AcV.len, AcV.hk, amSide, Int.reduceToNat, Nat.reducePow, Nat.reduceMul]; first | done | omega)) only  [↓amPre, amPost, ↓s_lit', Nat.reduceAdd, Nat.reduceSub, List.replicate, retA, resultsA, resultA, toC, toCL, Nat.reduceEqDiff, (fa41_0 S.p), (fa41_1 S.p), (fa41_2 S.p), (fa41_3 S.p), part_sc (ag3 S.p), part_all (ag38 S.p) (sz38 S.p), part_at (ag38 S.p) (sz38 S.p), part_sc (ag4 S.p), part_all (ag41 S.p) (sz41 S.p), part_at (ag41 S.p) (sz41 S.p), cells_self, cells_other, x0, x1, x2, x3, y0, y1, y2, y3, f1, f2, f3', beqI_t, bneI_t, Nat.zero_add]
          first | (exact Ends.some rfl) | (exact Ends.some (by simp [c1, c2]))
        · simp (maxSteps := 1000000) (disch := first | omega | (simp (disch := first | omega | (simp only [freeL_ck, ck_len, joinTo_len, join_len, AcV.len, AcV.hk, List.length_append, List.length_cons, List.length_nil, List.length_set]; first | done | omega)) only [freeL_ck, ck_len, joinTo_len, join_len, AcV.len, AcV.hk, amSide, Int.reduceToNat, Nat.reducePow, Nat.reduceMul]; first | done | omega)) only  [↓amPre, amPost, ↓s_lit', Nat.reduceAdd, Nat.reduceSub, List.replicate, retA, resultsA, resultA, toC, toCL, Nat.reduceEqDiff, (fa41_0 S.p), (fa41_1 S.p), (fa41_2 S.p), (fa41_3 S.p), part_sc (ag3 S.p), part_all (ag38 S.p) (sz38 S.p), part_at (ag38 S.p) (sz38 S.p), part_sc (ag4 S.p), part_all (ag41 S.p) (sz41 S.p), part_at (ag41 S.p) (sz41 S.p), cells_self, cells_other, x0, x1, x2, x3, y0, y1, y2, y3, f1, f2, f3', beqI_t, bneI_t, Nat.zero_add]
          first | (exact Ends.some rfl) | (exact Ends.some (by simp [c1, c2]))
      · simp (maxSteps := 1000000) (disch := first | omega | (simp (disch := first | omega | (simp only [freeL_ck, ck_len, joinTo_len, join_len, AcV.len, AcV.hk, List.length_append, List.length_cons, List.length_nil, List.length_set]; first | done | omega)) only [freeL_ck, ck_len, joinTo_len, join_len, AcV.len, AcV.hk, amSide, Int.reduceToNat, Nat.reducePow, Nat.reduceMul]; first | done | omega)) only  [↓amPre, amPost, ↓s_lit', Nat.reduceAdd, Nat.reduceSub, List.replicate, retA, resultsA, resultA, toC, toCL, Nat.reduceEqDiff, (fa41_0 S.p), (fa41_1 S.p), (fa41_2 S.p), (fa41_3 S.p), part_sc (ag3 S.p), part_all (ag38 S.p) (sz38 S.p), part_at (ag38 S.p) (sz38 S.p), part_sc (ag4 S.p), part_all (ag41 S.p) (sz41 S.p), part_at (ag41 S.p) (sz41 S.p), cells_self, cells_other, x0, x1, x2, x3, y0, y1, y2, y3, f1, f2, f3', beqI_t, bneI_t, Nat.zero_add]
        first | (exact Ends.some rfl) | (exact Ends.some (by simp [c1, c2]))
  · simp (maxSteps := 1000000) (disch := first | omega | (simp (disch := first | omega | (simp only [freeL_ck, ck_len, joinTo_len, join_len, AcV.len, AcV.hk, List.length_append, List.length_cons, List.length_nil, List.length_set]; first | done | omega)) only [freeL_ck, ck_len, joinTo_len, join_len, AcV.len, AcV.hk, amSide, Int.reduceToNat, Nat.reducePow, Nat.reduceMul]; first | done | omega)) only  [↓amPre, amPost, ↓s_lit', Nat.reduceAdd, Nat.reduceSub, List.replicate, retA, resultsA, resultA, toC, toCL, Nat.reduceEqDiff, (fa41_0 S.p), (fa41_1 S.p), (fa41_2 S.p), (fa41_3 S.p), part_sc (ag3 S.p), part_all (ag38 S.p) (sz38 S.p), part_at (ag38 S.p) (sz38 S.p), part_sc (ag4 S.p), part_all (ag41 S.p) (sz41 S.p), part_at (ag41 S.p) (sz41 S.p), cells_self, cells_other, x0, x1, x2, x3, y0, y1, y2, y3, f1, f2, f3', beqI_f, Nat.zero_add]
    exact Ends.some (by simp [c1])
set_option maxHeartbeats 4000000 in
theorem s57 {P : Program} {T : Tab} {K d : Nat} (S : Sd P T K) (hd : 2 ≤ d) (x y : AcV) (lk : Nat) (h : List AO) : ev P T K d 57 [.ag x.cells, .ag y.cells] lk h = some (.v (.sc (.bool (raceV x y))), h) := by
  obtain ⟨d, rfl⟩ : ∃ k, d = k + 1 := ⟨d - 1, by omega⟩
  refine ev_pure (at57 S.t) rfl ?_
  unfold i57 Try.f57
  have x0 := AcV.c0 x
  have x1 := AcV.c1 x
  have x2 := AcV.c2 x
  have x3 := AcV.clk2 x
  have y0 := AcV.c0 y
  have y1 := AcV.c1 y
  have y2 := AcV.c2 y
  have y3 := AcV.clk2 y
  have f1 := fun lk h => s97 S (show 1 ≤ d by omega) x lk h
  have f2 := fun lk h => s97 S (show 1 ≤ d by omega) y lk h
  have f3 : ∀ lk h, ev P T K d 98 [.ag (ck x.k), .ag (ck y.k)] lk h = some (.v (.sc (.bool (decide (join x.k y.k = y.k)))), h) := fun lk h => by
    rw [s98 S (show 1 ≤ d by omega) x.k y.k x.hk y.hk lk h, ← leqTo_join _ _ (by rw [x.hk, y.hk]), x.hk]
  have f4 : ∀ lk h, ev P T K d 98 [.ag (ck y.k), .ag (ck x.k)] lk h = some (.v (.sc (.bool (decide (join y.k x.k = x.k)))), h) := fun lk h => by
    rw [s98 S (show 1 ≤ d by omega) y.k x.k y.hk x.hk lk h, ← leqTo_join _ _ (by rw [x.hk, y.hk]), y.hk]
  have hb : raceV x y = (x.one && y.one && decide (x.c = y.c) && decide (x.t ≠ y.t) && (x.w || y.w) && (!decide (join x.k y.k = y.k) && !decide (join y.k x.k = x.k))) := rfl
  rw [hb]
  generalize decide (join x.k y.k = y.k) = B1 at *
  generalize decide (join y.k x.k = x.k) = B2 at *
  generalize x.one = o1 at *
  generalize y.one = o2 at *
  generalize hw1 : x.w = w1 at *
  generalize hw2 : y.w = w2 at *
  clear hb
  cases o1
  · simp (maxSteps := 1000000) (disch := first | omega | (simp (disch := first | omega | (simp only [freeL_ck, ck_len, joinTo_len, join_len, AcV.len, AcV.hk, List.length_append, List.length_cons, List.length_nil, List.length_set]; first | done | omega)) only [freeL_ck, ck_len, joinTo_len, join_len, AcV.len, AcV.hk, amSide, Int.reduceToNat, Nat.reducePow, Nat.reduceMul]; first | done | omega)) only  [↓amPre, amPost, ↓s_lit', Nat.reduceAdd, Nat.reduceSub, List.replicate, retA, resultsA, resultA, toC, toCL, Nat.reduceEqDiff, (fa131_0 S.p), (fa131_1 S.p), (fa131_2 S.p), (fa131_3 S.p), part_all (ag129 S.p) (sz129 S.p), part_at (ag129 S.p) (sz129 S.p), part_all (ag131 S.p) (sz131 S.p), part_at (ag131 S.p) (sz131 S.p), part_sc (ag3 S.p), part_sc (ag4 S.p), cells_self, cells_other, x0, x1, x2, x3, y0, y1, y2, y3, f1, f2, f3, f4, Nat.zero_add]
    exact Ends.some rfl
  cases o2
  · simp (maxSteps := 1000000) (disch := first | omega | (simp (disch := first | omega | (simp only [freeL_ck, ck_len, joinTo_len, join_len, AcV.len, AcV.hk, List.length_append, List.length_cons, List.length_nil, List.length_set]; first | done | omega)) only [freeL_ck, ck_len, joinTo_len, join_len, AcV.len, AcV.hk, amSide, Int.reduceToNat, Nat.reducePow, Nat.reduceMul]; first | done | omega)) only  [↓amPre, amPost, ↓s_lit', Nat.reduceAdd, Nat.reduceSub, List.replicate, retA, resultsA, resultA, toC, toCL, Nat.reduceEqDiff, (fa131_0 S.p), (fa131_1 S.p), (fa131_2 S.p), (fa131_3 S.p), part_all (ag129 S.p) (sz129 S.p), part_at (ag129 S.p) (sz129 S.p), part_all (ag131 S.p) (sz131 S.p), part_at (ag131 S.p) (sz131 S.p), part_sc (ag3 S.p), part_sc (ag4 S.p), cells_self, cells_other, x0, x1, x2, x3, y0, y1, y2, y3, f1, f2, f3, f4, Nat.zero_add]
    exact Ends.some rfl
  by_cases c1 : x.c = y.c
  · by_cases c2 : x.t = y.t
    · simp (maxSteps := 1000000) (disch := first | omega | (simp (disch := first | omega | (simp only [freeL_ck, ck_len, joinTo_len, join_len, AcV.len, AcV.hk, List.length_append, List.length_cons, List.length_nil, List.length_set]; first | done | omega)) only [freeL_ck, ck_len, joinTo_len, join_len, AcV.len, AcV.hk, amSide, Int.reduceToNat, Nat.reducePow, Nat.reduceMul]; first | done | omega)) only  [↓amPre, amPost, ↓s_lit', Nat.reduceAdd, Nat.reduceSub, List.replicate, retA, resultsA, resultA, toC, toCL, Nat.reduceEqDiff, (fa131_0 S.p), (fa131_1 S.p), (fa131_2 S.p), (fa131_3 S.p), part_all (ag129 S.p) (sz129 S.p), part_at (ag129 S.p) (sz129 S.p), part_all (ag131 S.p) (sz131 S.p), part_at (ag131 S.p) (sz131 S.p), part_sc (ag3 S.p), part_sc (ag4 S.p), cells_self, cells_other, x0, x1, x2, x3, y0, y1, y2, y3, f1, f2, f3, f4, beqI_t, bneI_f, Nat.zero_add]
      first | (exact Ends.some rfl) | (exact Ends.some (by simp [c1, c2]))
    · cases w1
      · cases w2
        · simp (maxSteps := 1000000) (disch := first | omega | (simp (disch := first | omega | (simp only [freeL_ck, ck_len, joinTo_len, join_len, AcV.len, AcV.hk, List.length_append, List.length_cons, List.length_nil, List.length_set]; first | done | omega)) only [freeL_ck, ck_len, joinTo_len, join_len, AcV.len, AcV.hk, amSide, Int.reduceToNat, Nat.reducePow, Nat.reduceMul]; first | done | omega)) only  [↓amPre, amPost, ↓s_lit', Nat.reduceAdd, Nat.reduceSub, List.replicate, retA, resultsA, resultA, toC, toCL, Nat.reduceEqDiff, (fa131_0 S.p), (fa131_1 S.p), (fa131_2 S.p), (fa131_3 S.p), part_all (ag129 S.p) (sz129 S.p), part_at (ag129 S.p) (sz129 S.p), part_all (ag131 S.p) (sz131 S.p), part_at (ag131 S.p) (sz131 S.p), part_sc (ag3 S.p), part_sc (ag4 S.p), cells_self, cells_other, x0, x1, x2, x3, y0, y1, y2, y3, f1, f2, f3, f4, beqI_f, bneI_f, Nat.zero_add]
          first | (exact Ends.some rfl) | (exact Ends.some (by simp [c1, c2]))
        · cases B1
          · simp (maxSteps := 1000000) (disch := first | omega | (simp (disch := first | omega | (simp only [freeL_ck, ck_len, joinTo_len, join_len, AcV.len, AcV.hk, List.length_append, List.length_cons, List.length_nil, List.length_set]; first | done | omega)) only [freeL_ck, ck_len, joinTo_len, join_len, AcV.len, AcV.hk, amSide, Int.reduceToNat, Nat.reducePow, Nat.reduceMul]; first | done | omega)) only  [↓amPre, amPost, ↓s_lit', Nat.reduceAdd, Nat.reduceSub, List.replicate, retA, resultsA, resultA, toC, toCL, Nat.reduceEqDiff, (fa131_0 S.p), (fa131_1 S.p), (fa131_2 S.p), (fa131_3 S.p), part_all (ag129 S.p) (sz129 S.p), part_at (ag129 S.p) (sz129 S.p), part_all (ag131 S.p) (sz131 S.p), part_at (ag131 S.p) (sz131 S.p), part_sc (ag3 S.p), part_sc (ag4 S.p), cells_self, cells_other, x0, x1, x2, x3, y0, y1, y2, y3, f1, f2, f3, f4, beqI_f, bneI_f, Nat.zero_add]
            first | (exact Ends.some rfl) | (exact Ends.some (by simp [c1, c2]))
          · simp (maxSteps := 1000000) (disch := first | omega | (simp (disch := first | omega | (simp only [freeL_ck, ck_len, joinTo_len, join_len, AcV.len, AcV.hk, List.length_append, List.length_cons, List.length_nil, List.length_set]; first | done | omega)) only [freeL_ck, ck_len, joinTo_len, join_len, AcV.len, AcV.hk, amSide, Int.reduceToNat, Nat.reducePow, Nat.reduceMul]; first | done | omega)) only  [↓amPre, amPost, ↓s_lit', Nat.reduceAdd, Nat.reduceSub, List.replicate, retA, resultsA, resultA, toC, toCL, Nat.reduceEqDiff, (fa131_0 S.p), (fa131_1 S.p), (fa131_2 S.p), (fa131_3 S.p), part_all (ag129 S.p) (sz129 S.p), part_at (ag129 S.p) (sz129 S.p), part_all (ag131 S.p) (sz131 S.p), part_at (ag131 S.p) (sz131 S.p), part_sc (ag3 S.p), part_sc (ag4 S.p), cells_self, cells_other, x0, x1, x2, x3, y0, y1, y2, y3, f1, f2, f3, f4, beqI_f, bneI_f, Nat.zero_add]
            first | (exact Ends.some rfl) | (exact Ends.some (by simp [c1, c2]))
      · cases B1
        · simp (maxSteps := 1000000) (disch := first | omega | (simp (disch := first | omega | (simp only [freeL_ck, ck_len, joinTo_len, join_len, AcV.len, AcV.hk, List.length_append, List.length_cons, List.length_nil, List.length_set]; first | done | omega)) only [freeL_ck, ck_len, joinTo_len, join_len, AcV.len, AcV.hk, amSide, Int.reduceToNat, Nat.reducePow, Nat.reduceMul]; first | done | omega)) only  [↓amPre, amPost, ↓s_lit', Nat.reduceAdd, Nat.reduceSub, List.replicate, retA, resultsA, resultA, toC, toCL, Nat.reduceEqDiff, (fa131_0 S.p), (fa131_1 S.p), (fa131_2 S.p), (fa131_3 S.p), part_all (ag129 S.p) (sz129 S.p), part_at (ag129 S.p) (sz129 S.p), part_all (ag131 S.p) (sz131 S.p), part_at (ag131 S.p) (sz131 S.p), part_sc (ag3 S.p), part_sc (ag4 S.p), cells_self, cells_other, x0, x1, x2, x3, y0, y1, y2, y3, f1, f2, f3, f4, beqI_f, bneI_f, Nat.zero_add]
          first | (exact Ends.some rfl) | (exact Ends.some (by simp [c1, c2]))
        · simp (maxSteps := 1000000) (disch := first | omega | (simp (disch := first | omega | (simp only [freeL_ck, ck_len, joinTo_len, join_len, AcV.len, AcV.hk, List.length_append, List.length_cons, List.length_nil, List.length_set]; first | done | omega)) only [freeL_ck, ck_len, joinTo_len, join_len, AcV.len, AcV.hk, amSide, Int.reduceToNat, Nat.reducePow, Nat.reduceMul]; first | done | omega)) only  [↓amPre, amPost, ↓s_lit', Nat.reduceAdd, Nat.reduceSub, List.replicate, retA, resultsA, resultA, toC, toCL, Nat.reduceEqDiff, (fa131_0 S.p), (fa131_1 S.p), (fa131_2 S.p), (fa131_3 S.p), part_all (ag129 S.p) (sz129 S.p), part_at (ag129 S.p) (sz129 S.p), part_all (ag131 S.p) (sz131 S.p), part_at (ag131 S.p) (sz131 S.p), part_sc (ag3 S.p), part_sc (ag4 S.p), cells_self, cells_other, x0, x1, x2, x3, y0, y1, y2, y3, f1, f2, f3, f4, beqI_f, bneI_f, Nat.zero_add]
          first | (exact Ends.some rfl) | (exact Ends.some (by simp [c1, c2]))
  · simp (maxSteps := 1000000) (disch := first | omega | (simp (disch := first | omega | (simp only [freeL_ck, ck_len, joinTo_len, join_len, AcV.len, AcV.hk, List.length_append, List.length_cons, List.length_nil, List.length_set]; first | done | omega)) only [freeL_ck, ck_len, joinTo_len, join_len, AcV.len, AcV.hk, amSide, Int.reduceToNat, Nat.reducePow, Nat.reduceMul]; first | done | omega)) only  [↓amPre, amPost, ↓s_lit', Nat.reduceAdd, Nat.reduceSub, List.replicate, retA, resultsA, resultA, toC, toCL, Nat.reduceEqDiff, (fa131_0 S.p), (fa131_1 S.p), (fa131_2 S.p), (fa131_3 S.p), part_all (ag129 S.p) (sz129 S.p), part_at (ag129 S.p) (sz129 S.p), part_all (ag131 S.p) (sz131 S.p), part_at (ag131 S.p) (sz131 S.p), part_sc (ag3 S.p), part_sc (ag4 S.p), cells_self, cells_other, x0, x1, x2, x3, y0, y1, y2, y3, f1, f2, f3, f4, bneI_t, Nat.zero_add]
    exact Ends.some (by simp [c1])
end Go.AM
