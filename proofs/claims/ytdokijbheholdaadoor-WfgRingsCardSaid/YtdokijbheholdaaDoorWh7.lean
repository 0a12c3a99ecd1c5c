/- Waiting graphs: the number of edges; all nodes that have some. Conditions: none. -/
import Derived.Test.YtdokijbheholdaaDoorWh6
set_option linter.unusedVariables false
set_option linter.unusedSimpArgs false
set_option maxRecDepth 100000
namespace Go.AM
open Go.Proofs Go.Lib
-- LENS: gC_len, Edg.len, ixC_len
def cntE (E : List Nat) (n : Nat) : Nat := ((E.take n).map fun x => (bl x).length).sum
theorem cntE_succ {E : List Nat} {n : Nat} (h : n < E.length) : cntE E (n + 1) = cntE E n + (bl (E.getD n 0)).length := by
  unfold cntE
  rw [List.take_add_one, List.getElem?_eq_getElem h, List.map_append, List.sum_append]
  simp [List.getD_eq_getElem?_getD, List.getElem?_eq_getElem h]
theorem cntE_le (E : List Nat) : ∀ n, cntE E n ≤ 64 * n
  | 0 => by simp [cntE]
  | n + 1 => by
    by_cases h : n < E.length
    · rw [cntE_succ h]
      have := cntE_le E n
      have := bl_len (E.getD n 0)
      omega
    · have : cntE E (n + 1) = cntE E n := by unfold cntE; rw [List.take_of_length_le (by omega), List.take_of_length_le (by omega)]
      rw [this]
      have := cntE_le E n
      omega
set_option maxHeartbeats 4000000 in
theorem s22 {P : Program} {T : Tab} {K d : Nat} (S : Sd P T K) (hd : 2 ≤ d) {E : List Nat} (G : GOk E) (lk : Nat) (h : List AO) : ev P T K d 22 [.ag (gC E)] lk h = some (.v (.sc (.int .i64 (cntE E 64 : Nat))), h) := by
  obtain ⟨d, rfl⟩ : ∃ k, d = k + 1 := ⟨d - 1, by omega⟩
  refine ev_pure (at22 S.t) rfl ?_
  unfold i22 Tryd.f22
  have hl := gC_len E
  have hl64 := G.len
  have p1 := part_self (ag31 S.p) (sz31 S.p) (gC E) (by rw [gC_len]; exact hl64)
  simp (maxSteps := 1000000) (disch := first | omega | (simp (disch := first | omega | (simp only [gC_len, Edg.len, ixC_len, List.length_append, List.length_cons, List.length_nil, List.length_set]; first | done | omega)) only [gC_len, Edg.len, ixC_len, amSide, Int.reduceToNat, Nat.reducePow, Nat.reduceMul]; first | done | omega)) only  [↓amPre, amPost, ↓s_lit', Nat.reduceAdd, Nat.reduceSub, List.replicate, retA, resultsA, resultA, toC, toCL, Nat.reduceEqDiff, (fa33_0 S.p), index_ag (un31 S.p) (sz30 S.p), part_sc (ag30 S.p), part_all (ag31 S.p) (sz31 S.p), part_at (ag31 S.p) (sz31 S.p), p1, cells_self, cells_other]
  refine ends_loop (X := ThN) ⟨0⟩ [5, 9, 10, 11, 12, 13, 14, 15] (fun x => x.i ≤ 64) (fun x => 64 - x.i)
    (fun x e => (e.set 3 (.v (.sc (.int .i64 (cntE E x.i : Nat))))).set 8 (.v (.sc (.int .i64 x.i)))) (fun x => h ++ [.rw 33 (gC E)])
    (by have := S.k; show _ < K; simp only; omega) (by simp only; omega) rfl rfl ?_
  rintro ⟨i⟩ hi again hag e he
  simp only at hi hag he
  simp only [↓amPre, amPost, ↓s_lit', Nat.reduceAdd, Nat.reduceSub, List.replicate, retA, resultsA, resultA, toC, toCL, Nat.reduceEqDiff] at he
  simp only [↓amPre, amPost, ↓s_lit', Nat.reduceAdd, Nat.reduceSub, List.replicate, retA, resultsA, resultA, toC, toCL, Nat.reduceEqDiff, he]
  refine ends_cond (fun hc1 => ?_) (fun hc1 => ?_)
  · simp only [decide_eq_true_eq] at hc1
    have hg := gC_at (E := E) (i := i) (by omega)
    have f34 := fun lk h => s34 S (show 1 ≤ d by omega) (G.lt i) lk h
    have hs := cntE_succ (E := E) (n := i) (by omega)
    have hle := cntE_le E (i + 1)
    have hw : IntKind.i64.wrap ((cntE E i : Nat) + ((bl (E.getD i 0)).length : Nat) : Int) = ((cntE E (i + 1) : Nat) : Int) := by
      rw [wrap_i64 (by omega) (by omega)]; omega
    simp (maxSteps := 1000000) (disch := first | omega | (simp (disch := first | omega | (simp only [gC_len, Edg.len, ixC_len, List.length_append, List.length_cons, List.length_nil, List.length_set]; first | done | omega)) only [gC_len, Edg.len, ixC_len, amSide, Int.reduceToNat, Nat.reducePow, Nat.reduceMul]; first | done | omega)) only  [↓amPre, amPost, ↓s_lit', Nat.reduceAdd, Nat.reduceSub, List.replicate, retA, resultsA, resultA, toC, toCL, Nat.reduceEqDiff, he, (fa33_0 S.p), index_ag (un31 S.p) (sz30 S.p), part_sc (ag30 S.p), part_all (ag31 S.p) (sz31 S.p), part_at (ag31 S.p) (sz31 S.p), idx_ok, hg, f34, hw, Nat.mul_one, Int.toNat_natCast, Nat.zero_add, wrap_i64]
    refine hag ⟨i + 1⟩ (by simp only; omega) (by simp only; omega) _ ?_
    simp (maxSteps := 1000000) (disch := first | omega | (simp (disch := first | omega | (simp only [gC_len, Edg.len, ixC_len, List.length_append, List.length_cons, List.length_nil, List.length_set]; first | done | omega)) only [gC_len, Edg.len, ixC_len, amSide, Int.reduceToNat, Nat.reducePow, Nat.reduceMul]; first | done | omega)) only [↓amPre, amPost, ↓s_lit', Nat.reduceAdd, Nat.reduceSub, List.replicate, retA, resultsA, resultA, toC, toCL, Nat.reduceEqDiff, Int.natCast_add, Int.cast_ofNat_Int, dec_t, dec_f]
  · simp only [decide_eq_false_iff_not] at hc1
    obtain rfl : i = 64 := by omega
    simp (maxSteps := 1000000) (disch := first | omega | (simp (disch := first | omega | (simp only [gC_len, Edg.len, ixC_len, List.length_append, List.length_cons, List.length_nil, List.length_set]; first | done | omega)) only [gC_len, Edg.len, ixC_len, amSide, Int.reduceToNat, Nat.reducePow, Nat.reduceMul]; first | done | omega)) only  [↓amPre, amPost, ↓s_lit', Nat.reduceAdd, Nat.reduceSub, List.replicate, retA, resultsA, resultA, toC, toCL, Nat.reduceEqDiff, he, (fa33_0 S.p), index_ag (un31 S.p) (sz30 S.p), part_sc (ag30 S.p), part_all (ag31 S.p) (sz31 S.p), part_at (ag31 S.p) (sz31 S.p)]
    exact Ends.some rfl
/-- The nodes that have edges, or to which some lead, of so many. -/
def allE (E : List Nat) : Nat → Nat
  | 0 => 0
  | n + 1 => if E.getD n 0 = 0 then allE E n else allE E n ||| E.getD n 0 ||| 2 ^ n
theorem allE_lt {E : List Nat} (G : GOk E) : ∀ n, n ≤ 64 → allE E n < 18446744073709551616
  | 0, _ => by simp [allE]
  | n + 1, h => by
    unfold allE
    split
    · exact allE_lt G n (by omega)
    · exact Nat.or_lt_two_pow (n := 64) (Nat.or_lt_two_pow (n := 64) (allE_lt G n (by omega)) (G.lt n)) (two_lt (by omega))
set_option maxHeartbeats 4000000 in
theorem s24 {P : Program} {T : Tab} {K d : Nat} (S : Sd P T K) (hd : 2 ≤ d) {E : List Nat} (G : GOk E) (lk : Nat) (h : List AO) : ev P T K d 24 [.ag (gC E)] lk h = some (.v (.sc (.int .u64 (allE E 64 : Nat))), h) := by
  obtain ⟨d, rfl⟩ : ∃ k, d = k + 1 := ⟨d - 1, by omega⟩
  refine ev_pure (at24 S.t) rfl ?_
  unfold i24 Tryd.f24
  have hl := gC_len E
  have hl64 := G.len
  have p1 := part_self (ag31 S.p) (sz31 S.p) (gC E) (by rw [gC_len]; exact hl64)
  simp (maxSteps := 1000000) (disch := first | omega | (simp (disch := first | omega | (simp only [gC_len, Edg.len, ixC_len, List.length_append, List.length_cons, List.length_nil, List.length_set]; first | done | omega)) only [gC_len, Edg.len, ixC_len, amSide, Int.reduceToNat, Nat.reducePow, Nat.reduceMul]; first | done | omega)) only  [↓amPre, amPost, ↓s_lit', Nat.reduceAdd, Nat.reduceSub, List.replicate, retA, resultsA, resultA, toC, toCL, Nat.reduceEqDiff, (fa33_0 S.p), index_ag (un31 S.p) (sz30 S.p), part_sc (ag30 S.p), part_all (ag31 S.p) (sz31 S.p), part_at (ag31 S.p) (sz31 S.p), p1, cells_self, cells_other]
  refine ends_loop (X := ThN) ⟨0⟩ [4, 5, 9, 10, 11, 12, 13, 14, 15, 16, 17, 18, 19, 20, 21] (fun x => x.i ≤ 64) (fun x => 64 - x.i)
    (fun x e => (e.set 3 (.v (.sc (.int .u64 (allE E x.i : Nat))))).set 8 (.v (.sc (.int .i64 x.i)))) (fun x => h ++ [.rw 33 (gC E)])
    (by have := S.k; show _ < K; simp only; omega) (by simp only; omega) rfl rfl ?_
  rintro ⟨i⟩ hi again hag e he
  simp only at hi hag he
  simp only [↓amPre, amPost, ↓s_lit', Nat.reduceAdd, Nat.reduceSub, List.replicate, retA, resultsA, resultA, toC, toCL, Nat.reduceEqDiff] at he
  simp only [↓amPre, amPost, ↓s_lit', Nat.reduceAdd, Nat.reduceSub, List.replicate, retA, resultsA, resultA, toC, toCL, Nat.reduceEqDiff, he]
  refine ends_cond (fun hc1 => ?_) (fun hc1 => ?_)
  · simp only [decide_eq_true_eq] at hc1
    have hi64 : i < 64 := by omega
    have hg := gC_at (E := E) (i := i) (by omega)
    have hal := allE_lt G i (by omega)
    have ho := or_nat (allE E i) (E.getD i 0) hal (G.lt i)
    by_cases h0 : E.getD i 0 = 0
    · have hs : allE E (i + 1) = allE E i := by
        show (if E.getD i 0 = 0 then allE E i else allE E i ||| E.getD i 0 ||| 2 ^ i) = _
        rw [if_pos h0]
      rw [h0, Nat.or_zero] at ho
      rw [h0] at hg
      have ho' : bitsA .or .u64 ((allE E i : Nat) : Int) 0 = ((allE E i : Nat) : Int) := ho
      have hg' : (gC E)[i]? = some (.int .u64 0) := hg
      simp (maxSteps := 1000000) (disch := first | omega | (simp (disch := first | omega | (simp only [gC_len, Edg.len, ixC_len, List.length_append, List.length_cons, List.length_nil, List.length_set]; first | done | omega)) only [gC_len, Edg.len, ixC_len, amSide, Int.reduceToNat, Nat.reducePow, Nat.reduceMul]; first | done | omega)) only  [↓amPre, amPost, ↓s_lit', Nat.reduceAdd, Nat.reduceSub, List.replicate, retA, resultsA, resultA, toC, toCL, Nat.reduceEqDiff, he, (fa33_0 S.p), index_ag (un31 S.p) (sz30 S.p), part_sc (ag30 S.p), part_all (ag31 S.p) (sz31 S.p), part_at (ag31 S.p) (sz31 S.p), idx_ok, hg', ho', bneI_f, Nat.mul_one, Int.toNat_natCast, Nat.zero_add, wrap_i64]
      refine hag ⟨i + 1⟩ (by simp only; omega) (by simp only; omega) _ ?_
      simp only [hs]
      simp (maxSteps := 1000000) (disch := first | omega | (simp (disch := first | omega | (simp only [gC_len, Edg.len, ixC_len, List.length_append, List.length_cons, List.length_nil, List.length_set]; first | done | omega)) only [gC_len, Edg.len, ixC_len, amSide, Int.reduceToNat, Nat.reducePow, Nat.reduceMul]; first | done | omega)) only [↓amPre, amPost, ↓s_lit', Nat.reduceAdd, Nat.reduceSub, List.replicate, retA, resultsA, resultA, toC, toCL, Nat.reduceEqDiff, Int.natCast_add, Int.cast_ofNat_Int, dec_t, dec_f]
    · have hs : allE E (i + 1) = allE E i ||| E.getD i 0 ||| 2 ^ i := by
        show (if E.getD i 0 = 0 then allE E i else allE E i ||| E.getD i 0 ||| 2 ^ i) = _
        rw [if_neg h0]
      have hn := neq0 h0
      have hsh := one_shl hi64
      have ho2 := or_nat (allE E i ||| E.getD i 0) (2 ^ i) (Nat.or_lt_two_pow (n := 64) hal (G.lt i)) (two_lt hi64)
      rw [← hs] at ho2
      simp (maxSteps := 1000000) (disch := first | omega | (simp (disch := first | omega | (simp only [gC_len, Edg.len, ixC_len, List.length_append, List.length_cons, List.length_nil, List.length_set]; first | done | omega)) only [gC_len, Edg.len, ixC_len, amSide, Int.reduceToNat, Nat.reducePow, Nat.reduceMul]; first | done | omega)) only  [↓amPre, amPost, ↓s_lit', Nat.reduceAdd, Nat.reduceSub, List.replicate, retA, resultsA, resultA, toC, toCL, Nat.reduceEqDiff, he, (fa33_0 S.p), index_ag (un31 S.p) (sz30 S.p), part_sc (ag30 S.p), part_all (ag31 S.p) (sz31 S.p), part_at (ag31 S.p) (sz31 S.p), idx_ok, hg, ho, hn, hsh, ho2, Nat.mul_one, Int.toNat_natCast, Nat.zero_add, wrap_i64]
      refine hag ⟨i + 1⟩ (by simp only; omega) (by simp only; omega) _ ?_
      simp (maxSteps := 1000000) (disch := first | omega | (simp (disch := first | omega | (simp only [gC_len, Edg.len, ixC_len, List.length_append, List.length_cons, List.length_nil, List.length_set]; first | done | omega)) only [gC_len, Edg.len, ixC_len, amSide, Int.reduceToNat, Nat.reducePow, Nat.reduceMul]; first | done | omega)) only [↓amPre, amPost, ↓s_lit', Nat.reduceAdd, Nat.reduceSub, List.replicate, retA, resultsA, resultA, toC, toCL, Nat.reduceEqDiff, Int.natCast_add, Int.cast_ofNat_Int, dec_t, dec_f]
  · simp only [decide_eq_false_iff_not] at hc1
    obtain rfl : i = 64 := by omega
    simp (maxSteps := 1000000) (disch := first | omega | (simp (disch := first | omega | (simp only [gC_len, Edg.len, ixC_len, List.length_append, List.length_cons, List.length_nil, List.length_set]; first | done | omega)) only [gC_len, Edg.len, ixC_len, amSide, Int.reduceToNat, Nat.reducePow, Nat.reduceMul]; first | done | omega)) only  [↓amPre, amPost, ↓s_lit', Nat.reduceAdd, Nat.reduceSub, List.replicate, retA, resultsA, resultA, toC, toCL, Nat.reduceEqDiff, he, (fa33_0 S.p), index_ag (un31 S.p) (sz30 S.p), part_sc (ag30 S.p), part_all (ag31 S.p) (sz31 S.p), part_at (ag31 S.p) (sz31 S.p)]
    exact Ends.some rfl
end Go.AM
