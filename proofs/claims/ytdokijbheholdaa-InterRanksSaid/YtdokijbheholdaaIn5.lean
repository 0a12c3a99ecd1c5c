/- Orders: the document's counts. Conditions: none. -/
import Derived.Test.YtdokijbheholdaaIn4
set_option linter.unusedVariables false
set_option linter.unusedSimpArgs false
set_option maxRecDepth 100000
namespace Go.AM
open Go.Proofs
theorem s27 {P : Program} {T : Tab} {K d : Nat} (S : Sd P T K) (hd : 2 ≤ d) (q : SV) (l : List Nat) (hl : l.length ≤ 8) (hs : sumN l ≤ 20) (lk : Nat) (h : List AO) (hS : Sl h q (ints l)) :
    ev P T K d 27 [.sc q] lk h = some (.v (.sc (.int .u64 ((multi 0 l : Nat) : Int))), h) := by
  obtain ⟨d, rfl⟩ : ∃ k, d = k + 1 := ⟨d - 1, by omega⟩
  refine ev_pure (at27 S.t) rfl ?_
  unfold i27 Try.f27
  have hlen : ∀ hh, lenA P hh 35 (.v (.sc q)) = some (.v (.sc (.int .i64 (l.length : Int)))) := fun hh => by
    rw [← ints_len]
    rcases hS with ⟨rfl, h2⟩ | ⟨b, rfl, _, _⟩
    · rw [h2]; exact len_nils (un35 S.p)
    · exact len_sl (un35 S.p) _ _ _ _
  simp (disch := first | omega | (simp (disch := first | omega | (simp only [List.length_append, List.length_cons, List.length_nil, List.length_set]; first | done | omega)) only [amSide, Int.reduceToNat, Nat.reducePow, Nat.reduceMul]; first | done | omega)) only  [↓amPre, amPost, ↓s_lit', Nat.reduceAdd, Nat.reduceSub, List.replicate, retA, resultsA, resultA, toC, toCL, Nat.reduceEqDiff, iaddr_sl (un35 S.p) (sz3 S.p), len_sl (un35 S.p), len_nils (un35 S.p), part_sc (ag3 S.p), hlen]
  refine ends_loop (X := Nat) 0 [6, 7, 8, 9, 10, 11, 12, 13, 14, 15, 16, 17, 18, 19, 20, 21, 22, 23, 24, 25] (fun i => i ≤ l.length) (fun i => l.length - i) (fun i e => ((e.set 3 (.v (.sc (.int .i64 ((sumN (l.take i) : Nat) : Int))))).set 4 (.v (.sc (.int .u64 ((multi 0 (l.take i) : Nat) : Int))))).set 5 (.v (.sc (.int .i64 i)))) (fun _ => h)
    (by have := S.k; show _ < K; omega) (by omega) (by simp only [List.take_zero, multi, sumN]; rfl) rfl ?_
  rintro i hi again hag e he
  simp only [↓amPre, amPost, ↓s_lit', Nat.reduceAdd, Nat.reduceSub, List.replicate, retA, resultsA, resultA, toC, toCL, Nat.reduceEqDiff] at he
  simp only [↓amPre, amPost, ↓s_lit', Nat.reduceAdd, Nat.reduceSub, List.replicate, retA, resultsA, resultA, toC, toCL, Nat.reduceEqDiff, he]
  simp (disch := first | omega | (simp (disch := first | omega | (simp only [List.length_append, List.length_cons, List.length_nil, List.length_set]; first | done | omega)) only [amSide, Int.reduceToNat, Nat.reducePow, Nat.reduceMul]; first | done | omega)) only  [↓amPre, amPost, ↓s_lit', Nat.reduceAdd, Nat.reduceSub, List.replicate, retA, resultsA, resultA, toC, toCL, Nat.reduceEqDiff, he, iaddr_sl (un35 S.p) (sz3 S.p), len_sl (un35 S.p), len_nils (un35 S.p), part_sc (ag3 S.p), hlen]
  refine ends_cond (fun hc1 => ?_) (fun hc1 => ?_)
  · simp only [decide_eq_true_eq] at hc1
    have hi' : i < l.length := by omega
    obtain ⟨b, rfl, hb, hc⟩ : ∃ b, q = .sl b 0 (ints l).length 1 ∧ b < h.length ∧ cellsAt h b = some ((ints l).map (SV.int .i64)) := by
      rcases hS with ⟨_, h2⟩ | H
      · have h3 : l.length = 0 := by rw [← ints_len, h2]; rfl
        omega
      · exact H
    have e2 : (0 ≤ (i : Int) ∧ (i : Int) < (((ints l).length : Nat) : Int)) = True := by rw [ints_len]; simp; omega
    have hca : ((ints l).map (SV.int .i64))[i]? = some (.int .i64 ((l.getD i 0 : Nat) : Int)) := by rw [cnt_at _ _ (by rw [ints_len]; exact hi'), ints_getD]
    have hA : sumN (l.take i) + l.getD i 0 ≤ 20 := by
      have := sumN_take l (i + 1)
      rw [take_snoc l i hi', sumN_snoc] at this; omega
    have m1 : multi 0 (l.take (i + 1)) = multi 0 (l.take i) * ch (sumN (l.take i) + l.getD i 0) (l.getD i 0) := by rw [take_snoc l i hi', multi_snoc, Nat.zero_add]
    have m2 : sumN (l.take (i + 1)) = sumN (l.take i) + l.getD i 0 := by rw [take_snoc l i hi', sumN_snoc]
    have m3 : multi 0 (l.take (i + 1)) ≤ 2432902008176640000 := multi_lt _ (by rw [m2]; exact hA)
    have w1 : IntKind.i64.wrap (((sumN (l.take i) : Nat) : Int) + ((l.getD i 0 : Nat) : Int)) = ((sumN (l.take (i + 1)) : Nat) : Int) := by rw [m2, wrap_i64 (by omega) (by omega)]; omega
    have h50 : ∀ lk h, ev P T K d 50 [.sc (.int .i64 ((sumN (l.take (i + 1)) : Nat) : Int)), .sc (.int .i64 ((l.getD i 0 : Nat) : Int))] lk h = some (.v (.sc (.int .u64 ((ch (sumN (l.take (i + 1))) (l.getD i 0) : Nat) : Int))), h) := fun lk h => s50 S (by omega) _ _ (by rw [m2]; exact hA) lk h
    have w2 : IntKind.u64.wrap (((multi 0 (l.take i) : Nat) : Int) * ((ch (sumN (l.take (i + 1))) (l.getD i 0) : Nat) : Int)) = ((multi 0 (l.take (i + 1)) : Nat) : Int) := by
      rw [m1] at m3 ⊢
      rw [m2, ← Int.natCast_mul]; exact wrapU _ (by omega)
    simp (disch := first | omega | (simp (disch := first | omega | (simp only [List.length_append, List.length_cons, List.length_nil, List.length_set]; first | done | omega)) only [amSide, Int.reduceToNat, Nat.reducePow, Nat.reduceMul]; first | done | omega)) only  [↓amPre, amPost, ↓s_lit', Nat.reduceAdd, Nat.reduceSub, List.replicate, retA, resultsA, resultA, toC, toCL, Nat.reduceEqDiff, he, iaddr_sl (un35 S.p) (sz3 S.p), len_sl (un35 S.p), len_nils (un35 S.p), part_sc (ag3 S.p), e2, hc, hca, h50, w1, w2, Int.toNat_natCast, Nat.mul_one, Nat.zero_add, wrap_i64]
    refine hag (i + 1) (by omega) (by omega) _ ?_
    simp only [↓amPre, amPost, ↓s_lit', Nat.reduceAdd, Nat.reduceSub, List.replicate, retA, resultsA, resultA, toC, toCL, Nat.reduceEqDiff, Int.natCast_add, Int.cast_ofNat_Int]
  · simp only [decide_eq_false_iff_not] at hc1
    obtain rfl : i = l.length := by omega
    rw [List.take_length]
    simp (disch := first | omega | (simp (disch := first | omega | (simp only [List.length_append, List.length_cons, List.length_nil, List.length_set]; first | done | omega)) only [amSide, Int.reduceToNat, Nat.reducePow, Nat.reduceMul]; first | done | omega)) only  [↓amPre, amPost, ↓s_lit', Nat.reduceAdd, Nat.reduceSub, List.replicate, retA, resultsA, resultA, toC, toCL, Nat.reduceEqDiff, he, iaddr_sl (un35 S.p) (sz3 S.p), len_sl (un35 S.p), len_nils (un35 S.p), part_sc (ag3 S.p)]
    exact Ends.some rfl
theorem s25 {P : Program} {T : Tab} {K d : Nat} (S : Sd P T K) (hd : 1 ≤ d) (q : SV) (cnt : List Int) (lk : Nat) (h : List AO) (hS : Sl h q cnt) :
    ev P T K d 25 [.sc q] lk h = some (.v (.sc (.bool (totB cnt))), h) := by
  obtain ⟨d, rfl⟩ : ∃ k, d = k + 1 := ⟨d - 1, by omega⟩
  refine ev_pure (at25 S.t) rfl ?_
  unfold i25 Try.f25
  have hlen : ∀ hh, lenA P hh 35 (.v (.sc q)) = some (.v (.sc (.int .i64 (cnt.length : Int)))) := fun hh => by
    rcases hS with ⟨rfl, rfl⟩ | ⟨l, rfl, _, _⟩
    · exact len_nils (un35 S.p)
    · exact len_sl (un35 S.p) _ _ _ _
  by_cases h1 : cnt.length < 1
  · have d1 : decide ((cnt.length : Int) < 1) = true := decide_eq_true (by omega)
    have e : totOk cnt = false := by unfold totOk; rw [decide_eq_false (by omega)]; rfl
    have e2 : totB cnt = false := by unfold totB; rw [e]; rfl
    simp (disch := first | omega | (simp (disch := first | omega | (simp only [List.length_append, List.length_cons, List.length_nil, List.length_set]; first | done | omega)) only [amSide, Int.reduceToNat, Nat.reducePow, Nat.reduceMul]; first | done | omega)) only  [↓amPre, amPost, ↓s_lit', Nat.reduceAdd, Nat.reduceSub, List.replicate, retA, resultsA, resultA, toC, toCL, Nat.reduceEqDiff, iaddr_sl (un35 S.p) (sz3 S.p), len_sl (un35 S.p), len_nils (un35 S.p), part_sc (ag3 S.p), hlen, d1, e2]
    exact Ends.some rfl
  have d1 : decide ((cnt.length : Int) < 1) = false := decide_eq_false (by omega)
  by_cases h8 : cnt.length > 8
  · have d2 : decide ((cnt.length : Int) > 8) = true := decide_eq_true (by omega)
    have e : totOk cnt = false := by unfold totOk; rw [decide_eq_false (show ¬ cnt.length ≤ 8 by omega)]; simp
    have e2 : totB cnt = false := by unfold totB; rw [e]; rfl
    simp (disch := first | omega | (simp (disch := first | omega | (simp only [List.length_append, List.length_cons, List.length_nil, List.length_set]; first | done | omega)) only [amSide, Int.reduceToNat, Nat.reducePow, Nat.reduceMul]; first | done | omega)) only  [↓amPre, amPost, ↓s_lit', Nat.reduceAdd, Nat.reduceSub, List.replicate, retA, resultsA, resultA, toC, toCL, Nat.reduceEqDiff, iaddr_sl (un35 S.p) (sz3 S.p), len_sl (un35 S.p), len_nils (un35 S.p), part_sc (ag3 S.p), hlen, d1, d2, e2]
    exact Ends.some rfl
  have d2 : decide ((cnt.length : Int) > 8) = false := decide_eq_false (by omega)
  obtain ⟨l, rfl, hl, hc⟩ : ∃ l, q = .sl l 0 cnt.length 1 ∧ l < h.length ∧ cellsAt h l = some (cnt.map (SV.int .i64)) := by
    rcases hS with ⟨_, rfl⟩ | H
    · simp at h1
    · exact H
  simp (disch := first | omega | (simp (disch := first | omega | (simp only [List.length_append, List.length_cons, List.length_nil, List.length_set]; first | done | omega)) only [amSide, Int.reduceToNat, Nat.reducePow, Nat.reduceMul]; first | done | omega)) only  [↓amPre, amPost, ↓s_lit', Nat.reduceAdd, Nat.reduceSub, List.replicate, retA, resultsA, resultA, toC, toCL, Nat.reduceEqDiff, iaddr_sl (un35 S.p) (sz3 S.p), len_sl (un35 S.p), len_nils (un35 S.p), part_sc (ag3 S.p), hlen, d1, d2]
  refine ends_loop (X := Nat) 0 [2, 13, 14, 15, 16, 17, 18, 19, 20, 21, 22, 23, 24, 25, 26, 27, 28, 29, 30, 31, 32, 33, 34, 35, 36] (fun i => i ≤ cnt.length ∧ ∀ c ∈ cnt.take i, 0 ≤ c ∧ c ≤ 20) (fun i => cnt.length - i) (fun i e => (e.set 3 (.v (.sc (.int .i64 (cnt.take i).sum)))).set 4 (.v (.sc (.int .i64 i)))) (fun _ => h)
    (by have := S.k; show _ < K; omega) ⟨by omega, by simp⟩ (by simp only [List.take_zero, List.sum_nil]; rfl) rfl ?_
  rintro i ⟨hi, hr⟩ again hag e he
  simp only [↓amPre, amPost, ↓s_lit', Nat.reduceAdd, Nat.reduceSub, List.replicate, retA, resultsA, resultA, toC, toCL, Nat.reduceEqDiff] at he
  simp only [↓amPre, amPost, ↓s_lit', Nat.reduceAdd, Nat.reduceSub, List.replicate, retA, resultsA, resultA, toC, toCL, Nat.reduceEqDiff, he]
  simp (disch := first | omega | (simp (disch := first | omega | (simp only [List.length_append, List.length_cons, List.length_nil, List.length_set]; first | done | omega)) only [amSide, Int.reduceToNat, Nat.reducePow, Nat.reduceMul]; first | done | omega)) only  [↓amPre, amPost, ↓s_lit', Nat.reduceAdd, Nat.reduceSub, List.replicate, retA, resultsA, resultA, toC, toCL, Nat.reduceEqDiff, he, iaddr_sl (un35 S.p) (sz3 S.p), len_sl (un35 S.p), len_nils (un35 S.p), part_sc (ag3 S.p), hlen]
  refine ends_cond (fun hc1 => ?_) (fun hc1 => ?_)
  · simp only [decide_eq_true_eq] at hc1
    have hi' : i < cnt.length := by omega
    have e2 : (0 ≤ (i : Int) ∧ (i : Int) < (cnt.length : Int)) = True := by simp; omega
    have bad : (¬ (0 ≤ cnt.getD i 0) ∨ ¬ cnt.getD i 0 ≤ 20) → totB cnt = false := fun hb => by
      unfold totB totOk
      have : (cnt.all fun c => decide (0 ≤ c) && decide (c ≤ 20)) = false := by
        rw [List.all_eq_false]
        refine ⟨cnt.getD i 0, by rw [List.getD_eq_getElem?_getD, List.getElem?_eq_getElem hi']; exact List.getElem_mem _, ?_⟩
        rcases hb with hb | hb
        · rw [decide_eq_false hb]; simp
        · rw [decide_eq_false hb]; simp
      rw [this, Bool.and_false, Bool.false_and]
    by_cases n0 : cnt.getD i 0 < 0
    · have d3 : decide (cnt.getD i 0 < 0) = true := decide_eq_true n0
      have e3 := bad (.inl (by omega))
      simp (disch := first | omega | (simp (disch := first | omega | (simp only [List.length_append, List.length_cons, List.length_nil, List.length_set]; first | done | omega)) only [amSide, Int.reduceToNat, Nat.reducePow, Nat.reduceMul]; first | done | omega)) only  [↓amPre, amPost, ↓s_lit', Nat.reduceAdd, Nat.reduceSub, List.replicate, retA, resultsA, resultA, toC, toCL, Nat.reduceEqDiff, he, iaddr_sl (un35 S.p) (sz3 S.p), len_sl (un35 S.p), len_nils (un35 S.p), part_sc (ag3 S.p), e2, hc, cnt_at, Int.toNat_natCast, Nat.mul_one, Nat.zero_add, d3, e3]
      exact Ends.some rfl
    have d3 : decide (cnt.getD i 0 < 0) = false := decide_eq_false n0
    by_cases n1 : cnt.getD i 0 > 20
    · have d4 : decide (cnt.getD i 0 > 20) = true := decide_eq_true n1
      have e3 := bad (.inr (by omega))
      simp (disch := first | omega | (simp (disch := first | omega | (simp only [List.length_append, List.length_cons, List.length_nil, List.length_set]; first | done | omega)) only [amSide, Int.reduceToNat, Nat.reducePow, Nat.reduceMul]; first | done | omega)) only  [↓amPre, amPost, ↓s_lit', Nat.reduceAdd, Nat.reduceSub, List.replicate, retA, resultsA, resultA, toC, toCL, Nat.reduceEqDiff, he, iaddr_sl (un35 S.p) (sz3 S.p), len_sl (un35 S.p), len_nils (un35 S.p), part_sc (ag3 S.p), e2, hc, cnt_at, Int.toNat_natCast, Nat.mul_one, Nat.zero_add, d3, d4, e3]
      exact Ends.some rfl
    have d4 : decide (cnt.getD i 0 > 20) = false := decide_eq_false n1
    have hs := sum_le (l := cnt.take i) (n := 8) (by simp; omega) hr
    simp (disch := first | omega | (simp (disch := first | omega | (simp only [List.length_append, List.length_cons, List.length_nil, List.length_set]; first | done | omega)) only [amSide, Int.reduceToNat, Nat.reducePow, Nat.reduceMul]; first | done | omega)) only  [↓amPre, amPost, ↓s_lit', Nat.reduceAdd, Nat.reduceSub, List.replicate, retA, resultsA, resultA, toC, toCL, Nat.reduceEqDiff, he, iaddr_sl (un35 S.p) (sz3 S.p), len_sl (un35 S.p), len_nils (un35 S.p), part_sc (ag3 S.p), e2, hc, cnt_at, Int.toNat_natCast, Nat.mul_one, Nat.zero_add, d3, d4, wrap_i64]
    refine hag (i + 1) ⟨by omega, fun c hcm => ?_⟩ (by omega) _ ?_
    · rw [List.take_add_one, List.getElem?_eq_getElem hi'] at hcm
      simp only [Option.toList_some, List.mem_append, List.mem_singleton] at hcm
      rcases hcm with hcm | rfl
      · exact hr c hcm
      · have : cnt[i] = cnt.getD i 0 := by rw [List.getD_eq_getElem?_getD, List.getElem?_eq_getElem hi']; rfl
        omega
    · rw [sum_take _ _ hi']
      simp only [↓amPre, amPost, ↓s_lit', Nat.reduceAdd, Nat.reduceSub, List.replicate, retA, resultsA, resultA, toC, toCL, Nat.reduceEqDiff, Int.natCast_add, Int.cast_ofNat_Int]
  · simp only [decide_eq_false_iff_not] at hc1
    obtain rfl : i = cnt.length := by omega
    rw [List.take_length] at hr ⊢
    have e : totOk cnt = true := by
      unfold totOk
      simp only [Bool.and_eq_true, decide_eq_true_eq, List.all_eq_true]
      exact ⟨⟨by omega, by omega⟩, hr⟩
    have e3 : totB cnt = decide (cnt.sum ≤ 20) := by unfold totB; rw [e]; rfl
    simp (disch := first | omega | (simp (disch := first | omega | (simp only [List.length_append, List.length_cons, List.length_nil, List.length_set]; first | done | omega)) only [amSide, Int.reduceToNat, Nat.reducePow, Nat.reduceMul]; first | done | omega)) only  [↓amPre, amPost, ↓s_lit', Nat.reduceAdd, Nat.reduceSub, List.replicate, retA, resultsA, resultA, toC, toCL, Nat.reduceEqDiff, he, iaddr_sl (un35 S.p) (sz3 S.p), len_sl (un35 S.p), len_nils (un35 S.p), part_sc (ag3 S.p), e3]
    exact Ends.some rfl
end Go.AM
