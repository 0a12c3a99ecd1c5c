/- Orders: counts, totals, how many. Conditions: none. -/
import Derived.Test.YtdokijbheholdaaAmTab
import Derived.Test.YtdokijbheholdaaInMath
set_option linter.unusedVariables false
set_option linter.unusedSimpArgs false
set_option maxRecDepth 100000
namespace Go.AM
open Go.Proofs
/-- A slice of whole numbers. -/
def Sl (h : List AO) (q : SV) (cnt : List Int) : Prop := (q = .nils ∧ cnt = []) ∨ ∃ l, q = .sl l 0 cnt.length 1 ∧ l < h.length ∧ cellsAt h l = some (cnt.map (SV.int .i64))
theorem Sl.push {h : List AO} {q : SV} {cnt : List Int} (H : Sl h q cnt) (o : AO) : Sl (h ++ [o]) q cnt := by
  rcases H with H | ⟨l, h1, h2, h3⟩
  · exact .inl H
  · exact .inr ⟨l, h1, by simp; omega, by rw [cells_other l o h2]; exact h3⟩
theorem cnt_at (cnt : List Int) (i : Nat) (hi : i < cnt.length) : (cnt.map (SV.int .i64))[i]? = some (.int .i64 (cnt.getD i 0)) := by
  simp [List.getElem?_eq_getElem hi]
theorem sum_take (l : List Int) (i : Nat) (h : i < l.length) : (l.take (i + 1)).sum = (l.take i).sum + l.getD i 0 := by
  have e : l.take (i + 1) = l.take i ++ [l.getD i 0] := by
    rw [List.take_add_one, List.getElem?_eq_getElem h]
    simp [List.getElem?_eq_getElem h]
  rw [e, List.sum_append]; simp
/-- How many steps; may they be? -/
def totOk (cnt : List Int) : Bool := decide (1 ≤ cnt.length) && decide (cnt.length ≤ 8) && cnt.all fun c => decide (0 ≤ c) && decide (c ≤ 20)
def totN (cnt : List Int) : Int := if totOk cnt then cnt.sum else 0
def totB (cnt : List Int) : Bool := totOk cnt && decide (cnt.sum ≤ 20)
theorem sum_le {l : List Int} {n : Nat} (hl : l.length ≤ n) (h : ∀ c ∈ l, 0 ≤ c ∧ c ≤ 20) : 0 ≤ l.sum ∧ l.sum ≤ 20 * n := by
  induction l generalizing n with
  | nil => simp; omega
  | cons c l ih =>
    obtain ⟨n, rfl⟩ : ∃ m, n = m + 1 := ⟨n - 1, by simp at hl; omega⟩
    have := ih (n := n) (by simpa using hl) fun x hx => h x (List.mem_cons_of_mem _ hx)
    have hc := h c List.mem_cons_self
    simp only [List.sum_cons]; omega
theorem s45 {P : Program} {T : Tab} {K d : Nat} (S : Sd P T K) (hd : 1 ≤ d) (q : SV) (cnt : List Int) (lk : Nat) (h : List AO) (hS : Sl h q cnt) :
    ev P T K d 45 [.sc q] lk h = some (.tup [.sc (.int .i64 (totN cnt)), .sc (.bool (totB cnt))], h) := by
  obtain ⟨d, rfl⟩ : ∃ k, d = k + 1 := ⟨d - 1, by omega⟩
  refine ev_pure (at45 S.t) rfl ?_
  unfold i45 Try.f45
  have hlen : ∀ hh, lenA P hh 35 (.v (.sc q)) = some (.v (.sc (.int .i64 (cnt.length : Int)))) := fun hh => by
    rcases hS with ⟨rfl, rfl⟩ | ⟨l, rfl, _, _⟩
    · exact len_nils (un35 S.p)
    · exact len_sl (un35 S.p) _ _ _ _
  by_cases h1 : cnt.length < 1
  · have d1 : decide ((cnt.length : Int) < 1) = true := decide_eq_true (by omega)
    have e : totOk cnt = false := by unfold totOk; rw [decide_eq_false (by omega)]; rfl
    have e1 : totN cnt = 0 := by unfold totN; rw [e]; rfl
    have e2 : totB cnt = false := by unfold totB; rw [e]; rfl
    simp (disch := first | omega | (simp (disch := first | omega | (simp only [List.length_append, List.length_cons, List.length_nil, List.length_set]; first | done | omega)) only [amSide, Int.reduceToNat, Nat.reducePow, Nat.reduceMul]; first | done | omega)) only  [↓amPre, amPost, ↓s_lit', Nat.reduceAdd, Nat.reduceSub, List.replicate, retA, resultsA, resultA, toC, toCL, Nat.reduceEqDiff, iaddr_sl (un35 S.p) (sz3 S.p), len_sl (un35 S.p), len_nils (un35 S.p), part_sc (ag3 S.p), hlen, d1, e1, e2]
    exact Ends.some rfl
  have d1 : decide ((cnt.length : Int) < 1) = false := decide_eq_false (by omega)
  by_cases h8 : cnt.length > 8
  · have d2 : decide ((cnt.length : Int) > 8) = true := decide_eq_true (by omega)
    have e : totOk cnt = false := by unfold totOk; rw [decide_eq_false (show ¬ cnt.length ≤ 8 by omega)]; simp
    have e1 : totN cnt = 0 := by unfold totN; rw [e]; rfl
    have e2 : totB cnt = false := by unfold totB; rw [e]; rfl
    simp (disch := first | omega | (simp (disch := first | omega | (simp only [List.length_append, List.length_cons, List.length_nil, List.length_set]; first | done | omega)) only [amSide, Int.reduceToNat, Nat.reducePow, Nat.reduceMul]; first | done | omega)) only  [↓amPre, amPost, ↓s_lit', Nat.reduceAdd, Nat.reduceSub, List.replicate, retA, resultsA, resultA, toC, toCL, Nat.reduceEqDiff, iaddr_sl (un35 S.p) (sz3 S.p), len_sl (un35 S.p), len_nils (un35 S.p), part_sc (ag3 S.p), hlen, d1, d2, e1, e2]
    exact Ends.some rfl
  have d2 : decide ((cnt.length : Int) > 8) = false := decide_eq_false (by omega)
  obtain ⟨l, rfl, hl, hc⟩ : ∃ l, q = .sl l 0 cnt.length 1 ∧ l < h.length ∧ cellsAt h l = some (cnt.map (SV.int .i64)) := by
    rcases hS with ⟨_, rfl⟩ | H
    · simp at h1
    · exact H
  simp (disch := first | omega | (simp (disch := first | omega | (simp only [List.length_append, List.length_cons, List.length_nil, List.length_set]; first | done | omega)) only [amSide, Int.reduceToNat, Nat.reducePow, Nat.reduceMul]; first | done | omega)) only  [↓amPre, amPost, ↓s_lit', Nat.reduceAdd, Nat.reduceSub, List.replicate, retA, resultsA, resultA, toC, toCL, Nat.reduceEqDiff, iaddr_sl (un35 S.p) (sz3 S.p), len_sl (un35 S.p), len_nils (un35 S.p), part_sc (ag3 S.p), hlen, d1, d2]
  refine ends_loop (X := Nat) 0 [2, 3, 6, 18, 19, 20, 21, 22, 23, 24, 25, 26, 27, 28, 29, 30] (fun i => i ≤ cnt.length ∧ ∀ c ∈ cnt.take i, 0 ≤ c ∧ c ≤ 20) (fun i => cnt.length - i) (fun i e => (e.set 4 (.v (.sc (.int .i64 (cnt.take i).sum)))).set 17 (.v (.sc (.int .i64 i)))) (fun _ => h)
    (by have := S.k; show _ < K; omega) ⟨by omega, by simp⟩ (by simp only [List.take_zero, List.sum_nil]; rfl) rfl ?_
  rintro i ⟨hi, hr⟩ again hag e he
  simp only [↓amPre, amPost, ↓s_lit', Nat.reduceAdd, Nat.reduceSub, List.replicate, retA, resultsA, resultA, toC, toCL, Nat.reduceEqDiff] at he
  simp only [↓amPre, amPost, ↓s_lit', Nat.reduceAdd, Nat.reduceSub, List.replicate, retA, resultsA, resultA, toC, toCL, Nat.reduceEqDiff, he]
  refine ends_cond (fun hc1 => ?_) (fun hc1 => ?_)
  · simp only [decide_eq_true_eq] at hc1
    have hi' : i < cnt.length := by omega
    have e2 : (0 ≤ (i : Int) ∧ (i : Int) < (cnt.length : Int)) = True := by simp; omega
    by_cases n0 : cnt.getD i 0 < 0
    · have d3 : decide (cnt.getD i 0 < 0) = true := decide_eq_true n0
      have e : totOk cnt = false := by
        unfold totOk
        have : (cnt.all fun c => decide (0 ≤ c) && decide (c ≤ 20)) = false := by
          rw [List.all_eq_false]
          exact ⟨cnt.getD i 0, by rw [List.getD_eq_getElem?_getD, List.getElem?_eq_getElem hi']; exact List.getElem_mem _, by rw [decide_eq_false (show ¬ (0 ≤ cnt.getD i 0) by omega)]; simp⟩
        rw [this, Bool.and_false]
      have e1 : totN cnt = 0 := by unfold totN; rw [e]; rfl
      have e3 : totB cnt = false := by unfold totB; rw [e]; rfl
      simp (disch := first | omega | (simp (disch := first | omega | (simp only [List.length_append, List.length_cons, List.length_nil, List.length_set]; first | done | omega)) only [amSide, Int.reduceToNat, Nat.reducePow, Nat.reduceMul]; first | done | omega)) only  [↓amPre, amPost, ↓s_lit', Nat.reduceAdd, Nat.reduceSub, List.replicate, retA, resultsA, resultA, toC, toCL, Nat.reduceEqDiff, he, iaddr_sl (un35 S.p) (sz3 S.p), len_sl (un35 S.p), len_nils (un35 S.p), part_sc (ag3 S.p), e2, hc, cnt_at, Int.toNat_natCast, Nat.mul_one, Nat.zero_add, d3, e1, e3]
      exact Ends.some rfl
    have d3 : decide (cnt.getD i 0 < 0) = false := decide_eq_false n0
    by_cases n1 : cnt.getD i 0 > 20
    · have d4 : decide (cnt.getD i 0 > 20) = true := decide_eq_true n1
      have e : totOk cnt = false := by
        unfold totOk
        have : (cnt.all fun c => decide (0 ≤ c) && decide (c ≤ 20)) = false := by
          rw [List.all_eq_false]
          exact ⟨cnt.getD i 0, by rw [List.getD_eq_getElem?_getD, List.getElem?_eq_getElem hi']; exact List.getElem_mem _, by rw [decide_eq_false (show ¬ (cnt.getD i 0 ≤ 20) by omega)]; simp⟩
        rw [this, Bool.and_false]
      have e1 : totN cnt = 0 := by unfold totN; rw [e]; rfl
      have e3 : totB cnt = false := by unfold totB; rw [e]; rfl
      simp (disch := first | omega | (simp (disch := first | omega | (simp only [List.length_append, List.length_cons, List.length_nil, List.length_set]; first | done | omega)) only [amSide, Int.reduceToNat, Nat.reducePow, Nat.reduceMul]; first | done | omega)) only  [↓amPre, amPost, ↓s_lit', Nat.reduceAdd, Nat.reduceSub, List.replicate, retA, resultsA, resultA, toC, toCL, Nat.reduceEqDiff, he, iaddr_sl (un35 S.p) (sz3 S.p), len_sl (un35 S.p), len_nils (un35 S.p), part_sc (ag3 S.p), e2, hc, cnt_at, Int.toNat_natCast, Nat.mul_one, Nat.zero_add, d3, d4, e1, e3]
      exact Ends.some rfl
    have d4 : decide (cnt.getD i 0 > 20) = false := decide_eq_false n1
    have hs := sum_le (l := cnt.take i) (n := 8) (by simp; omega) hr
    simp (disch := first | omega | (simp (disch := first | omega | (simp only [List.length_append, List.length_cons, List.length_nil, List.length_set]; first | done | omega)) only [amSide, Int.reduceToNat, Nat.reducePow, Nat.reduceMul]; first | done | omega)) only  [↓amPre, amPost, ↓s_lit', Nat.reduceAdd, Nat.reduceSub, List.replicate, retA, resultsA, resultA, toC, toCL, Nat.reduceEqDiff, he, iaddr_sl (un35 S.p) (sz3 S.p), len_sl (un35 S.p), len_nils (un35 S.p), part_sc (ag3 S.p), e2, hc, cnt_at, Int.toNat_natCast, Nat.mul_one, Nat.zero_add, d3, d4, wrap_i64]
    refine hag (i + 1) ⟨by omega, fun c hcm => ?_⟩ (by omega) _ ?_
    · rw [List.take_add_one, List.getElem?_eq_getElem hi'] at hcm
      simp only [Option.toList_some, List.mem_append, List.mem_singleton] at hcm
      rcases hcm with hcm | rfl
      · exact hr c hcm
      · have : cnt[i] = cnt.getD i 0 := by rw [List.getD_eq_getElem?_getD, List.getElem?_eq_getElem hi']; rfl
        omega
    · rw [sum_take _ _ hi']
      simp only [↓amPre, amPost, ↓s_lit', Nat.reduceAdd, Nat.reduceSub, List.replicate, retA, resultsA, resultA, toC, toCL, Nat.reduceEqDiff, Int.natCast_add, Int.cast_ofNat_Int]
  · simp only [decide_eq_false_iff_not] at hc1
    obtain rfl : i = cnt.length := by omega
    rw [List.take_length] at hr ⊢
    have e : totOk cnt = true := by
      unfold totOk
      simp only [Bool.and_eq_true, decide_eq_true_eq, List.all_eq_true]
      exact ⟨⟨by omega, by omega⟩, hr⟩
    have e1 : totN cnt = cnt.sum := by unfold totN; rw [e]; rfl
    have e3 : totB cnt = decide (cnt.sum ≤ 20) := by unfold totB; rw [e]; rfl
    simp (disch := first | omega | (simp (disch := first | omega | (simp only [List.length_append, List.length_cons, List.length_nil, List.length_set]; first | done | omega)) only [amSide, Int.reduceToNat, Nat.reducePow, Nat.reduceMul]; first | done | omega)) only  [↓amPre, amPost, ↓s_lit', Nat.reduceAdd, Nat.reduceSub, List.replicate, retA, resultsA, resultA, toC, toCL, Nat.reduceEqDiff, he, iaddr_sl (un35 S.p) (sz3 S.p), len_sl (un35 S.p), len_nils (un35 S.p), part_sc (ag3 S.p), e1, e3]
    exact Ends.some rfl
end Go.AM
