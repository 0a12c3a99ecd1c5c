/- Orders: lists compared; one less; a clone. Conditions: none. -/
import Derived.Test.YtdokijbheholdaaIn5
set_option linter.unusedVariables false
set_option linter.unusedSimpArgs false
set_option maxRecDepth 100000
namespace Go.AM
open Go.Proofs
-- LENS: cells_len, ints_len
theorem Sl.len {P : Program} {T : Tab} {K : Nat} (S : Sd P T K) {h : List AO} {q : SV} {cnt : List Int} (hS : Sl h q cnt) (hh : List AO) : lenA P hh 35 (.v (.sc q)) = some (.v (.sc (.int .i64 (cnt.length : Int)))) := by
  rcases hS with ⟨rfl, rfl⟩ | ⟨l, rfl, _, _⟩
  · exact len_nils (un35 S.p)
  · exact len_sl (un35 S.p) _ _ _ _
theorem Sl.at {h : List AO} {q : SV} {cnt : List Int} (hS : Sl h q cnt) (h0 : 0 < cnt.length) : ∃ b, q = .sl b 0 cnt.length 1 ∧ b < h.length ∧ cellsAt h b = some (cnt.map (SV.int .i64)) := by
  rcases hS with ⟨_, h2⟩ | H
  · rw [h2] at h0; simp at h0
  · exact H
theorem s28 {P : Program} {T : Tab} {K d : Nat} (S : Sd P T K) (hd : 1 ≤ d) (q r : SV) (a b : List Int) (ha : a.length ≤ 1000) (lk : Nat) (h : List AO) (hq : Sl h q a) (hr : Sl h r b) :
    ev P T K d 28 [.sc q, .sc r] lk h = some (.v (.sc (.bool (decide (a = b)))), h) := by
  obtain ⟨d, rfl⟩ : ∃ k, d = k + 1 := ⟨d - 1, by omega⟩
  refine ev_pure (at28 S.t) rfl ?_
  unfold i28 Try.f28
  have l1 := hq.len S
  have l2 := hr.len S
  by_cases hl : a.length = b.length
  · have d1 : (((a.length : Nat) : Int) != ((b.length : Nat) : Int)) = false := by simp [hl]
    simp (disch := first | omega | (simp (disch := first | omega | (simp only [cells_len, ints_len, List.length_append, List.length_cons, List.length_nil, List.length_set]; first | done | omega)) only [cells_len, ints_len, amSide, Int.reduceToNat, Nat.reducePow, Nat.reduceMul]; first | done | omega)) only  [↓amPre, amPost, ↓s_lit', Nat.reduceAdd, Nat.reduceSub, List.replicate, retA, resultsA, resultA, toC, toCL, Nat.reduceEqDiff, iaddr_sl (un35 S.p) (sz3 S.p), len_sl (un35 S.p), len_nils (un35 S.p), part_sc (ag3 S.p), l1, l2, d1]
    refine ends_loop (X := Nat) 0 [4, 5, 14, 15, 16, 17, 18, 19, 20, 21, 22, 23, 24, 25] (fun i => i ≤ a.length ∧ a.take i = b.take i) (fun i => a.length - i) (fun i e => e.set 13 (.v (.sc (.int .i64 i)))) (fun _ => h)
      (by have := S.k; show _ < K; omega) ⟨by omega, by simp⟩ rfl rfl ?_
    rintro i ⟨hi, ht⟩ again hag e he
    simp only [↓amPre, amPost, ↓s_lit', Nat.reduceAdd, Nat.reduceSub, List.replicate, retA, resultsA, resultA, toC, toCL, Nat.reduceEqDiff] at he
    simp only [↓amPre, amPost, ↓s_lit', Nat.reduceAdd, Nat.reduceSub, List.replicate, retA, resultsA, resultA, toC, toCL, Nat.reduceEqDiff, he]
    refine ends_cond (fun hc1 => ?_) (fun hc1 => ?_)
    · simp only [decide_eq_true_eq] at hc1
      have hi' : i < a.length := by omega
      obtain ⟨x, rfl, hx1, hx2⟩ := hq.at (by omega)
      obtain ⟨y, rfl, hy1, hy2⟩ := hr.at (by omega)
      have e1 : (0 ≤ (i : Int) ∧ (i : Int) < (a.length : Int)) = True := by simp; omega
      have e2 : (0 ≤ (i : Int) ∧ (i : Int) < (b.length : Int)) = True := by simp; omega
      have c1 := cnt_at a i hi'
      have c2 := cnt_at b i (by omega)
      have ga : a[i]? = some (a.getD i 0) := by rw [List.getD_eq_getElem?_getD, List.getElem?_eq_getElem hi']; rfl
      have gb : b[i]? = some (b.getD i 0) := by rw [List.getD_eq_getElem?_getD, List.getElem?_eq_getElem (by omega)]; rfl
      by_cases hv : a.getD i 0 = b.getD i 0
      · have d2 : (a.getD i 0 != b.getD i 0) = false := by rw [hv]; exact bne_self_eq_false _
        simp (disch := first | omega | (simp (disch := first | omega | (simp only [cells_len, ints_len, List.length_append, List.length_cons, List.length_nil, List.length_set]; first | done | omega)) only [cells_len, ints_len, amSide, Int.reduceToNat, Nat.reducePow, Nat.reduceMul]; first | done | omega)) only  [↓amPre, amPost, ↓s_lit', Nat.reduceAdd, Nat.reduceSub, List.replicate, retA, resultsA, resultA, toC, toCL, Nat.reduceEqDiff, he, iaddr_sl (un35 S.p) (sz3 S.p), len_sl (un35 S.p), len_nils (un35 S.p), part_sc (ag3 S.p), e1, e2, hx2, hy2, c1, c2, d2, Int.toNat_natCast, Nat.mul_one, Nat.zero_add, wrap_i64]
        refine hag (i + 1) ⟨by omega, ?_⟩ (by omega) _ ?_
        · rw [List.take_add_one, List.take_add_one, ht, ga, gb, hv]
        · simp only [↓amPre, amPost, ↓s_lit', Nat.reduceAdd, Nat.reduceSub, List.replicate, retA, resultsA, resultA, toC, toCL, Nat.reduceEqDiff, Int.natCast_add, Int.cast_ofNat_Int]
      · have d2 : (a.getD i 0 != b.getD i 0) = true := by simpa using hv
        have d3 : decide (a = b) = false := decide_eq_false fun q => hv (by rw [q])
        simp (disch := first | omega | (simp (disch := first | omega | (simp only [cells_len, ints_len, List.length_append, List.length_cons, List.length_nil, List.length_set]; first | done | omega)) only [cells_len, ints_len, amSide, Int.reduceToNat, Nat.reducePow, Nat.reduceMul]; first | done | omega)) only  [↓amPre, amPost, ↓s_lit', Nat.reduceAdd, Nat.reduceSub, List.replicate, retA, resultsA, resultA, toC, toCL, Nat.reduceEqDiff, he, iaddr_sl (un35 S.p) (sz3 S.p), len_sl (un35 S.p), len_nils (un35 S.p), part_sc (ag3 S.p), e1, e2, hx2, hy2, c1, c2, d2, d3, Int.toNat_natCast, Nat.mul_one, Nat.zero_add]
        exact Ends.some rfl
    · simp only [decide_eq_false_iff_not] at hc1
      obtain rfl : i = a.length := by omega
      have d3 : decide (a = b) = true := by
        refine decide_eq_true ?_
        rw [List.take_length, hl, List.take_length] at ht
        exact ht
      simp (disch := first | omega | (simp (disch := first | omega | (simp only [cells_len, ints_len, List.length_append, List.length_cons, List.length_nil, List.length_set]; first | done | omega)) only [cells_len, ints_len, amSide, Int.reduceToNat, Nat.reducePow, Nat.reduceMul]; first | done | omega)) only  [↓amPre, amPost, ↓s_lit', Nat.reduceAdd, Nat.reduceSub, List.replicate, retA, resultsA, resultA, toC, toCL, Nat.reduceEqDiff, he, iaddr_sl (un35 S.p) (sz3 S.p), len_sl (un35 S.p), len_nils (un35 S.p), part_sc (ag3 S.p), d3]
      exact Ends.some rfl
  · have d1 : (((a.length : Nat) : Int) != ((b.length : Nat) : Int)) = true := by simp only [bne_iff_ne, ne_eq]; omega
    have d3 : decide (a = b) = false := decide_eq_false fun q => hl (by rw [q])
    simp (disch := first | omega | (simp (disch := first | omega | (simp only [cells_len, ints_len, List.length_append, List.length_cons, List.length_nil, List.length_set]; first | done | omega)) only [cells_len, ints_len, amSide, Int.reduceToNat, Nat.reducePow, Nat.reduceMul]; first | done | omega)) only  [↓amPre, amPost, ↓s_lit', Nat.reduceAdd, Nat.reduceSub, List.replicate, retA, resultsA, resultA, toC, toCL, Nat.reduceEqDiff, iaddr_sl (un35 S.p) (sz3 S.p), len_sl (un35 S.p), len_nils (un35 S.p), part_sc (ag3 S.p), l1, l2, d1, d3]
    exact Ends.some rfl
theorem s49 {P : Program} {T : Tab} {K d : Nat} (S : Sd P T K) (hd : 1 ≤ d) (q : SV) (l : List Nat) (hl : l.length ≤ 8) (t : Nat) (ht : t < l.length) (h0 : l.getD t 0 ≠ 0) (h20 : l.getD t 0 ≤ 20) (lk : Nat) (h : List AO) (hlk : lk ≤ h.length) (hS : Sl h q (ints l)) :
    ev P T K d 49 [.sc q, .sc (.int .i64 (t : Nat))] lk h = some (.v (.sc (.sl h.length 0 l.length 1)), h ++ [.rw 3 (cellsI (l.set t (l.getD t 0 - 1)))]) := by
  obtain ⟨d, rfl⟩ : ∃ k, d = k + 1 := ⟨d - 1, by omega⟩
  rw [ev_run (at49 S.t)]
  unfold i49 Try.f49
  obtain ⟨b, rfl, hb, hc⟩ := hS.at (by rw [ints_len]; omega)
  rw [ints_len] at *
  have hcc : cellsAt h b = some (cellsI l) := hc
  have hca := cellsI_at l t ht
  have e2 : (0 ≤ (t : Int) ∧ (t : Int) < (l.length : Int)) = True := by simp; omega
  have hne : (cellsI l).isEmpty = false := by
    have := cells_len l
    cases hq : cellsI l with
    | nil => rw [hq] at this; simp at this; omega
    | cons _ _ => rfl
  have htk : (cellsI l).take l.length = cellsI l := List.take_of_length_le (by rw [cells_len]; omega)
  have hset := cellsI_set l t (l.getD t 0 - 1)
  have w2 : IntKind.i64.wrap (((l.getD t 0 : Nat) : Int) - 1) = ((l.getD t 0 - 1 : Nat) : Int) := by rw [wrap_i64 (by omega) (by omega)]; omega
  simp (disch := first | omega | (simp (disch := first | omega | (simp only [cells_len, ints_len, List.length_append, List.length_cons, List.length_nil, List.length_set]; first | done | omega)) only [cells_len, ints_len, amSide, Int.reduceToNat, Nat.reducePow, Nat.reduceMul]; first | done | omega)) only  [↓amPre, amPost, ↓s_lit', Nat.reduceAdd, Nat.reduceSub, List.replicate, retA, resultsA, resultA, toC, toCL, Nat.reduceEqDiff, append_at (un35 S.p) (sz3 S.p) (by3 S.p) (ze3 S.p) (by decide) (by decide) rfl, sl_cells (sz3 S.p), iaddr_sl (un35 S.p) (sz3 S.p), part_sc (ag3 S.p), store_last (sz3 S.p), (sz3 S.p), e2, hcc, hca, cells_self, cells_other, Int.toNat_natCast, Nat.mul_one, Nat.zero_add, w2, htk, appB_nilsA, hne, cells_len, Nat.div_one, Nat.mod_one, hset, List.drop_zero]
end Go.AM
