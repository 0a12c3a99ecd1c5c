/- Orders: one step. Conditions: none. -/
import Derived.Test.YtdokijbheholdaaIn7
set_option linter.unusedVariables false
set_option linter.unusedSimpArgs false
set_option maxRecDepth 100000
namespace Go.AM
open Go.Proofs
-- LENS: cells_len, ints_len
theorem set_back {h : List AO} {b : Nat} {o x : AO} (hb : h[b]? = some o) : (h.set b x).set b o = h := by
  rw [List.set_set]
  apply List.ext_getElem?
  intro i
  rw [List.getElem?_set]
  split
  · rename_i q; subst q
    rw [if_pos (List.getElem?_eq_some_iff.1 hb).1, hb]
  · rfl
theorem cellsI_back (l : List Nat) (i : Nat) (hi' : i < l.length) : (cellsI (l.set i (l.getD i 0 - 1))).set i (.int .i64 ((l.getD i 0 : Nat) : Int)) = cellsI l := by
  rw [cellsI_set, List.set_set]
  congr 1
  apply List.ext_getElem?
  intro j
  rw [List.getElem?_set]
  split
  · rename_i q; subst q; first | (rw [if_pos hi', List.getD_eq_getElem?_getD, List.getElem?_eq_getElem hi']; rfl) | (rw [List.getD_eq_getElem?_getD, List.getElem?_eq_getElem hi']; rfl)
  · rfl
theorem heap_same {h : List AO} {b : Nat} {o : AO} (hb : h[b]? = some o) : h.set b o = h := by
  apply List.ext_getElem?
  intro j
  rw [List.getElem?_set]
  split
  · rename_i q; subst q; rw [if_pos (List.getElem?_eq_some_iff.1 hb).1, hb]
  · rfl
theorem st_one {P : Program} {T : Tab} {K : Nat} (S : Sd P T K) {h : List AO} {b lk i : Nat} {cs : List SV} (hb : h[b]? = some (.rw 3 cs)) (hlk : lk ≤ b) (hi : i < cs.length) (c : SV) : storeA P h lk 3 (.v (.sc (.ptr b i))) (.v (.sc c)) = some (h.set b (.rw 3 (cs.set i c))) := by
  rw [store_at (el := 3) (cs := cs) (n := 1) hb hlk (sz3 S.p) rfl (by omega), cells_sc, splice_one _ _ _ hi]
theorem getD_set_self (l : List Nat) (i x : Nat) (hi : i < l.length) : (l.set i x).getD i 0 = x := by
  simp [List.getD_eq_getElem?_getD, hi]
theorem s48 {P : Program} {T : Tab} {K d : Nat} (S : Sd P T K) (hd : 2 ≤ d) (n0 : Nat) (l : List Nat) (hl : l.length ≤ 8) (hs : sumN l ≤ 20) (hn : n0 < sumT 0 l l.length) (b lk : Nat) (h : List AO) (hlk : lk ≤ b) (hb : h[b]? = some (.rw 3 (cellsI l))) :
    ∃ t, t < l.length ∧ l.getD t 0 ≠ 0 ∧ sumT 0 l t ≤ n0 ∧ n0 < sumT 0 l (t + 1) ∧
      ev P T K d 48 [.sc (.int .u64 (n0 : Nat)), .sc (.sl b 0 l.length 1)] lk h = some (.tup [.sc (.int .i64 (t : Nat)), .sc (.int .u64 ((n0 - sumT 0 l t : Nat) : Int))], h.set b (.rw 3 (cellsI (l.set t (l.getD t 0 - 1))))) := by
  obtain ⟨d, rfl⟩ : ∃ k, d = k + 1 := ⟨d - 1, by omega⟩
  rw [ev_run (at48 S.t)]
  have hblt : b < h.length := (List.getElem?_eq_some_iff.1 hb).1
  suffices H : Ends (fun v h' => ∃ t, t < l.length ∧ l.getD t 0 ≠ 0 ∧ sumT 0 l t ≤ n0 ∧ n0 < sumT 0 l (t + 1) ∧ v = .tup [.sc (.int .i64 (t : Nat)), .sc (.int .u64 ((n0 - sumT 0 l t : Nat) : Int))] ∧ h' = h.set b (.rw 3 (cellsI (l.set t (l.getD t 0 - 1)))))
      (runA ⟨P, ev P T K d, lk, K, i48.er, i48.dr⟩ i48.fn i48.c [.sc (.int .u64 (n0 : Nat)), .sc (.sl b 0 l.length 1)] h) by
    obtain ⟨v, h', e, t, h1, h2, h3, h4, rfl, rfl⟩ := H
    exact ⟨t, h1, h2, h3, h4, e⟩
  unfold i48 Try.f48
  have hcc : cellsAt h b = some (cellsI l) := cells_at hb
  have hlen : ∀ hh, lenA P hh 35 (.v (.sc (.sl b 0 l.length 1))) = some (.v (.sc (.int .i64 (l.length : Int)))) := fun hh => len_sl (un35 S.p) _ _ _ _
  have hmax : sumT 0 l l.length ≤ 2432902008176640000 := by
    have h1 := multi_lt l hs
    rcases Nat.eq_zero_or_pos (sumN l) with h2 | h2
    · have : ∀ i, sumT 0 l i = 0 := by
        intro i
        induction i with
        | zero => rfl
        | succ i ih =>
          show sumT 0 l i + term 0 l i = 0
          rw [ih]
          have := sumN_ge l i
          unfold term; rw [if_pos (by omega)]
      rw [this]; omega
    · rw [← total_law l h2]; exact h1
  simp (disch := first | omega | (simp (disch := first | omega | (simp only [cells_len, ints_len, List.length_append, List.length_cons, List.length_nil, List.length_set]; first | done | omega)) only [cells_len, ints_len, amSide, Int.reduceToNat, Nat.reducePow, Nat.reduceMul]; first | done | omega)) only  [↓amPre, amPost, ↓s_lit', Nat.reduceAdd, Nat.reduceSub, List.replicate, retA, resultsA, resultA, toC, toCL, Nat.reduceEqDiff, iaddr_sl (un35 S.p) (sz3 S.p), len_sl (un35 S.p), len_nils (un35 S.p), part_sc (ag3 S.p), store_last (sz3 S.p), (sz3 S.p), hlen]
  refine ends_loop (X := Nat) 0 [4, 5, 6, 7, 8, 12, 13, 14, 15, 16, 17, 18, 19, 20, 21, 22, 23, 24, 25, 26, 27, 28, 29, 30, 31, 32, 33, 34, 35, 36, 37, 38, 39, 40] (fun i => i ≤ l.length ∧ sumT 0 l i ≤ n0) (fun i => l.length - i) (fun i e => (e.set 0 (.v (.sc (.int .u64 ((n0 - sumT 0 l i : Nat) : Int))))).set 11 (.v (.sc (.int .i64 i)))) (fun _ => h)
    (by have := S.k; show _ < K; omega) ⟨by omega, by simp [sumT]⟩ rfl rfl ?_
  rintro i ⟨hi, hsum⟩ again hag e he
  simp only [↓amPre, amPost, ↓s_lit', Nat.reduceAdd, Nat.reduceSub, List.replicate, retA, resultsA, resultA, toC, toCL, Nat.reduceEqDiff] at he
  simp only [↓amPre, amPost, ↓s_lit', Nat.reduceAdd, Nat.reduceSub, List.replicate, retA, resultsA, resultA, toC, toCL, Nat.reduceEqDiff, he]
  refine ends_cond (fun hc1 => ?_) (fun hc1 => ?_)
  · simp only [decide_eq_true_eq] at hc1
    have hi' : i < l.length := by omega
    have e2 : (0 ≤ (i : Int) ∧ (i : Int) < (l.length : Int)) = True := by simp; omega
    have hca := cellsI_at l i hi'
    have hg := sumN_ge l i
    by_cases hz : l.getD i 0 = 0
    · have tz : sumT 0 l (i + 1) = sumT 0 l i := by show sumT 0 l i + term 0 l i = _; unfold term; rw [if_pos hz]; rfl
      have dz : ((((l.getD i 0 : Nat) : Int)) == 0) = true := by rw [hz]; rfl
      simp (disch := first | omega | (simp (disch := first | omega | (simp only [cells_len, ints_len, List.length_append, List.length_cons, List.length_nil, List.length_set]; first | done | omega)) only [cells_len, ints_len, amSide, Int.reduceToNat, Nat.reducePow, Nat.reduceMul]; first | done | omega)) only  [↓amPre, amPost, ↓s_lit', Nat.reduceAdd, Nat.reduceSub, List.replicate, retA, resultsA, resultA, toC, toCL, Nat.reduceEqDiff, he, iaddr_sl (un35 S.p) (sz3 S.p), len_sl (un35 S.p), len_nils (un35 S.p), part_sc (ag3 S.p), store_last (sz3 S.p), (sz3 S.p), e2, hcc, hca, Int.toNat_natCast, Nat.mul_one, Nat.zero_add, dz, wrap_i64]
      refine hag (i + 1) ⟨by omega, by rw [tz]; exact hsum⟩ (by omega) _ ?_
      rw [tz]
      simp only [↓amPre, amPost, ↓s_lit', Nat.reduceAdd, Nat.reduceSub, List.replicate, retA, resultsA, resultA, toC, toCL, Nat.reduceEqDiff, Int.natCast_add, Int.cast_ofNat_Int]
    · have dz : ((((l.getD i 0 : Nat) : Int)) == 0) = false := beq_false_of_ne (by omega)
      have ti : sumT 0 l (i + 1) = sumT 0 l i + multi 0 (l.set i (l.getD i 0 - 1)) := by show sumT 0 l i + term 0 l i = _; unfold term; rw [if_neg hz]
      have hle := sumT_mono 0 l (show i + 1 ≤ l.length by omega)
      have hss := sumN_set l i (l.getD i 0 - 1) hi'
      have w2 : IntKind.i64.wrap (((l.getD i 0 : Nat) : Int) - 1) = ((l.getD i 0 - 1 : Nat) : Int) := by rw [wrap_i64 (by omega) (by omega)]; omega
      have w3 : IntKind.i64.wrap (((l.getD i 0 - 1 : Nat) : Int) + 1) = ((l.getD i 0 : Nat) : Int) := by rw [wrap_i64 (by omega) (by omega)]; omega
      have hset := cellsI_set l i (l.getD i 0 - 1)
      have hset2 := cellsI_back l i hi'
      have hl2 : (l.set i (l.getD i 0 - 1)).length = l.length := by simp
      generalize hm : multi 0 (l.set i (l.getD i 0 - 1)) = m at *
      have st1 : ∀ c, storeA P h lk 3 (.v (.sc (.ptr b i))) (.v (.sc c)) = some (h.set b (.rw 3 ((cellsI l).set i c))) := st_one S hb hlk (by rw [cells_len]; exact hi')
      have hc2 : cellsAt (h.set b (.rw 3 (cellsI (l.set i (l.getD i 0 - 1))))) b = some (cellsI (l.set i (l.getD i 0 - 1))) := cells_set _ _ _ hblt
      have hca2 : (cellsI (l.set i (l.getD i 0 - 1)))[i]? = some (.int .i64 ((l.getD i 0 - 1 : Nat) : Int)) := by
        rw [cellsI_at _ _ (by rw [hl2]; exact hi'), getD_set_self l i _ hi']
      have st2 : ∀ c, storeA P (h.set b (.rw 3 (cellsI (l.set i (l.getD i 0 - 1))))) lk 3 (.v (.sc (.ptr b i))) (.v (.sc c)) = some (h.set b (.rw 3 ((cellsI (l.set i (l.getD i 0 - 1))).set i c))) := fun c => by
        rw [st_one S (h := h.set b (.rw 3 (cellsI (l.set i (l.getD i 0 - 1))))) (cs := cellsI (l.set i (l.getD i 0 - 1))) (by rw [List.getElem?_set_self hblt]) hlk (by rw [cells_len, hl2]; exact hi'), List.set_set]
      have f46 : ∀ lk, ev P T K d 46 [.sc (.sl b 0 l.length 1)] lk (h.set b (.rw 3 (cellsI (l.set i (l.getD i 0 - 1))))) = some (.v (.sc (.int .u64 ((m : Nat) : Int))), h.set b (.rw 3 (cellsI (l.set i (l.getD i 0 - 1))))) := fun lk => by
        rw [← hm]
        exact s46 S (by omega) _ (l.set i (l.getD i 0 - 1)) (by rw [hl2]; exact hl) (by omega) lk _ (.inr ⟨b, by rw [ints_len, hl2], by simpa using hblt, hc2⟩)
      have hbk : h.set b (.rw 3 (cellsI l)) = h := heap_same hb
      by_cases hlt : n0 - sumT 0 l i < m
      · have d1 : decide (((n0 - sumT 0 l i : Nat) : Int) < ((m : Nat) : Int)) = true := decide_eq_true (by omega)
        have hfin : n0 < sumT 0 l (i + 1) := by omega
        clear hmax hle hss ti hm hlt hg hc1 hs hl hn
        simp (disch := first | omega | (simp (disch := first | omega | (simp only [cells_len, ints_len, List.length_append, List.length_cons, List.length_nil, List.length_set]; first | done | omega)) only [cells_len, ints_len, amSide, Int.reduceToNat, Nat.reducePow, Nat.reduceMul]; first | done | omega)) only  [↓amPre, amPost, ↓s_lit', Nat.reduceAdd, Nat.reduceSub, List.replicate, retA, resultsA, resultA, toC, toCL, Nat.reduceEqDiff, he, iaddr_sl (un35 S.p) (sz3 S.p), len_sl (un35 S.p), len_nils (un35 S.p), part_sc (ag3 S.p), store_last (sz3 S.p), (sz3 S.p), e2, hcc, hca, hc2, hca2, st1, st2, hset, hset2, f46, hbk, Int.toNat_natCast, Nat.mul_one, Nat.zero_add, w2, w3, dz, d1]
        exact Ends.some ⟨i, hi', hz, hsum, hfin, rfl, rfl⟩
      · have d1 : decide (((n0 - sumT 0 l i : Nat) : Int) < ((m : Nat) : Int)) = false := decide_eq_false (by omega)
        have w4 : IntKind.u64.wrap (((n0 - sumT 0 l i : Nat) : Int) - ((m : Nat) : Int)) = ((n0 - sumT 0 l (i + 1) : Nat) : Int) := by rw [wrap_u64 (by omega) (by omega)]; omega
        have hnew : sumT 0 l (i + 1) ≤ n0 := by omega
        clear hmax hle hss ti hm hlt hg hs hn hsum hc1
        simp (disch := first | omega | (simp (disch := first | omega | (simp only [cells_len, ints_len, List.length_append, List.length_cons, List.length_nil, List.length_set]; first | done | omega)) only [cells_len, ints_len, amSide, Int.reduceToNat, Nat.reducePow, Nat.reduceMul]; first | done | omega)) only  [↓amPre, amPost, ↓s_lit', Nat.reduceAdd, Nat.reduceSub, List.replicate, retA, resultsA, resultA, toC, toCL, Nat.reduceEqDiff, he, iaddr_sl (un35 S.p) (sz3 S.p), len_sl (un35 S.p), len_nils (un35 S.p), part_sc (ag3 S.p), store_last (sz3 S.p), (sz3 S.p), e2, hcc, hca, hc2, hca2, st1, st2, hset, hset2, f46, hbk, Int.toNat_natCast, Nat.mul_one, Nat.zero_add, w2, w3, w4, dz, d1, wrap_i64]
        refine hag (i + 1) ⟨hi', hnew⟩ (by omega) _ ?_
        simp only [↓amPre, amPost, ↓s_lit', Nat.reduceAdd, Nat.reduceSub, List.replicate, retA, resultsA, resultA, toC, toCL, Nat.reduceEqDiff, Int.natCast_add, Int.cast_ofNat_Int]
  · simp only [decide_eq_false_iff_not] at hc1
    obtain rfl : i = l.length := by omega
    omega
end Go.AM
