/- Counts: the document's spans. Conditions: none. -/
import Derived.Test.YtdokijbheholdaaSt8
set_option linter.unusedVariables false
set_option linter.unusedSimpArgs false
set_option maxRecDepth 100000
namespace Go.AM
open Go.Proofs
-- LENS: EnV.len, SpV.len
set_option maxHeartbeats 8000000 in
theorem s38 {P : Program} {T : Tab} {K d : Nat} (S : Sd P T K) (hd : 1 ≤ d) (q : SV) (l : List EnV) (hl : l.length ≤ 300) (lk : Nat) (h : List AO) (hlk : lk ≤ h.length) (hq : Rs EnV.cells 13 h q l) :
    Ends (fun v h' => Ext1 h h' ∧ ∃ q', v = .v (.sc q') ∧ Own 68 2 h.length h' q' (recs SpV.cells (spansN l l.length))) (ev P T K d 38 [.sc q] lk h) := by
  obtain ⟨d, rfl⟩ : ∃ k, d = k + 1 := ⟨d - 1, by omega⟩
  rw [ev_run (at38 S.t)]
  unfold i38 Try.f38
  have hlen := hq.len (un61 S.p)
  simp (maxSteps := 1000000) (disch := first | omega | (simp (disch := first | omega | (simp only [EnV.len, SpV.len, List.length_append, List.length_cons, List.length_nil, List.length_set]; first | done | omega)) only [EnV.len, SpV.len, amSide, Int.reduceToNat, Nat.reducePow, Nat.reduceMul]; first | done | omega)) only  [↓amPre, amPost, ↓s_lit', Nat.reduceAdd, Nat.reduceSub, List.replicate, retA, resultsA, resultA, toC, toCL, Nat.reduceEqDiff, append_at (un62 S.p) (sz68 S.p) (by68 S.p) (ze68 S.p) (by decide) (by decide) rfl, sl_cells (sz68 S.p), (bu68 S.p), lit_fill (un62 S.p) (sz68 S.p) (ze68 S.p), (fa78_0 S.p), (fa78_1 S.p), iaddr_sl (un61 S.p) (sz78 S.p), len_sl (un61 S.p), len_nils (un61 S.p), part_sc (ag3 S.p), hlen]
  refine ends_loop (X := SpSt) ⟨0, .nils, h⟩ [5, 6, 7, 8, 9, 10, 11, 12, 13, 14, 15, 16, 17, 18, 19, 20, 21, 22, 23, 24, 25, 26, 27, 28, 29, 30, 31, 32, 33, 34, 35, 36, 37, 38, 39, 40, 41, 42, 43, 44, 45, 46, 47, 48, 49, 50, 51, 52, 53, 54, 55, 56, 57, 58, 59, 60, 61, 62, 63, 64, 65, 66, 67, 68, 69, 70, 71, 72, 73, 74]
    (fun x => x.i ≤ l.length ∧ Ext1 h x.h ∧ Own 68 2 h.length x.h x.q (recs SpV.cells (spansN l x.i))) (fun x => l.length - x.i)
    (fun x e => (e.set 3 (.v (.sc x.q))).set 4 (.v (.sc (.int .i64 x.i)))) (fun x => x.h)
    (by have := S.k; show _ < K; simp only; omega) ⟨by simp only; omega, Ext1.refl _, Own.nil _ _ _ _⟩ rfl rfl ?_
  rintro ⟨i, qo, hj⟩ ⟨hi, hx, ho⟩ again hag e he
  simp only at hi hx ho hag he
  simp only [↓amPre, amPost, ↓s_lit', Nat.reduceAdd, Nat.reduceSub, List.replicate, retA, resultsA, resultA, toC, toCL, Nat.reduceEqDiff] at he
  simp only [↓amPre, amPost, ↓s_lit', Nat.reduceAdd, Nat.reduceSub, List.replicate, retA, resultsA, resultA, toC, toCL, Nat.reduceEqDiff, he]
  simp (maxSteps := 1000000) (disch := first | omega | (simp (disch := first | omega | (simp only [EnV.len, SpV.len, List.length_append, List.length_cons, List.length_nil, List.length_set]; first | done | omega)) only [EnV.len, SpV.len, amSide, Int.reduceToNat, Nat.reducePow, Nat.reduceMul]; first | done | omega)) only  [↓amPre, amPost, ↓s_lit', Nat.reduceAdd, Nat.reduceSub, List.replicate, retA, resultsA, resultA, toC, toCL, Nat.reduceEqDiff, he, append_at (un62 S.p) (sz68 S.p) (by68 S.p) (ze68 S.p) (by decide) (by decide) rfl, sl_cells (sz68 S.p), (bu68 S.p), lit_fill (un62 S.p) (sz68 S.p) (ze68 S.p), (fa78_0 S.p), (fa78_1 S.p), iaddr_sl (un61 S.p) (sz78 S.p), len_sl (un61 S.p), len_nils (un61 S.p), part_sc (ag3 S.p), hlen]
  by_cases hc1 : i < l.length
  · obtain ⟨b, rfl, hb, hc0⟩ := hq.at (by omega)
    have hc : cellsAt hj b = some (recs EnV.cells l) := by rw [hx.cells hb]; exact hc0
    obtain ⟨x, hxi⟩ : ∃ x, l[i]? = some x := ⟨_, List.getElem?_eq_getElem hc1⟩
    have g0 := recs_get0 EnV.len hxi (by omega)
    have g1 := recs_get EnV.len hxi 1 (by omega)
    rw [EnV.c0] at g0
    rw [EnV.c1] at g1
    have hsp := spansN_succ hxi
    by_cases k3 : x.k = 3
    · simp (maxSteps := 1000000) (disch := first | omega | (simp (disch := first | omega | (simp only [EnV.len, SpV.len, List.length_append, List.length_cons, List.length_nil, List.length_set]; first | done | omega)) only [EnV.len, SpV.len, amSide, Int.reduceToNat, Nat.reducePow, Nat.reduceMul]; first | done | omega)) only  [↓amPre, amPost, ↓s_lit', Nat.reduceAdd, Nat.reduceSub, List.replicate, retA, resultsA, resultA, toC, toCL, Nat.reduceEqDiff, he, append_at (un62 S.p) (sz68 S.p) (by68 S.p) (ze68 S.p) (by decide) (by decide) rfl, sl_cells (sz68 S.p), (bu68 S.p), lit_fill (un62 S.p) (sz68 S.p) (ze68 S.p), (fa78_0 S.p), (fa78_1 S.p), iaddr_sl (un61 S.p) (sz78 S.p), len_sl (un61 S.p), len_nils (un61 S.p), part_sc (ag3 S.p), idx_ok, hc, g0, bneI_f, dec_t, Int.toNat_natCast, Nat.zero_add, Nat.add_zero, wrap_i64]
      refine ends_loop (X := SpSt) ⟨i, qo, hj⟩ [20, 21, 22, 23, 24, 25, 26, 27, 28, 29, 30, 31, 32, 33, 34, 35, 36, 37, 38, 39, 40, 41, 42, 43, 44, 45, 46, 47, 48, 49, 50, 51, 52, 53, 54, 55, 56, 57, 58, 59, 60, 61, 62, 63, 64, 65, 66, 67, 68, 69, 70, 71, 72, 73, 74]
        (fun y => y.i ≤ i ∧ Ext1 h y.h ∧ ∃ out, out.length ≤ i + 1 ∧ Own 68 2 h.length y.h y.q (recs SpV.cells out) ∧ ((out = spansN l i ∧ scanS x.t (l.take y.i) = scanS x.t (l.take i)) ∨ (y.i = 0 ∧ out = spansN l (i + 1)))) (fun y => y.i)
        (fun y e => (e.set 3 (.v (.sc y.q))).set 5 (.v (.sc (.int .i64 ((y.i : Int) - 1))))) (fun y => y.h)
        (by have := S.k; show _ < K; simp only; omega) ⟨Nat.le_refl _, hx, _, by have := spansN_len l i; omega, ho, .inl ⟨rfl, rfl⟩⟩ (by simp (maxSteps := 1000000) (disch := first | omega | (simp (disch := first | omega | (simp only [EnV.len, SpV.len, List.length_append, List.length_cons, List.length_nil, List.length_set]; first | done | omega)) only [EnV.len, SpV.len, amSide, Int.reduceToNat, Nat.reducePow, Nat.reduceMul]; first | done | omega)) only [↓amPre, amPost, ↓s_lit', Nat.reduceAdd, Nat.reduceSub, List.replicate, retA, resultsA, resultA, toC, toCL, Nat.reduceEqDiff, Int.natCast_add, Int.cast_ofNat_Int, dec_t, dec_f]) rfl ?_
      clear ho hx
      rintro ⟨k, qi, hi2⟩ ⟨hk, hx, out, hol, ho, hcase⟩ again2 hag2 e2 he2
      simp only at hk hx ho hcase hag2 he2
      simp only [↓amPre, amPost, ↓s_lit', Nat.reduceAdd, Nat.reduceSub, List.replicate, retA, resultsA, resultA, toC, toCL, Nat.reduceEqDiff] at he2
      simp only [↓amPre, amPost, ↓s_lit', Nat.reduceAdd, Nat.reduceSub, List.replicate, retA, resultsA, resultA, toC, toCL, Nat.reduceEqDiff, he2]
      have hlj := hx.len
      refine ends_cond (fun hc2 => ?_) (fun hc2 => ?_)
      · simp only [decide_eq_true_eq] at hc2
        obtain ⟨m, rfl⟩ : ∃ m, k = m + 1 := ⟨k - 1, by omega⟩
        have hm1 : ((m + 1 : Nat) : Int) - 1 = (m : Int) := by omega
        rw [hm1] at he2
        obtain ⟨rfl, hsc⟩ : out = spansN l i ∧ scanS x.t (l.take (m + 1)) = scanS x.t (l.take i) := by
          rcases hcase with h1 | ⟨h1, _⟩
          · exact h1
          · omega
        have hml : m < l.length := by omega
        obtain ⟨y, hy⟩ : ∃ y, l[m]? = some y := ⟨_, List.getElem?_eq_getElem hml⟩
        have hcj : cellsAt hi2 b = some (recs EnV.cells l) := by rw [hx.cells hb]; exact hc0
        have f0 := recs_get0 EnV.len hy (by omega)
        have f1 := recs_get EnV.len hy 1 (by omega)
        rw [EnV.c0] at f0
        rw [EnV.c1] at f1
        have hst : scanS x.t (l.take (m + 1)) = if y.t = x.t then (if y.k = 3 then 0 else if y.k = 1 then m + 1 else scanS x.t (l.take m)) else scanS x.t (l.take m) := by
          rw [take_snocT l m y hy, scanS_snoc, List.length_take_of_le (by omega)]
        rw [hst] at hsc
        clear hst hcase
        generalize scanS x.t (l.take i) = s at *
        by_cases k4 : y.t = x.t
        · rw [if_pos k4] at hsc
          by_cases k5 : y.k = 3
          · rw [if_pos k5] at hsc
            rw [if_neg (show ¬ (x.k = 3 ∧ 0 < s) from fun q => by omega)] at hsp
            simp (maxSteps := 1000000) (disch := first | omega | (simp (disch := first | omega | (simp only [EnV.len, SpV.len, List.length_append, List.length_cons, List.length_nil, List.length_set]; first | done | omega)) only [EnV.len, SpV.len, amSide, Int.reduceToNat, Nat.reducePow, Nat.reduceMul]; first | done | omega)) only  [↓amPre, amPost, ↓s_lit', Nat.reduceAdd, Nat.reduceSub, List.replicate, retA, resultsA, resultA, toC, toCL, Nat.reduceEqDiff, he2, hm1, append_at (un62 S.p) (sz68 S.p) (by68 S.p) (ze68 S.p) (by decide) (by decide) rfl, sl_cells (sz68 S.p), (bu68 S.p), lit_fill (un62 S.p) (sz68 S.p) (ze68 S.p), (fa78_0 S.p), (fa78_1 S.p), iaddr_sl (un61 S.p) (sz78 S.p), len_sl (un61 S.p), len_nils (un61 S.p), part_sc (ag3 S.p), idx_ok, hcj, g0, g1, f0, f1, beqI_t, beqI_f, dec_t, Int.toNat_natCast, Nat.zero_add, Nat.add_zero, wrap_i64]
            refine hag2 ⟨0, qi, _⟩ ⟨by simp only; omega, hx, _, hol, ho, .inr ⟨rfl, hsp.symm⟩⟩ (by simp only; omega) _ ?_
            simp (maxSteps := 1000000) (disch := first | omega | (simp (disch := first | omega | (simp only [EnV.len, SpV.len, List.length_append, List.length_cons, List.length_nil, List.length_set]; first | done | omega)) only [EnV.len, SpV.len, amSide, Int.reduceToNat, Nat.reducePow, Nat.reduceMul]; first | done | omega)) only [↓amPre, amPost, ↓s_lit', Nat.reduceAdd, Nat.reduceSub, List.replicate, retA, resultsA, resultA, toC, toCL, Nat.reduceEqDiff, Int.natCast_add, Int.cast_ofNat_Int, dec_t, dec_f]
          · rw [if_neg k5] at hsc
            by_cases k6 : y.k = 1
            · rw [if_pos k6] at hsc
              rw [if_pos (show x.k = 3 ∧ 0 < s from ⟨k3, by omega⟩)] at hsp
              have hn : (i : Int) + 2 - (s : Int) = (i : Int) - (m : Int) + 1 := by omega
              rw [hn] at hsp
              obtain ⟨q2, h2, happ, hown, hl2, hg2, hx2, _⟩ := grow_own (b := 16) (lk := lk) (ho.push (.rw 68 [.int .i64 x.t, .int .i64 ((i : Int) - (m : Int) + 1)])) [.int .i64 x.t, .int .i64 ((i : Int) - (m : Int) + 1)] (by omega) (by simp) (by simp) (by omega) (by have := hx.len; simp; omega) (by rw [recs_len SpV.len]; simp; omega)
              have hx3 := hx2 h (hx.push (.rw 68 [.int .i64 x.t, .int .i64 ((i : Int) - (m : Int) + 1)])) (by omega)
              have hcs : ([.int .i64 x.t, .int .i64 ((i : Int) - (m : Int) + 1)] : List SV) = SpV.cells ⟨x.t, (i : Int) - (m : Int) + 1⟩ := rfl
              rw [hcs, recs_snoc, ← hsp] at hown
              have hsl := spansN_len l (i + 1)
              simp (maxSteps := 1000000) (disch := first | omega | (simp (disch := first | omega | (simp only [EnV.len, SpV.len, List.length_append, List.length_cons, List.length_nil, List.length_set]; first | done | omega)) only [EnV.len, SpV.len, amSide, Int.reduceToNat, Nat.reducePow, Nat.reduceMul]; first | done | omega)) only  [↓amPre, amPost, ↓s_lit', Nat.reduceAdd, Nat.reduceSub, List.replicate, retA, resultsA, resultA, toC, toCL, Nat.reduceEqDiff, he2, hm1, append_at (un62 S.p) (sz68 S.p) (by68 S.p) (ze68 S.p) (by decide) (by decide) rfl, sl_cells (sz68 S.p), (bu68 S.p), lit_fill (un62 S.p) (sz68 S.p) (ze68 S.p), (fa78_0 S.p), (fa78_1 S.p), iaddr_sl (un61 S.p) (sz78 S.p), len_sl (un61 S.p), len_nils (un61 S.p), part_sc (ag3 S.p), idx_ok, hcj, g0, g1, f0, f1, happ, cells_self, cells_other, spl2, beqI_t, beqI_f, dec_t, Nat.one_mul, Nat.zero_mul, List.flatten_cons, List.flatten_nil, List.append_nil, Int.toNat_natCast, Nat.zero_add, Nat.add_zero, wrap_i64]
              refine hag2 ⟨0, q2, h2⟩ ⟨by simp only; omega, hx3, _, hsl, hown, .inr ⟨rfl, rfl⟩⟩ (by simp only; omega) _ ?_
              simp (maxSteps := 1000000) (disch := first | omega | (simp (disch := first | omega | (simp only [EnV.len, SpV.len, List.length_append, List.length_cons, List.length_nil, List.length_set]; first | done | omega)) only [EnV.len, SpV.len, amSide, Int.reduceToNat, Nat.reducePow, Nat.reduceMul]; first | done | omega)) only [↓amPre, amPost, ↓s_lit', Nat.reduceAdd, Nat.reduceSub, List.replicate, retA, resultsA, resultA, toC, toCL, Nat.reduceEqDiff, Int.natCast_add, Int.cast_ofNat_Int, dec_t, dec_f]
            · rw [if_neg k6] at hsc
              simp (maxSteps := 1000000) (disch := first | omega | (simp (disch := first | omega | (simp only [EnV.len, SpV.len, List.length_append, List.length_cons, List.length_nil, List.length_set]; first | done | omega)) only [EnV.len, SpV.len, amSide, Int.reduceToNat, Nat.reducePow, Nat.reduceMul]; first | done | omega)) only  [↓amPre, amPost, ↓s_lit', Nat.reduceAdd, Nat.reduceSub, List.replicate, retA, resultsA, resultA, toC, toCL, Nat.reduceEqDiff, he2, hm1, append_at (un62 S.p) (sz68 S.p) (by68 S.p) (ze68 S.p) (by decide) (by decide) rfl, sl_cells (sz68 S.p), (bu68 S.p), lit_fill (un62 S.p) (sz68 S.p) (ze68 S.p), (fa78_0 S.p), (fa78_1 S.p), iaddr_sl (un61 S.p) (sz78 S.p), len_sl (un61 S.p), len_nils (un61 S.p), part_sc (ag3 S.p), idx_ok, hcj, g0, g1, f0, f1, beqI_t, beqI_f, dec_t, Int.toNat_natCast, Nat.zero_add, Nat.add_zero, wrap_i64]
              refine hag2 ⟨m, qi, _⟩ ⟨by simp only; omega, hx, _, hol, ho, .inl ⟨rfl, hsc⟩⟩ (by simp only; omega) _ ?_
              simp (maxSteps := 1000000) (disch := first | omega | (simp (disch := first | omega | (simp only [EnV.len, SpV.len, List.length_append, List.length_cons, List.length_nil, List.length_set]; first | done | omega)) only [EnV.len, SpV.len, amSide, Int.reduceToNat, Nat.reducePow, Nat.reduceMul]; first | done | omega)) only [↓amPre, amPost, ↓s_lit', Nat.reduceAdd, Nat.reduceSub, List.replicate, retA, resultsA, resultA, toC, toCL, Nat.reduceEqDiff, Int.natCast_add, Int.cast_ofNat_Int, dec_t, dec_f]
        · rw [if_neg k4] at hsc
          simp (maxSteps := 1000000) (disch := first | omega | (simp (disch := first | omega | (simp only [EnV.len, SpV.len, List.length_append, List.length_cons, List.length_nil, List.length_set]; first | done | omega)) only [EnV.len, SpV.len, amSide, Int.reduceToNat, Nat.reducePow, Nat.reduceMul]; first | done | omega)) only  [↓amPre, amPost, ↓s_lit', Nat.reduceAdd, Nat.reduceSub, List.replicate, retA, resultsA, resultA, toC, toCL, Nat.reduceEqDiff, he2, hm1, append_at (un62 S.p) (sz68 S.p) (by68 S.p) (ze68 S.p) (by decide) (by decide) rfl, sl_cells (sz68 S.p), (bu68 S.p), lit_fill (un62 S.p) (sz68 S.p) (ze68 S.p), (fa78_0 S.p), (fa78_1 S.p), iaddr_sl (un61 S.p) (sz78 S.p), len_sl (un61 S.p), len_nils (un61 S.p), part_sc (ag3 S.p), idx_ok, hcj, g0, g1, f0, f1, beqI_t, beqI_f, dec_t, Int.toNat_natCast, Nat.zero_add, Nat.add_zero, wrap_i64]
          refine hag2 ⟨m, qi, _⟩ ⟨by simp only; omega, hx, _, hol, ho, .inl ⟨rfl, hsc⟩⟩ (by simp only; omega) _ ?_
          simp (maxSteps := 1000000) (disch := first | omega | (simp (disch := first | omega | (simp only [EnV.len, SpV.len, List.length_append, List.length_cons, List.length_nil, List.length_set]; first | done | omega)) only [EnV.len, SpV.len, amSide, Int.reduceToNat, Nat.reducePow, Nat.reduceMul]; first | done | omega)) only [↓amPre, amPost, ↓s_lit', Nat.reduceAdd, Nat.reduceSub, List.replicate, retA, resultsA, resultA, toC, toCL, Nat.reduceEqDiff, Int.natCast_add, Int.cast_ofNat_Int, dec_t, dec_f]
      · simp only [decide_eq_false_iff_not] at hc2
        obtain rfl : k = 0 := by omega
        obtain rfl : out = spansN l (i + 1) := by
          rcases hcase with ⟨rfl, h2⟩ | ⟨_, h2⟩
          · rw [List.take_zero] at h2
            rw [hsp, if_neg]
            rintro ⟨_, q⟩
            rw [← h2] at q
            simp [scanS] at q
          · exact h2
        clear hag2 hcase
        simp (maxSteps := 1000000) (disch := first | omega | (simp (disch := first | omega | (simp only [EnV.len, SpV.len, List.length_append, List.length_cons, List.length_nil, List.length_set]; first | done | omega)) only [EnV.len, SpV.len, amSide, Int.reduceToNat, Nat.reducePow, Nat.reduceMul]; first | done | omega)) only  [↓amPre, amPost, ↓s_lit', Nat.reduceAdd, Nat.reduceSub, List.replicate, retA, resultsA, resultA, toC, toCL, Nat.reduceEqDiff, he2, append_at (un62 S.p) (sz68 S.p) (by68 S.p) (ze68 S.p) (by decide) (by decide) rfl, sl_cells (sz68 S.p), (bu68 S.p), lit_fill (un62 S.p) (sz68 S.p) (ze68 S.p), (fa78_0 S.p), (fa78_1 S.p), iaddr_sl (un61 S.p) (sz78 S.p), len_sl (un61 S.p), len_nils (un61 S.p), part_sc (ag3 S.p), wrap_i64]
        refine hag ⟨i + 1, qi, _⟩ ⟨hc1, hx, ho⟩ (by simp only; omega) _ ?_
        simp (maxSteps := 1000000) (disch := first | omega | (simp (disch := first | omega | (simp only [EnV.len, SpV.len, List.length_append, List.length_cons, List.length_nil, List.length_set]; first | done | omega)) only [EnV.len, SpV.len, amSide, Int.reduceToNat, Nat.reducePow, Nat.reduceMul]; first | done | omega)) only [↓amPre, amPost, ↓s_lit', Nat.reduceAdd, Nat.reduceSub, List.replicate, retA, resultsA, resultA, toC, toCL, Nat.reduceEqDiff, Int.natCast_add, Int.cast_ofNat_Int, dec_t, dec_f]
    · rw [if_neg (fun q => k3 q.1)] at hsp
      simp (maxSteps := 1000000) (disch := first | omega | (simp (disch := first | omega | (simp only [EnV.len, SpV.len, List.length_append, List.length_cons, List.length_nil, List.length_set]; first | done | omega)) only [EnV.len, SpV.len, amSide, Int.reduceToNat, Nat.reducePow, Nat.reduceMul]; first | done | omega)) only  [↓amPre, amPost, ↓s_lit', Nat.reduceAdd, Nat.reduceSub, List.replicate, retA, resultsA, resultA, toC, toCL, Nat.reduceEqDiff, he, append_at (un62 S.p) (sz68 S.p) (by68 S.p) (ze68 S.p) (by decide) (by decide) rfl, sl_cells (sz68 S.p), (bu68 S.p), lit_fill (un62 S.p) (sz68 S.p) (ze68 S.p), (fa78_0 S.p), (fa78_1 S.p), iaddr_sl (un61 S.p) (sz78 S.p), len_sl (un61 S.p), len_nils (un61 S.p), part_sc (ag3 S.p), idx_ok, hc, g0, bneI_t, dec_t, Int.toNat_natCast, Nat.zero_add, Nat.add_zero, wrap_i64]
      refine hag ⟨i + 1, qo, _⟩ ⟨hc1, hx, by simp only [hsp]; exact ho⟩ (by simp only; omega) _ ?_
      simp (maxSteps := 1000000) (disch := first | omega | (simp (disch := first | omega | (simp only [EnV.len, SpV.len, List.length_append, List.length_cons, List.length_nil, List.length_set]; first | done | omega)) only [EnV.len, SpV.len, amSide, Int.reduceToNat, Nat.reducePow, Nat.reduceMul]; first | done | omega)) only [↓amPre, amPost, ↓s_lit', Nat.reduceAdd, Nat.reduceSub, List.replicate, retA, resultsA, resultA, toC, toCL, Nat.reduceEqDiff, Int.natCast_add, Int.cast_ofNat_Int, dec_t, dec_f]
  · obtain rfl : i = l.length := by omega
    simp (maxSteps := 1000000) (disch := first | omega | (simp (disch := first | omega | (simp only [EnV.len, SpV.len, List.length_append, List.length_cons, List.length_nil, List.length_set]; first | done | omega)) only [EnV.len, SpV.len, amSide, Int.reduceToNat, Nat.reducePow, Nat.reduceMul]; first | done | omega)) only  [↓amPre, amPost, ↓s_lit', Nat.reduceAdd, Nat.reduceSub, List.replicate, retA, resultsA, resultA, toC, toCL, Nat.reduceEqDiff, he, append_at (un62 S.p) (sz68 S.p) (by68 S.p) (ze68 S.p) (by decide) (by decide) rfl, sl_cells (sz68 S.p), (bu68 S.p), lit_fill (un62 S.p) (sz68 S.p) (ze68 S.p), (fa78_0 S.p), (fa78_1 S.p), iaddr_sl (un61 S.p) (sz78 S.p), len_sl (un61 S.p), len_nils (un61 S.p), part_sc (ag3 S.p), dec_f]
    exact Ends.some ⟨hx, qo, rfl, ho⟩
end Go.AM
