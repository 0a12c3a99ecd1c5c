/- Records: pushed and popped as often, a stack is as it was. Conditions: none. -/
import Derived.Test.YtgcgbcdgbfeaaaaRe5
set_option linter.unusedVariables false
set_option linter.unusedSimpArgs false
set_option maxRecDepth 100000
namespace Go.AM
open Go.Proofs
-- LENS: Rec.len, StV.len
theorem getInt_at (l : List Int) (i : Nat) (hi : i < l.length) : (l.map (SV.int .i64))[i]? = some (.int .i64 (l.getD i 0)) := by
  simp [List.getElem?_eq_getElem hi]
set_option maxHeartbeats 4000000 in
theorem s6 {P : Program} {T : Tab} {K d : Nat} (S : Sd P T K) (hd : 7 ≤ d) (q r : SV) (xs ys : List StV) (lk : Nat) (h : List AO) (hq : Rs StV.cells 3 h q xs) (hr : Rs StV.cells 3 h r ys) :
    ev P T K d 6 [.sc q, .sc r] lk h = some (.v (.sc (.bool true)), h) := by
  obtain ⟨d, rfl⟩ : ∃ k, d = k + 1 := ⟨d - 1, by omega⟩
  refine ev_pure (at6 S.t) rfl ?_
  unfold i6 Try.f6
  have l1 := hq.len (un50 S.p)
  have l2 := hr.len (un50 S.p)
  have f24 := fun lk h => s24k S (show 1 ≤ d by omega) lk h
  by_cases c1 : xs.length > 100
  · simp (maxSteps := 1000000) (disch := first | omega | (simp (disch := first | omega | (simp only [Rec.len, StV.len, List.length_append, List.length_cons, List.length_nil, List.length_set]; first | done | omega)) only [Rec.len, StV.len, amSide, Int.reduceToNat, Nat.reducePow, Nat.reduceMul]; first | done | omega)) only  [↓amPre, amPost, ↓s_lit', Nat.reduceAdd, Nat.reduceSub, List.replicate, retA, resultsA, resultA, toC, toCL, Nat.reduceEqDiff, (ze56 S.p), (ze62 S.p), append_at (un47 S.p) (sz3 S.p) (by3 S.p) (ze3 S.p) (by decide) (by decide) rfl, sl_cells (sz3 S.p), append_at (un59 S.p) (sz62 S.p) (by62 S.p) (ze62 S.p) (by decide) (by decide) rfl, sl_cells (sz62 S.p), eql_ag, neq_ag, (eq62 S.p), lit_fill (un47 S.p) (sz3 S.p) (ze3 S.p), lit_fill (un59 S.p) (sz62 S.p) (ze62 S.p), (fa56_1 S.p), (fa56_2 S.p), (fa62_0 S.p), iaddr_sl (un47 S.p) (sz3 S.p), iaddr_sl (un50 S.p) (sz56 S.p), iaddr_sl (un59 S.p) (sz62 S.p), len_sl (un47 S.p), len_nils (un47 S.p), len_sl (un50 S.p), len_nils (un50 S.p), len_sl (un59 S.p), len_nils (un59 S.p), part_sc (ag3 S.p), part_sc (ag39 S.p), part_all (ag56 S.p) (sz56 S.p), part_at (ag56 S.p) (sz56 S.p), part_all (ag62 S.p) (sz62 S.p), part_at (ag62 S.p) (sz62 S.p), store_last (sz56 S.p), (sz56 S.p), store_last (sz62 S.p), (sz62 S.p), l1, l2, dec_t, f24]
    exact Ends.some rfl
  by_cases c2 : ys.length > 100
  · simp (maxSteps := 1000000) (disch := first | omega | (simp (disch := first | omega | (simp only [Rec.len, StV.len, List.length_append, List.length_cons, List.length_nil, List.length_set]; first | done | omega)) only [Rec.len, StV.len, amSide, Int.reduceToNat, Nat.reducePow, Nat.reduceMul]; first | done | omega)) only  [↓amPre, amPost, ↓s_lit', Nat.reduceAdd, Nat.reduceSub, List.replicate, retA, resultsA, resultA, toC, toCL, Nat.reduceEqDiff, (ze56 S.p), (ze62 S.p), append_at (un47 S.p) (sz3 S.p) (by3 S.p) (ze3 S.p) (by decide) (by decide) rfl, sl_cells (sz3 S.p), append_at (un59 S.p) (sz62 S.p) (by62 S.p) (ze62 S.p) (by decide) (by decide) rfl, sl_cells (sz62 S.p), eql_ag, neq_ag, (eq62 S.p), lit_fill (un47 S.p) (sz3 S.p) (ze3 S.p), lit_fill (un59 S.p) (sz62 S.p) (ze62 S.p), (fa56_1 S.p), (fa56_2 S.p), (fa62_0 S.p), iaddr_sl (un47 S.p) (sz3 S.p), iaddr_sl (un50 S.p) (sz56 S.p), iaddr_sl (un59 S.p) (sz62 S.p), len_sl (un47 S.p), len_nils (un47 S.p), len_sl (un50 S.p), len_nils (un50 S.p), len_sl (un59 S.p), len_nils (un59 S.p), part_sc (ag3 S.p), part_sc (ag39 S.p), part_all (ag56 S.p) (sz56 S.p), part_at (ag56 S.p) (sz56 S.p), part_all (ag62 S.p) (sz62 S.p), part_at (ag62 S.p) (sz62 S.p), store_last (sz56 S.p), (sz56 S.p), store_last (sz62 S.p), (sz62 S.p), l1, l2, dec_t, dec_f, f24]
    exact Ends.some rfl
  have e25 := s25 S (show 1 ≤ d by omega) 512 (by omega) (by omega) h.length h
  have st0 : Stk (h.length + 1) h.length (h ++ [.rw 88 [.int .i64 512, .nils]]) .nils 512 [] := ⟨by simp, .inl ⟨rfl, rfl⟩, by omega⟩
  have x0 : Ext1 h (h ++ [.rw 88 [.int .i64 512, .nils]]) := (Ext1.refl h).push _
  simp (maxSteps := 1000000) (disch := first | omega | (simp (disch := first | omega | (simp only [Rec.len, StV.len, List.length_append, List.length_cons, List.length_nil, List.length_set]; first | done | omega)) only [Rec.len, StV.len, amSide, Int.reduceToNat, Nat.reducePow, Nat.reduceMul]; first | done | omega)) only  [↓amPre, amPost, ↓s_lit', Nat.reduceAdd, Nat.reduceSub, List.replicate, retA, resultsA, resultA, toC, toCL, Nat.reduceEqDiff, (ze56 S.p), (ze62 S.p), append_at (un47 S.p) (sz3 S.p) (by3 S.p) (ze3 S.p) (by decide) (by decide) rfl, sl_cells (sz3 S.p), append_at (un59 S.p) (sz62 S.p) (by62 S.p) (ze62 S.p) (by decide) (by decide) rfl, sl_cells (sz62 S.p), eql_ag, neq_ag, (eq62 S.p), lit_fill (un47 S.p) (sz3 S.p) (ze3 S.p), lit_fill (un59 S.p) (sz62 S.p) (ze62 S.p), (fa56_1 S.p), (fa56_2 S.p), (fa62_0 S.p), iaddr_sl (un47 S.p) (sz3 S.p), iaddr_sl (un50 S.p) (sz56 S.p), iaddr_sl (un59 S.p) (sz62 S.p), len_sl (un47 S.p), len_nils (un47 S.p), len_sl (un50 S.p), len_nils (un50 S.p), len_sl (un59 S.p), len_nils (un59 S.p), part_sc (ag3 S.p), part_sc (ag39 S.p), part_all (ag56 S.p) (sz56 S.p), part_at (ag56 S.p) (sz56 S.p), part_all (ag62 S.p) (sz62 S.p), part_at (ag62 S.p) (sz62 S.p), store_last (sz56 S.p), (sz56 S.p), store_last (sz62 S.p), (sz62 S.p), l1, l2, dec_f, e25, eql_pn (un51 S.p), bneI_f]
  refine ends_loop (X := Bk0) ⟨0, .nils, h ++ [.rw 88 [.int .i64 512, .nils]]⟩ [8, 48, 49, 50, 51, 52, 53, 54, 55, 56, 57] (fun x => x.i ≤ xs.length ∧ Ext1 h x.h ∧ h.length + 1 ≤ x.h.length ∧ Stk (h.length + 1) h.length x.h x.qs 512 (pushL (xs.take x.i))) (fun x => xs.length - x.i)
    (fun x e => e.set 47 (.v (.sc (.int .i64 x.i)))) (fun x => x.h)
    (by have := S.k; show _ < K; simp only; omega) ⟨by simp only; omega, x0, by simp, st0⟩ rfl rfl ?_
  rintro ⟨i, qs, hh⟩ ⟨hi, hx, hlh, hst⟩ again hag e he
  simp only at hi hx hlh hst hag he
  simp only [↓amPre, amPost, ↓s_lit', Nat.reduceAdd, Nat.reduceSub, List.replicate, retA, resultsA, resultA, toC, toCL, Nat.reduceEqDiff] at he
  simp only [↓amPre, amPost, ↓s_lit', Nat.reduceAdd, Nat.reduceSub, List.replicate, retA, resultsA, resultA, toC, toCL, Nat.reduceEqDiff, he]
  refine ends_cond (fun hc1 => ?_) (fun hc1 => ?_)
  · simp only [decide_eq_true_eq] at hc1
    have hio : i < xs.length := by omega
    obtain ⟨b, rfl, hb, hc⟩ := hq.at (by omega)
    obtain ⟨y, hy⟩ : ∃ y, xs[i]? = some y := ⟨_, List.getElem?_eq_getElem hio⟩
    have hcc : cellsAt hh b = some (recs StV.cells xs) := by rw [hx.cells hb]; exact hc
    have hpt := recs_part (ag56 S.p) (sz56 S.p) StV.len hy
    have hst2 := hst.push (.rw 56 y.cells)
    have hpl : (pushL (xs.take i)).length ≤ 100 := by have := pushL_len (xs.take i); have := List.length_take_le i xs; omega
    obtain ⟨n1, n2⟩ := s26 S (show 2 ≤ d by omega) hst2 (by omega) (by omega) y.o y.s h.length (Nat.le_refl _) (by simp; omega)
    have htk := take_snocG xs i y hy
    have hps := pushL_snoc (xs.take i) y
    rw [← htk] at hps
    by_cases hin : 0 ≤ y.o ∧ y.o < 65536
    · obtain ⟨h', qs', e26, hst3, hF⟩ := n2 ⟨hin.1, hin.2, by omega⟩
      rw [if_pos hin] at hps
      have hx3 := hF.ext1 hst2 (hx.push _) (Nat.le_refl _)
      have hl3 := hF.len
      simp only [List.length_append, List.length_singleton] at hl3
      clear n1 n2
      simp (maxSteps := 1000000) (disch := first | omega | (simp (disch := first | omega | (simp only [Rec.len, StV.len, List.length_append, List.length_cons, List.length_nil, List.length_set]; first | done | omega)) only [Rec.len, StV.len, amSide, Int.reduceToNat, Nat.reducePow, Nat.reduceMul]; first | done | omega)) only  [↓amPre, amPost, ↓s_lit', Nat.reduceAdd, Nat.reduceSub, List.replicate, retA, resultsA, resultA, toC, toCL, Nat.reduceEqDiff, he, (ze56 S.p), (ze62 S.p), append_at (un47 S.p) (sz3 S.p) (by3 S.p) (ze3 S.p) (by decide) (by decide) rfl, sl_cells (sz3 S.p), append_at (un59 S.p) (sz62 S.p) (by62 S.p) (ze62 S.p) (by decide) (by decide) rfl, sl_cells (sz62 S.p), eql_ag, neq_ag, (eq62 S.p), lit_fill (un47 S.p) (sz3 S.p) (ze3 S.p), lit_fill (un59 S.p) (sz62 S.p) (ze62 S.p), (fa56_1 S.p), (fa56_2 S.p), (fa62_0 S.p), iaddr_sl (un47 S.p) (sz3 S.p), iaddr_sl (un50 S.p) (sz56 S.p), iaddr_sl (un59 S.p) (sz62 S.p), len_sl (un47 S.p), len_nils (un47 S.p), len_sl (un50 S.p), len_nils (un50 S.p), len_sl (un59 S.p), len_nils (un59 S.p), part_sc (ag3 S.p), part_sc (ag39 S.p), part_all (ag56 S.p) (sz56 S.p), part_at (ag56 S.p) (sz56 S.p), part_all (ag62 S.p) (sz62 S.p), part_at (ag62 S.p) (sz62 S.p), store_last (sz56 S.p), (sz56 S.p), store_last (sz62 S.p), (sz62 S.p), idx_ok, hcc, hpt, cells_self, StV.c1, StV.c2, e26, Int.toNat_natCast, Nat.zero_add, wrap_i64]
      refine hag ⟨i + 1, qs', h'⟩ ⟨hio, hx3, by simp only; omega, by simp only; rw [hps]; exact hst3⟩ (by simp only; omega) _ ?_
      simp (maxSteps := 1000000) (disch := first | omega | (simp (disch := first | omega | (simp only [Rec.len, StV.len, List.length_append, List.length_cons, List.length_nil, List.length_set]; first | done | omega)) only [Rec.len, StV.len, amSide, Int.reduceToNat, Nat.reducePow, Nat.reduceMul]; first | done | omega)) only [↓amPre, amPost, ↓s_lit', Nat.reduceAdd, Nat.reduceSub, List.replicate, retA, resultsA, resultA, toC, toCL, Nat.reduceEqDiff, Int.natCast_add, Int.cast_ofNat_Int, dec_t, dec_f]
    · obtain ⟨ee, _, e26⟩ := n1 (fun q => hin ⟨q.1, q.2.1⟩)
      rw [if_neg hin] at hps
      clear n1 n2
      simp (maxSteps := 1000000) (disch := first | omega | (simp (disch := first | omega | (simp only [Rec.len, StV.len, List.length_append, List.length_cons, List.length_nil, List.length_set]; first | done | omega)) only [Rec.len, StV.len, amSide, Int.reduceToNat, Nat.reducePow, Nat.reduceMul]; first | done | omega)) only  [↓amPre, amPost, ↓s_lit', Nat.reduceAdd, Nat.reduceSub, List.replicate, retA, resultsA, resultA, toC, toCL, Nat.reduceEqDiff, he, (ze56 S.p), (ze62 S.p), append_at (un47 S.p) (sz3 S.p) (by3 S.p) (ze3 S.p) (by decide) (by decide) rfl, sl_cells (sz3 S.p), append_at (un59 S.p) (sz62 S.p) (by62 S.p) (ze62 S.p) (by decide) (by decide) rfl, sl_cells (sz62 S.p), eql_ag, neq_ag, (eq62 S.p), lit_fill (un47 S.p) (sz3 S.p) (ze3 S.p), lit_fill (un59 S.p) (sz62 S.p) (ze62 S.p), (fa56_1 S.p), (fa56_2 S.p), (fa62_0 S.p), iaddr_sl (un47 S.p) (sz3 S.p), iaddr_sl (un50 S.p) (sz56 S.p), iaddr_sl (un59 S.p) (sz62 S.p), len_sl (un47 S.p), len_nils (un47 S.p), len_sl (un50 S.p), len_nils (un50 S.p), len_sl (un59 S.p), len_nils (un59 S.p), part_sc (ag3 S.p), part_sc (ag39 S.p), part_all (ag56 S.p) (sz56 S.p), part_at (ag56 S.p) (sz56 S.p), part_all (ag62 S.p) (sz62 S.p), part_at (ag62 S.p) (sz62 S.p), store_last (sz56 S.p), (sz56 S.p), store_last (sz62 S.p), (sz62 S.p), idx_ok, hcc, hpt, cells_self, StV.c1, StV.c2, e26, Int.toNat_natCast, Nat.zero_add, wrap_i64]
      refine hag ⟨i + 1, qs, _⟩ ⟨hio, hx.push _, by simp; omega, by simp only; rw [hps]; exact hst2⟩ (by simp only; omega) _ ?_
      simp (maxSteps := 1000000) (disch := first | omega | (simp (disch := first | omega | (simp only [Rec.len, StV.len, List.length_append, List.length_cons, List.length_nil, List.length_set]; first | done | omega)) only [Rec.len, StV.len, amSide, Int.reduceToNat, Nat.reducePow, Nat.reduceMul]; first | done | omega)) only [↓amPre, amPost, ↓s_lit', Nat.reduceAdd, Nat.reduceSub, List.replicate, retA, resultsA, resultA, toC, toCL, Nat.reduceEqDiff, Int.natCast_add, Int.cast_ofNat_Int, dec_t, dec_f]
  simp only [decide_eq_false_iff_not] at hc1
  obtain rfl : i = xs.length := by omega
  rw [List.take_length] at hst
  have hWl : (pushL xs).length ≤ 100 := by have := pushL_len xs; omega
  generalize pushL xs = W at *
  clear hag hc1 e25 st0 x0
  have f27 := fun lk => s27 S (show 3 ≤ d by omega) hst (by omega) (show W.length ≤ 600 by omega) lk
  simp (maxSteps := 1000000) (disch := first | omega | (simp (disch := first | omega | (simp only [Rec.len, StV.len, List.length_append, List.length_cons, List.length_nil, List.length_set]; first | done | omega)) only [Rec.len, StV.len, amSide, Int.reduceToNat, Nat.reducePow, Nat.reduceMul]; first | done | omega)) only  [↓amPre, amPost, ↓s_lit', Nat.reduceAdd, Nat.reduceSub, List.replicate, retA, resultsA, resultA, toC, toCL, Nat.reduceEqDiff, he, (ze56 S.p), (ze62 S.p), append_at (un47 S.p) (sz3 S.p) (by3 S.p) (ze3 S.p) (by decide) (by decide) rfl, sl_cells (sz3 S.p), append_at (un59 S.p) (sz62 S.p) (by62 S.p) (ze62 S.p) (by decide) (by decide) rfl, sl_cells (sz62 S.p), eql_ag, neq_ag, (eq62 S.p), lit_fill (un47 S.p) (sz3 S.p) (ze3 S.p), lit_fill (un59 S.p) (sz62 S.p) (ze62 S.p), (fa56_1 S.p), (fa56_2 S.p), (fa62_0 S.p), iaddr_sl (un47 S.p) (sz3 S.p), iaddr_sl (un50 S.p) (sz56 S.p), iaddr_sl (un59 S.p) (sz62 S.p), len_sl (un47 S.p), len_nils (un47 S.p), len_sl (un50 S.p), len_nils (un50 S.p), len_sl (un59 S.p), len_nils (un59 S.p), part_sc (ag3 S.p), part_sc (ag39 S.p), part_all (ag56 S.p) (sz56 S.p), part_at (ag56 S.p) (sz56 S.p), part_all (ag62 S.p) (sz62 S.p), part_at (ag62 S.p) (sz62 S.p), store_last (sz56 S.p), (sz56 S.p), store_last (sz62 S.p), (sz62 S.p), f27]
  -- what is there
  refine ends_loop (X := Bk1) ⟨0, .nils, hh⟩ [10, 11, 12, 61, 62, 63, 64, 65, 66, 67, 68, 69, 70, 71, 72, 73] (fun x => x.i ≤ W.length ∧ Ext1 hh x.h ∧ Own 62 2 hh.length x.h x.qw (recs Rec.cells (W.take x.i))) (fun x => W.length - x.i)
    (fun x e => (e.set 9 (.v (.sc x.qw))).set 60 (.v (.sc (.int .i64 x.i)))) (fun x => x.h)
    (by have := S.k; show _ < K; simp only; omega) ⟨by simp only; omega, Ext1.refl _, Own.nil _ _ _ _⟩ rfl rfl ?_
  rintro ⟨i, qw, h2⟩ ⟨hi, hx2, hw⟩ again hag e he
  simp only at hi hx2 hw hag he
  simp only [↓amPre, amPost, ↓s_lit', Nat.reduceAdd, Nat.reduceSub, List.replicate, retA, resultsA, resultA, toC, toCL, Nat.reduceEqDiff] at he
  simp only [↓amPre, amPost, ↓s_lit', Nat.reduceAdd, Nat.reduceSub, List.replicate, retA, resultsA, resultA, toC, toCL, Nat.reduceEqDiff, he]
  refine ends_cond (fun hc1 => ?_) (fun hc1 => ?_)
  · simp only [decide_eq_true_eq] at hc1
    have hio : i < W.length := by omega
    obtain ⟨y, hy⟩ : ∃ y, W[i]? = some y := ⟨_, List.getElem?_eq_getElem hio⟩
    have f28 := fun lk => s28 S (show 2 ≤ d by omega) (hst.ext hx2) (by omega) hy lk
    have hle := hx2.len
    have hlx := hx.len
    have hO2 := (hw.push (.rw 62 y.cells)).push (.rw 62 y.cells)
    obtain ⟨q2, h3, happ, hown, hl2, _, hx3, _⟩ := grow_own (b := 16) (lk := h.length) hO2 y.cells (by omega) (by rw [Rec.len]; omega) (by rw [Rec.len]) (by omega) (by simp; omega) (by rw [recs_len Rec.len, Rec.len]; have := List.length_take_le i W; omega)
    have hx4 := hx3 hh ((hx2.push (.rw 62 y.cells)).push (.rw 62 y.cells)) (Nat.le_refl _)
    rw [recs_snoc, ← take_snocG W i y hy] at hown
    have htk : y.cells.take 2 = y.cells := rfl
    clear hO2 hw
    simp (maxSteps := 1000000) (disch := first | omega | (simp (disch := first | omega | (simp only [Rec.len, StV.len, List.length_append, List.length_cons, List.length_nil, List.length_set]; first | done | omega)) only [Rec.len, StV.len, amSide, Int.reduceToNat, Nat.reducePow, Nat.reduceMul]; first | done | omega)) only  [↓amPre, amPost, ↓s_lit', Nat.reduceAdd, Nat.reduceSub, List.replicate, retA, resultsA, resultA, toC, toCL, Nat.reduceEqDiff, he, (ze56 S.p), (ze62 S.p), append_at (un47 S.p) (sz3 S.p) (by3 S.p) (ze3 S.p) (by decide) (by decide) rfl, sl_cells (sz3 S.p), append_at (un59 S.p) (sz62 S.p) (by62 S.p) (ze62 S.p) (by decide) (by decide) rfl, sl_cells (sz62 S.p), eql_ag, neq_ag, (eq62 S.p), lit_fill (un47 S.p) (sz3 S.p) (ze3 S.p), lit_fill (un59 S.p) (sz62 S.p) (ze62 S.p), (fa56_1 S.p), (fa56_2 S.p), (fa62_0 S.p), iaddr_sl (un47 S.p) (sz3 S.p), iaddr_sl (un50 S.p) (sz56 S.p), iaddr_sl (un59 S.p) (sz62 S.p), len_sl (un47 S.p), len_nils (un47 S.p), len_sl (un50 S.p), len_nils (un50 S.p), len_sl (un59 S.p), len_nils (un59 S.p), part_sc (ag3 S.p), part_sc (ag39 S.p), part_all (ag56 S.p) (sz56 S.p), part_at (ag56 S.p) (sz56 S.p), part_all (ag62 S.p) (sz62 S.p), part_at (ag62 S.p) (sz62 S.p), store_last (sz56 S.p), (sz56 S.p), store_last (sz62 S.p), (sz62 S.p), f28, cells_self, cells_other, htk, happ, List.flatten_cons, List.flatten_nil, List.append_nil, Nat.zero_mul, Nat.one_mul, Int.toNat_natCast, Nat.zero_add, wrap_i64]
    refine hag ⟨i + 1, q2, h3⟩ ⟨hio, hx4, hown⟩ (by simp only; omega) _ ?_
    simp (maxSteps := 1000000) (disch := first | omega | (simp (disch := first | omega | (simp only [Rec.len, StV.len, List.length_append, List.length_cons, List.length_nil, List.length_set]; first | done | omega)) only [Rec.len, StV.len, amSide, Int.reduceToNat, Nat.reducePow, Nat.reduceMul]; first | done | omega)) only [↓amPre, amPost, ↓s_lit', Nat.reduceAdd, Nat.reduceSub, List.replicate, retA, resultsA, resultA, toC, toCL, Nat.reduceEqDiff, Int.natCast_add, Int.cast_ofNat_Int, dec_t, dec_f]
  simp only [decide_eq_false_iff_not] at hc1
  obtain rfl : i = W.length := by omega
  rw [List.take_length] at hw
  clear hag hc1 f27
  have hlw : lenA P h2 59 (.v (.sc qw)) = some (.v (.sc (.int .i64 (W.length : Int)))) := by
    have := (hw.rs (by omega) Rec.len).len (un59 S.p)
    exact this h2
  have hle2 := hx2.len
  have hsep0 : Sep (h.length + 1) hh.length h.length h2 qs qw .nils W [] [] := by
    refine ⟨by rw [List.append_nil]; exact hst.ext hx2, hw, Own.nil _ _ _ _, fun j ⟨o, n, s, e⟩ => ?_, fun j ⟨o, n, s, e⟩ => (by cases e), Apart.nil _, hlh, hle2⟩
    rcases hw with ⟨e2, _⟩ | ⟨l, f1, f2, f3, _, _⟩
    · rw [e2] at e; cases e
    · rw [f3] at e
      simp only [SV.sl.injEq] at e
      rcases hst.q with ⟨g1, _⟩ | ⟨b, g, g1, g2, _, _⟩
      · rw [g1]; intro o2 n2 s2 e2; cases e2
      · rw [g1]; intro o2 n2 s2 e2
        have := (List.getElem?_eq_some_iff.1 g2).1
        simp only [SV.sl.injEq] at e2
        omega
  have hxh2 := hx.trans hx2
  simp (maxSteps := 1000000) (disch := first | omega | (simp (disch := first | omega | (simp only [Rec.len, StV.len, List.length_append, List.length_cons, List.length_nil, List.length_set]; first | done | omega)) only [Rec.len, StV.len, amSide, Int.reduceToNat, Nat.reducePow, Nat.reduceMul]; first | done | omega)) only  [↓amPre, amPost, ↓s_lit', Nat.reduceAdd, Nat.reduceSub, List.replicate, retA, resultsA, resultA, toC, toCL, Nat.reduceEqDiff, he, (ze56 S.p), (ze62 S.p), append_at (un47 S.p) (sz3 S.p) (by3 S.p) (ze3 S.p) (by decide) (by decide) rfl, sl_cells (sz3 S.p), append_at (un59 S.p) (sz62 S.p) (by62 S.p) (ze62 S.p) (by decide) (by decide) rfl, sl_cells (sz62 S.p), eql_ag, neq_ag, (eq62 S.p), lit_fill (un47 S.p) (sz3 S.p) (ze3 S.p), lit_fill (un59 S.p) (sz62 S.p) (ze62 S.p), (fa56_1 S.p), (fa56_2 S.p), (fa62_0 S.p), iaddr_sl (un47 S.p) (sz3 S.p), iaddr_sl (un50 S.p) (sz56 S.p), iaddr_sl (un59 S.p) (sz62 S.p), len_sl (un47 S.p), len_nils (un47 S.p), len_sl (un50 S.p), len_nils (un50 S.p), len_sl (un59 S.p), len_nils (un59 S.p), part_sc (ag3 S.p), part_sc (ag39 S.p), part_all (ag56 S.p) (sz56 S.p), part_at (ag56 S.p) (sz56 S.p), part_all (ag62 S.p) (sz62 S.p), part_at (ag62 S.p) (sz62 S.p), store_last (sz56 S.p), (sz56 S.p), store_last (sz62 S.p), (sz62 S.p), l2]
  -- more of them
  refine ends_loop (X := Bk2) ⟨0, qs, .nils, [], h2⟩ [15, 16, 17, 77, 78, 79, 80, 81, 82, 83, 84, 85, 86, 87, 88, 89, 90, 91, 92, 93, 94, 95, 96] (fun x => x.i ≤ ys.length ∧ Ext1 h x.h ∧ x.R.length ≤ x.i ∧ Sep (h.length + 1) hh.length h.length x.h x.qs qw x.qb W x.R (x.R.map Rec.o)) (fun x => ys.length - x.i)
    (fun x e => (e.set 13 (.v (.sc x.qb))).set 76 (.v (.sc (.int .i64 x.i)))) (fun x => x.h)
    (by have := S.k; show _ < K; simp only; omega) ⟨by simp only; omega, hxh2, by simp, hsep0⟩ rfl rfl ?_
  rintro ⟨i, q4, qb, R, h4⟩ ⟨hi, hx4, hRl, hsep⟩ again hag e he
  simp only at hi hx4 hRl hsep hag he
  simp only [↓amPre, amPost, ↓s_lit', Nat.reduceAdd, Nat.reduceSub, List.replicate, retA, resultsA, resultA, toC, toCL, Nat.reduceEqDiff] at he
  simp only [↓amPre, amPost, ↓s_lit', Nat.reduceAdd, Nat.reduceSub, List.replicate, retA, resultsA, resultA, toC, toCL, Nat.reduceEqDiff, he]
  refine ends_cond (fun hc1 => ?_) (fun hc1 => ?_)
  · simp only [decide_eq_true_eq] at hc1
    have hio : i < ys.length := by omega
    obtain ⟨b, rfl, hb, hc⟩ := hr.at (by omega)
    obtain ⟨y, hy⟩ : ∃ y, ys[i]? = some y := ⟨_, List.getElem?_eq_getElem hio⟩
    have hcc : cellsAt h4 b = some (recs StV.cells ys) := by rw [hx4.cells hb]; exact hc
    have hpt := recs_part (ag56 S.p) (sz56 S.p) StV.len hy
    have hsep2 := hsep.push (.rw 56 y.cells)
    have hl4 := hsep2.l2
    have hlx4 := hx4.len
    have hWR : (W ++ R).length ≤ 200 := by simp; omega
    obtain ⟨n1, n2⟩ := s26 S (show 2 ≤ d by omega) hsep2.st (by omega) (by omega) y.o y.s h.length (Nat.le_refl _) (by omega)
    by_cases hin : 0 ≤ y.o ∧ y.o < 65536
    · obtain ⟨h5, qs', e26, hst3, hF⟩ := n2 ⟨hin.1, hin.2, by omega⟩
      have hx5 := hF.ext1 hsep2.st (hx4.push _) (Nat.le_refl _)
      have hsep3 := hsep2.frm hF (R' := R ++ [⟨y.o, y.s⟩]) (by rw [← List.append_assoc]; exact hst3)
      have hsep4 := hsep3.push (.rw 3 [.int .i64 y.o])
      obtain ⟨q2, h6, happ, hsep5, hx6⟩ := hsep4.grow y.o h.length (by omega) (by simp; omega)
      have hx7 := hx6 h (hx5.push _) (by omega)
      have hmap : R.map Rec.o ++ [y.o] = (R ++ [(⟨y.o, y.s⟩ : Rec)]).map Rec.o := by simp
      rw [hmap] at hsep5
      have h56 : h4.length < h5.length := by have := hF.len; simp at this; omega
      have c56 : cellsAt h5 h4.length = some y.cells := by
        have hn : NotAt q4 h4.length := fun o' n' s' e2 => by
          rcases hsep.st.q with ⟨g1, _⟩ | ⟨b2, g, g1, g2, _, _⟩
          · rw [g1] at e2; cases e2
          · rw [g1] at e2
            have := (List.getElem?_eq_some_iff.1 g2).1
            simp only [SV.sl.injEq] at e2
            omega
        have hpl := (List.getElem?_eq_some_iff.1 hsep.st.pp).1
        exact cells_at (el := 56) (by rw [hF.get h4.length (by simp) (by omega) hn]; simp)
      clear n1 n2 hsep3 hsep4 hsep2 hsep
      simp (maxSteps := 1000000) (disch := first | omega | (simp (disch := first | omega | (simp only [Rec.len, StV.len, List.length_append, List.length_cons, List.length_nil, List.length_set]; first | done | omega)) only [Rec.len, StV.len, amSide, Int.reduceToNat, Nat.reducePow, Nat.reduceMul]; first | done | omega)) only  [↓amPre, amPost, ↓s_lit', Nat.reduceAdd, Nat.reduceSub, List.replicate, retA, resultsA, resultA, toC, toCL, Nat.reduceEqDiff, he, (ze56 S.p), (ze62 S.p), append_at (un47 S.p) (sz3 S.p) (by3 S.p) (ze3 S.p) (by decide) (by decide) rfl, sl_cells (sz3 S.p), append_at (un59 S.p) (sz62 S.p) (by62 S.p) (ze62 S.p) (by decide) (by decide) rfl, sl_cells (sz62 S.p), eql_ag, neq_ag, (eq62 S.p), lit_fill (un47 S.p) (sz3 S.p) (ze3 S.p), lit_fill (un59 S.p) (sz62 S.p) (ze62 S.p), (fa56_1 S.p), (fa56_2 S.p), (fa62_0 S.p), iaddr_sl (un47 S.p) (sz3 S.p), iaddr_sl (un50 S.p) (sz56 S.p), iaddr_sl (un59 S.p) (sz62 S.p), len_sl (un47 S.p), len_nils (un47 S.p), len_sl (un50 S.p), len_nils (un50 S.p), len_sl (un59 S.p), len_nils (un59 S.p), part_sc (ag3 S.p), part_sc (ag39 S.p), part_all (ag56 S.p) (sz56 S.p), part_at (ag56 S.p) (sz56 S.p), part_all (ag62 S.p) (sz62 S.p), part_at (ag62 S.p) (sz62 S.p), store_last (sz56 S.p), (sz56 S.p), store_last (sz62 S.p), (sz62 S.p), idx_ok, hcc, hpt, cells_self, cells_other, StV.c1, StV.c2, e26, c56, beqI_t, happ, List.flatten_cons, List.flatten_nil, List.append_nil, Nat.zero_mul, Nat.one_mul, Nat.mul_one, Int.toNat_natCast, Nat.zero_add, wrap_i64]
      refine hag ⟨i + 1, qs', q2, R ++ [⟨y.o, y.s⟩], h6⟩ ⟨hio, hx7, by simp; omega, hsep5⟩ (by simp only; omega) _ ?_
      simp (maxSteps := 1000000) (disch := first | omega | (simp (disch := first | omega | (simp only [Rec.len, StV.len, List.length_append, List.length_cons, List.length_nil, List.length_set]; first | done | omega)) only [Rec.len, StV.len, amSide, Int.reduceToNat, Nat.reducePow, Nat.reduceMul]; first | done | omega)) only [↓amPre, amPost, ↓s_lit', Nat.reduceAdd, Nat.reduceSub, List.replicate, retA, resultsA, resultA, toC, toCL, Nat.reduceEqDiff, Int.natCast_add, Int.cast_ofNat_Int, dec_t, dec_f]
    · obtain ⟨ee, he0, e26⟩ := n1 (fun q => hin ⟨q.1, q.2.1⟩)
      clear n1 n2
      simp (maxSteps := 1000000) (disch := first | omega | (simp (disch := first | omega | (simp only [Rec.len, StV.len, List.length_append, List.length_cons, List.length_nil, List.length_set]; first | done | omega)) only [Rec.len, StV.len, amSide, Int.reduceToNat, Nat.reducePow, Nat.reduceMul]; first | done | omega)) only  [↓amPre, amPost, ↓s_lit', Nat.reduceAdd, Nat.reduceSub, List.replicate, retA, resultsA, resultA, toC, toCL, Nat.reduceEqDiff, he, (ze56 S.p), (ze62 S.p), append_at (un47 S.p) (sz3 S.p) (by3 S.p) (ze3 S.p) (by decide) (by decide) rfl, sl_cells (sz3 S.p), append_at (un59 S.p) (sz62 S.p) (by62 S.p) (ze62 S.p) (by decide) (by decide) rfl, sl_cells (sz62 S.p), eql_ag, neq_ag, (eq62 S.p), lit_fill (un47 S.p) (sz3 S.p) (ze3 S.p), lit_fill (un59 S.p) (sz62 S.p) (ze62 S.p), (fa56_1 S.p), (fa56_2 S.p), (fa62_0 S.p), iaddr_sl (un47 S.p) (sz3 S.p), iaddr_sl (un50 S.p) (sz56 S.p), iaddr_sl (un59 S.p) (sz62 S.p), len_sl (un47 S.p), len_nils (un47 S.p), len_sl (un50 S.p), len_nils (un50 S.p), len_sl (un59 S.p), len_nils (un59 S.p), part_sc (ag3 S.p), part_sc (ag39 S.p), part_all (ag56 S.p) (sz56 S.p), part_at (ag56 S.p) (sz56 S.p), part_all (ag62 S.p) (sz62 S.p), part_at (ag62 S.p) (sz62 S.p), store_last (sz56 S.p), (sz56 S.p), store_last (sz62 S.p), (sz62 S.p), idx_ok, hcc, hpt, cells_self, StV.c1, StV.c2, e26, beqI_f, Int.toNat_natCast, Nat.zero_add, wrap_i64]
      refine hag ⟨i + 1, q4, qb, R, _⟩ ⟨hio, hx4.push _, by simp only; omega, hsep2⟩ (by simp only; omega) _ ?_
      simp (maxSteps := 1000000) (disch := first | omega | (simp (disch := first | omega | (simp only [Rec.len, StV.len, List.length_append, List.length_cons, List.length_nil, List.length_set]; first | done | omega)) only [Rec.len, StV.len, amSide, Int.reduceToNat, Nat.reducePow, Nat.reduceMul]; first | done | omega)) only [↓amPre, amPost, ↓s_lit', Nat.reduceAdd, Nat.reduceSub, List.replicate, retA, resultsA, resultA, toC, toCL, Nat.reduceEqDiff, Int.natCast_add, Int.cast_ofNat_Int, dec_t, dec_f]
  simp only [decide_eq_false_iff_not] at hc1
  clear hag hc1 hsep0
  have hbl : ∀ hh, lenA P hh 47 (.v (.sc qb)) = some (.v (.sc (.int .i64 (R.length : Int)))) := fun hh => by
    have := own_len (un47 S.p) hsep.b hh
    simpa using this
  have hRl2 : R.length ≤ 100 := by omega
  have hsep1 : Sep (h.length + 1) hh.length h.length h4 q4 qw qb W R (R.map Rec.o) := hsep
  have hperm0 : (R.map Rec.o).Perm ((R.map Rec.o).drop 0) := List.Perm.refl _
  generalize hbk : R.map Rec.o = bk at hsep
  have hbkl : bk.length = R.length := by rw [← hbk]; simp
  rw [hbk] at hperm0
  have hbk100 : bk.length ≤ 100 := by omega
  simp (maxSteps := 1000000) (disch := first | omega | (simp (disch := first | omega | (simp only [Rec.len, StV.len, List.length_append, List.length_cons, List.length_nil, List.length_set]; first | done | omega)) only [Rec.len, StV.len, amSide, Int.reduceToNat, Nat.reducePow, Nat.reduceMul]; first | done | omega)) only  [↓amPre, amPost, ↓s_lit', Nat.reduceAdd, Nat.reduceSub, List.replicate, retA, resultsA, resultA, toC, toCL, Nat.reduceEqDiff, he, (ze56 S.p), (ze62 S.p), append_at (un47 S.p) (sz3 S.p) (by3 S.p) (ze3 S.p) (by decide) (by decide) rfl, sl_cells (sz3 S.p), append_at (un59 S.p) (sz62 S.p) (by62 S.p) (ze62 S.p) (by decide) (by decide) rfl, sl_cells (sz62 S.p), eql_ag, neq_ag, (eq62 S.p), lit_fill (un47 S.p) (sz3 S.p) (ze3 S.p), lit_fill (un59 S.p) (sz62 S.p) (ze62 S.p), (fa56_1 S.p), (fa56_2 S.p), (fa62_0 S.p), iaddr_sl (un47 S.p) (sz3 S.p), iaddr_sl (un50 S.p) (sz56 S.p), iaddr_sl (un59 S.p) (sz62 S.p), len_sl (un47 S.p), len_nils (un47 S.p), len_sl (un50 S.p), len_nils (un50 S.p), len_sl (un59 S.p), len_nils (un59 S.p), part_sc (ag3 S.p), part_sc (ag39 S.p), part_all (ag56 S.p) (sz56 S.p), part_at (ag56 S.p) (sz56 S.p), part_all (ag62 S.p) (sz62 S.p), part_at (ag62 S.p) (sz62 S.p), store_last (sz56 S.p), (sz56 S.p), store_last (sz62 S.p), (sz62 S.p), hbl]
  -- as often
  refine ends_loop (X := Bk2) ⟨0, q4, qb, R, h4⟩ [4, 19, 20, 21, 100, 101, 102, 103, 104, 105, 106, 107, 108, 109, 110, 111, 112, 113, 114, 115, 116, 117] (fun x => x.i ≤ bk.length ∧ Ext1 h x.h ∧ x.qb = qb ∧ Sep (h.length + 1) hh.length h.length x.h x.qs qw qb W x.R bk ∧ (x.R.map Rec.o).Perm (bk.drop x.i)) (fun x => bk.length - x.i)
    (fun x e => e.set 99 (.v (.sc (.int .i64 x.i)))) (fun x => x.h)
    (by have := S.k; show _ < K; simp only; omega) ⟨by simp only; omega, hx4, rfl, hsep, by simp only; rw [hbk]; exact List.Perm.refl _⟩ (by simp (maxSteps := 1000000) (disch := first | omega | (simp (disch := first | omega | (simp only [Rec.len, StV.len, List.length_append, List.length_cons, List.length_nil, List.length_set]; first | done | omega)) only [Rec.len, StV.len, amSide, Int.reduceToNat, Nat.reducePow, Nat.reduceMul]; first | done | omega)) only [↓amPre, amPost, ↓s_lit', Nat.reduceAdd, Nat.reduceSub, List.replicate, retA, resultsA, resultA, toC, toCL, Nat.reduceEqDiff, Int.natCast_add, Int.cast_ofNat_Int, dec_t, dec_f]) rfl ?_
  rintro ⟨i, q5, qb', R5, h5⟩ ⟨hi, hx5, rfl, hsep5, hperm⟩ again hag e he
  simp only at hi hx5 hsep5 hperm hag he
  simp only [↓amPre, amPost, ↓s_lit', Nat.reduceAdd, Nat.reduceSub, List.replicate, retA, resultsA, resultA, toC, toCL, Nat.reduceEqDiff] at he
  simp only [↓amPre, amPost, ↓s_lit', Nat.reduceAdd, Nat.reduceSub, List.replicate, retA, resultsA, resultA, toC, toCL, Nat.reduceEqDiff, he]
  have hR5 : R5.length + i = bk.length := by have := hperm.length_eq; simp at this; omega
  have hR5b : R5.length ≤ 100 := by omega
  rw [← hbkl] at *
  refine ends_cond (fun hc1 => ?_) (fun hc1 => ?_)
  · simp only [decide_eq_true_eq] at hc1
    have hio : i < bk.length := by omega
    obtain ⟨bb, f1, f2, f3, f4⟩ : ∃ bb, bb < h5.length ∧ hh.length ≤ bb ∧ qb' = .sl bb 0 bk.length 1 ∧ cellsAt h5 bb = some (bk.map (SV.int .i64)) := by
      rcases hsep5.b with ⟨e1, e2⟩ | ⟨l, g1, g2, g3, g4, g5⟩
      · have : bk.length = 0 := by have := congrArg List.length e2; simpa using this
        omega
      · exact ⟨l, g2, g1, by rw [g3]; simp, cells_at g4⟩
    subst f3
    have hgi := getInt_at bk i hio
    have hdr : bk.drop i = bk.getD i 0 :: bk.drop (i + 1) := by
      rw [List.drop_eq_getElem_cons hio, List.getD_eq_getElem?_getD, List.getElem?_eq_getElem hio]; rfl
    rw [hdr] at hperm
    generalize hoe : bk.getD i 0 = o at *
    have hmem : o ∈ R5.map Rec.o := hperm.mem_iff.2 List.mem_cons_self
    obtain ⟨m, x, hmx, hlast⟩ := pop_some (W := W) hmem
    obtain ⟨R6, hR6, hp6, hxo⟩ := pop_math hmx hlast hmem
    have hWR : (W ++ R5).length ≤ 600 := by rw [List.length_append]; omega
    obtain ⟨h6, q6, e29, hst6, hF⟩ := (s29 S (show 5 ≤ d by omega) hsep5.st (by omega) hWR o h.length (Nat.le_refl _) (by have := hsep5.l1; have := hsep5.l2; omega)).2 m x hmx hlast
    rw [hR6] at hst6
    have hx6 := hF.ext1 hsep5.st hx5 (Nat.le_refl _)
    have hsep6 := (hsep5.frm hF hst6).push (.rw 62 x.cells)
    have hp7 : (R6.map Rec.o).Perm (bk.drop (i + 1)) := (List.perm_cons o).1 (hp6.symm.trans hperm)
    have hl6 : h.length ≤ h6.length := hx6.len
    clear hsep5 hsep
    simp (maxSteps := 1000000) (disch := first | omega | (simp (disch := first | omega | (simp only [Rec.len, StV.len, List.length_append, List.length_cons, List.length_nil, List.length_set]; first | done | omega)) only [Rec.len, StV.len, amSide, Int.reduceToNat, Nat.reducePow, Nat.reduceMul]; first | done | omega)) only  [↓amPre, amPost, ↓s_lit', Nat.reduceAdd, Nat.reduceSub, List.replicate, retA, resultsA, resultA, toC, toCL, Nat.reduceEqDiff, he, (ze56 S.p), (ze62 S.p), append_at (un47 S.p) (sz3 S.p) (by3 S.p) (ze3 S.p) (by decide) (by decide) rfl, sl_cells (sz3 S.p), append_at (un59 S.p) (sz62 S.p) (by62 S.p) (ze62 S.p) (by decide) (by decide) rfl, sl_cells (sz62 S.p), eql_ag, neq_ag, (eq62 S.p), lit_fill (un47 S.p) (sz3 S.p) (ze3 S.p), lit_fill (un59 S.p) (sz62 S.p) (ze62 S.p), (fa56_1 S.p), (fa56_2 S.p), (fa62_0 S.p), iaddr_sl (un47 S.p) (sz3 S.p), iaddr_sl (un50 S.p) (sz56 S.p), iaddr_sl (un59 S.p) (sz62 S.p), len_sl (un47 S.p), len_nils (un47 S.p), len_sl (un50 S.p), len_nils (un50 S.p), len_sl (un59 S.p), len_nils (un59 S.p), part_sc (ag3 S.p), part_sc (ag39 S.p), part_all (ag56 S.p) (sz56 S.p), part_at (ag56 S.p) (sz56 S.p), part_all (ag62 S.p) (sz62 S.p), part_at (ag62 S.p) (sz62 S.p), store_last (sz56 S.p), (sz56 S.p), store_last (sz62 S.p), (sz62 S.p), idx_ok, f4, hgi, e29, cells_self, Rec.c0, hxo, bneI_f, Int.toNat_natCast, Nat.mul_one, Nat.zero_add, wrap_i64, bne_self_eq_false]
    refine hag ⟨i + 1, q6, .sl bb 0 bk.length 1, R6, _⟩ ⟨hio, hx6.push _, rfl, hsep6, hp7⟩ (by simp only; omega) _ ?_
    simp (maxSteps := 1000000) (disch := first | omega | (simp (disch := first | omega | (simp only [Rec.len, StV.len, List.length_append, List.length_cons, List.length_nil, List.length_set]; first | done | omega)) only [Rec.len, StV.len, amSide, Int.reduceToNat, Nat.reducePow, Nat.reduceMul]; first | done | omega)) only [↓amPre, amPost, ↓s_lit', Nat.reduceAdd, Nat.reduceSub, List.replicate, retA, resultsA, resultA, toC, toCL, Nat.reduceEqDiff, Int.natCast_add, Int.cast_ofNat_Int, dec_t, dec_f]
  simp only [decide_eq_false_iff_not] at hc1
  have hR0 : R5 = [] := List.eq_nil_of_length_eq_zero (by omega)
  subst hR0
  have hst5 := hsep5.st
  rw [List.append_nil] at hst5
  have f27 := fun lk => s27 S (show 3 ≤ d by omega) hst5 (by omega) (show W.length ≤ 600 by omega) lk
  have hlw5 : ∀ hh, lenA P hh 59 (.v (.sc qw)) = some (.v (.sc (.int .i64 (W.length : Int)))) := fun hh => (hsep5.w.rs (by omega) Rec.len).len (un59 S.p) hh
  have hw5 := hsep5.w
  have hl5 : h.length + 1 ≤ h5.length := by have := hsep5.l1; have := hsep5.l2; omega
  have hhl : hh.length ≤ h5.length := hsep5.l2
  clear hag hc1 hsep5 hsep hsep1 hst
  simp (maxSteps := 1000000) (disch := first | omega | (simp (disch := first | omega | (simp only [Rec.len, StV.len, List.length_append, List.length_cons, List.length_nil, List.length_set]; first | done | omega)) only [Rec.len, StV.len, amSide, Int.reduceToNat, Nat.reducePow, Nat.reduceMul]; first | done | omega)) only  [↓amPre, amPost, ↓s_lit', Nat.reduceAdd, Nat.reduceSub, List.replicate, retA, resultsA, resultA, toC, toCL, Nat.reduceEqDiff, he, (ze56 S.p), (ze62 S.p), append_at (un47 S.p) (sz3 S.p) (by3 S.p) (ze3 S.p) (by decide) (by decide) rfl, sl_cells (sz3 S.p), append_at (un59 S.p) (sz62 S.p) (by62 S.p) (ze62 S.p) (by decide) (by decide) rfl, sl_cells (sz62 S.p), eql_ag, neq_ag, (eq62 S.p), lit_fill (un47 S.p) (sz3 S.p) (ze3 S.p), lit_fill (un59 S.p) (sz62 S.p) (ze62 S.p), (fa56_1 S.p), (fa56_2 S.p), (fa62_0 S.p), iaddr_sl (un47 S.p) (sz3 S.p), iaddr_sl (un50 S.p) (sz56 S.p), iaddr_sl (un59 S.p) (sz62 S.p), len_sl (un47 S.p), len_nils (un47 S.p), len_sl (un50 S.p), len_nils (un50 S.p), len_sl (un59 S.p), len_nils (un59 S.p), part_sc (ag3 S.p), part_sc (ag39 S.p), part_all (ag56 S.p) (sz56 S.p), part_at (ag56 S.p) (sz56 S.p), part_all (ag62 S.p) (sz62 S.p), part_at (ag62 S.p) (sz62 S.p), store_last (sz56 S.p), (sz56 S.p), store_last (sz62 S.p), (sz62 S.p), f27, hlw5, bneI_f]
  -- the same as there was
  refine ends_loop (X := Bk1) ⟨0, qw, h5⟩ [4, 22, 23, 24, 25, 126, 127, 128, 129, 130, 131, 132, 133, 134, 135, 136, 137, 138, 139, 140, 141, 142, 143] (fun x => x.i ≤ W.length ∧ Ext1 h5 x.h) (fun x => W.length - x.i) (fun x e => e.set 125 (.v (.sc (.int .i64 x.i)))) (fun x => x.h)
    (by have := S.k; show _ < K; simp only; omega) ⟨by simp only; omega, Ext1.refl _⟩ (by simp (maxSteps := 1000000) (disch := first | omega | (simp (disch := first | omega | (simp only [Rec.len, StV.len, List.length_append, List.length_cons, List.length_nil, List.length_set]; first | done | omega)) only [Rec.len, StV.len, amSide, Int.reduceToNat, Nat.reducePow, Nat.reduceMul]; first | done | omega)) only [↓amPre, amPost, ↓s_lit', Nat.reduceAdd, Nat.reduceSub, List.replicate, retA, resultsA, resultA, toC, toCL, Nat.reduceEqDiff, Int.natCast_add, Int.cast_ofNat_Int, dec_t, dec_f]) rfl ?_
  rintro ⟨i, q7, h7⟩ ⟨hi, hx7⟩ again hag e he
  simp only at hi hx7 hag he
  simp only [↓amPre, amPost, ↓s_lit', Nat.reduceAdd, Nat.reduceSub, List.replicate, retA, resultsA, resultA, toC, toCL, Nat.reduceEqDiff] at he
  simp only [↓amPre, amPost, ↓s_lit', Nat.reduceAdd, Nat.reduceSub, List.replicate, retA, resultsA, resultA, toC, toCL, Nat.reduceEqDiff, he]
  have hl7 := hx7.len
  refine ends_cond (fun hc1 => ?_) (fun hc1 => ?_)
  · simp only [decide_eq_true_eq] at hc1
    have hio : i < W.length := by omega
    obtain ⟨y, hy⟩ : ∃ y, W[i]? = some y := ⟨_, List.getElem?_eq_getElem hio⟩
    obtain ⟨b, rfl, hb, hc⟩ := ((hw5.ext hx7).rs (by omega) Rec.len).at (by omega)
    have hpt := recs_part (ag62 S.p) (sz62 S.p) Rec.len hy
    have f28 := fun lk => s28 S (show 2 ≤ d by omega) ((hst5.ext hx7).push (.rw 62 y.cells)) (by omega) hy lk
    have hre := rec_eq y
    simp (maxSteps := 1000000) (disch := first | omega | (simp (disch := first | omega | (simp only [Rec.len, StV.len, List.length_append, List.length_cons, List.length_nil, List.length_set]; first | done | omega)) only [Rec.len, StV.len, amSide, Int.reduceToNat, Nat.reducePow, Nat.reduceMul]; first | done | omega)) only  [↓amPre, amPost, ↓s_lit', Nat.reduceAdd, Nat.reduceSub, List.replicate, retA, resultsA, resultA, toC, toCL, Nat.reduceEqDiff, he, (ze56 S.p), (ze62 S.p), append_at (un47 S.p) (sz3 S.p) (by3 S.p) (ze3 S.p) (by decide) (by decide) rfl, sl_cells (sz3 S.p), append_at (un59 S.p) (sz62 S.p) (by62 S.p) (ze62 S.p) (by decide) (by decide) rfl, sl_cells (sz62 S.p), eql_ag, neq_ag, (eq62 S.p), lit_fill (un47 S.p) (sz3 S.p) (ze3 S.p), lit_fill (un59 S.p) (sz62 S.p) (ze62 S.p), (fa56_1 S.p), (fa56_2 S.p), (fa62_0 S.p), iaddr_sl (un47 S.p) (sz3 S.p), iaddr_sl (un50 S.p) (sz56 S.p), iaddr_sl (un59 S.p) (sz62 S.p), len_sl (un47 S.p), len_nils (un47 S.p), len_sl (un50 S.p), len_nils (un50 S.p), len_sl (un59 S.p), len_nils (un59 S.p), part_sc (ag3 S.p), part_sc (ag39 S.p), part_all (ag56 S.p) (sz56 S.p), part_at (ag56 S.p) (sz56 S.p), part_all (ag62 S.p) (sz62 S.p), part_at (ag62 S.p) (sz62 S.p), store_last (sz56 S.p), (sz56 S.p), store_last (sz62 S.p), (sz62 S.p), idx_ok, hc, hpt, f28, cells_self, cells_other, hre, bneI_f, Int.toNat_natCast, Nat.zero_add, wrap_i64]
    refine hag ⟨i + 1, q7, _⟩ ⟨hio, (hx7.push _).push _⟩ (by simp only; omega) _ ?_
    simp (maxSteps := 1000000) (disch := first | omega | (simp (disch := first | omega | (simp only [Rec.len, StV.len, List.length_append, List.length_cons, List.length_nil, List.length_set]; first | done | omega)) only [Rec.len, StV.len, amSide, Int.reduceToNat, Nat.reducePow, Nat.reduceMul]; first | done | omega)) only [↓amPre, amPost, ↓s_lit', Nat.reduceAdd, Nat.reduceSub, List.replicate, retA, resultsA, resultA, toC, toCL, Nat.reduceEqDiff, Int.natCast_add, Int.cast_ofNat_Int, dec_t, dec_f]
  · simp (maxSteps := 1000000) (disch := first | omega | (simp (disch := first | omega | (simp only [Rec.len, StV.len, List.length_append, List.length_cons, List.length_nil, List.length_set]; first | done | omega)) only [Rec.len, StV.len, amSide, Int.reduceToNat, Nat.reducePow, Nat.reduceMul]; first | done | omega)) only  [↓amPre, amPost, ↓s_lit', Nat.reduceAdd, Nat.reduceSub, List.replicate, retA, resultsA, resultA, toC, toCL, Nat.reduceEqDiff, he, (ze56 S.p), (ze62 S.p), append_at (un47 S.p) (sz3 S.p) (by3 S.p) (ze3 S.p) (by decide) (by decide) rfl, sl_cells (sz3 S.p), append_at (un59 S.p) (sz62 S.p) (by62 S.p) (ze62 S.p) (by decide) (by decide) rfl, sl_cells (sz62 S.p), eql_ag, neq_ag, (eq62 S.p), lit_fill (un47 S.p) (sz3 S.p) (ze3 S.p), lit_fill (un59 S.p) (sz62 S.p) (ze62 S.p), (fa56_1 S.p), (fa56_2 S.p), (fa62_0 S.p), iaddr_sl (un47 S.p) (sz3 S.p), iaddr_sl (un50 S.p) (sz56 S.p), iaddr_sl (un59 S.p) (sz62 S.p), len_sl (un47 S.p), len_nils (un47 S.p), len_sl (un50 S.p), len_nils (un50 S.p), len_sl (un59 S.p), len_nils (un59 S.p), part_sc (ag3 S.p), part_sc (ag39 S.p), part_all (ag56 S.p) (sz56 S.p), part_at (ag56 S.p) (sz56 S.p), part_all (ag62 S.p) (sz62 S.p), part_at (ag62 S.p) (sz62 S.p), store_last (sz56 S.p), (sz56 S.p), store_last (sz62 S.p), (sz62 S.p), f24]
    exact Ends.some rfl
end Go.AM
