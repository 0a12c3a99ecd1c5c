/- Races: all that race, by the document. Conditions: none. -/
import Derived.Test.YtgcgbcdgbfeaaaaRa3
set_option linter.unusedVariables false
set_option linter.unusedSimpArgs false
set_option maxRecDepth 100000
namespace Go.AM
open Go.Proofs
-- LENS: freeL_ck, ck_len, AcV.len, AcV.hk, PrV.len
theorem spl2 (a b : SV) : splice [.int .i64 0, .int .i64 0] 0 [a, b] = [a, b] := nrfl rfl
set_option maxHeartbeats 8000000 in
theorem s18 {P : Program} {T : Tab} {K d : Nat} (S : Sd P T K) (hd : 3 ≤ d) (q : SV) (l : List AcV) (hl : l.length ≤ 300) (lk : Nat) (h : List AO) (hlk : lk ≤ h.length) (hq : Rs AcV.cells 12 h q l) :
    Ends (fun v h' => Ext1 h h' ∧ ∃ q', v = .v (.sc q') ∧ Own 35 2 h.length h' q' (recs PrV.cells (allP l l.length))) (ev P T K d 18 [.sc q] lk h) := by
  obtain ⟨d, rfl⟩ : ∃ k, d = k + 1 := ⟨d - 1, by omega⟩
  rw [ev_run (at18 S.t)]
  unfold i18 Try.f18
  have hlen := hq.len (un22 S.p)
  simp (maxSteps := 1000000) (disch := first | omega | (simp (disch := first | omega | (simp only [freeL_ck, ck_len, AcV.len, AcV.hk, PrV.len, List.length_append, List.length_cons, List.length_nil, List.length_set]; first | done | omega)) only [freeL_ck, ck_len, AcV.len, AcV.hk, PrV.len, amSide, Int.reduceToNat, Nat.reducePow, Nat.reduceMul]; first | done | omega)) only  [↓amPre, amPost, ↓s_lit', Nat.reduceAdd, Nat.reduceSub, List.replicate, retA, resultsA, resultA, toC, toCL, Nat.reduceEqDiff, append_at (un29 S.p) (sz35 S.p) (by35 S.p) (ze35 S.p) (by decide) (by decide) rfl, sl_cells (sz35 S.p), (bu35 S.p), lit_fill (un29 S.p) (sz35 S.p) (ze35 S.p), iaddr_sl (un22 S.p) (sz131 S.p), len_sl (un22 S.p), len_nils (un22 S.p), part_all (ag131 S.p) (sz131 S.p), part_at (ag131 S.p) (sz131 S.p), hlen]
  refine ends_loop (X := ThA) ⟨0, .nils, h⟩ [5, 6, 7, 8, 9, 10, 11, 12, 13, 14, 15, 16, 17, 18, 19, 20, 21, 22, 23, 24, 25, 26, 27, 28, 29, 30, 31] (fun x => x.i ≤ l.length ∧ Ext1 h x.h ∧ Own 35 2 h.length x.h x.q (recs PrV.cells (allP l x.i))) (fun x => l.length - x.i)
    (fun x e => (e.set 3 (.v (.sc x.q))).set 4 (.v (.sc (.int .i64 x.i)))) (fun x => x.h)
    (by have := S.k; show _ < K; simp only; omega) ⟨by simp only; omega, Ext1.refl _, Own.nil _ _ _ _⟩ rfl rfl ?_
  rintro ⟨i, qo, hj⟩ ⟨hi, hx, ho⟩ again hag e he
  simp only at hi hx ho hag he
  simp only [↓amPre, amPost, ↓s_lit', Nat.reduceAdd, Nat.reduceSub, List.replicate, retA, resultsA, resultA, toC, toCL, Nat.reduceEqDiff] at he
  simp only [↓amPre, amPost, ↓s_lit', Nat.reduceAdd, Nat.reduceSub, List.replicate, retA, resultsA, resultA, toC, toCL, Nat.reduceEqDiff, he]
  simp (maxSteps := 1000000) (disch := first | omega | (simp (disch := first | omega | (simp only [freeL_ck, ck_len, AcV.len, AcV.hk, PrV.len, List.length_append, List.length_cons, List.length_nil, List.length_set]; first | done | omega)) only [freeL_ck, ck_len, AcV.len, AcV.hk, PrV.len, amSide, Int.reduceToNat, Nat.reducePow, Nat.reduceMul]; first | done | omega)) only  [↓amPre, amPost, ↓s_lit', Nat.reduceAdd, Nat.reduceSub, List.replicate, retA, resultsA, resultA, toC, toCL, Nat.reduceEqDiff, he, append_at (un29 S.p) (sz35 S.p) (by35 S.p) (ze35 S.p) (by decide) (by decide) rfl, sl_cells (sz35 S.p), (bu35 S.p), lit_fill (un29 S.p) (sz35 S.p) (ze35 S.p), iaddr_sl (un22 S.p) (sz131 S.p), len_sl (un22 S.p), len_nils (un22 S.p), part_all (ag131 S.p) (sz131 S.p), part_at (ag131 S.p) (sz131 S.p), hlen]
  by_cases hc1 : i < l.length
  · obtain ⟨b, rfl, hb, hc0⟩ := hq.at (by omega)
    obtain ⟨y, hy⟩ : ∃ y, l[i]? = some y := ⟨_, List.getElem?_eq_getElem hc1⟩
    have hpy := recs_part (ag131 S.p) (sz131 S.p) AcV.len hy
    have hall := allP_succ hy
    have hal := allP_len l i
    have hii : i * i ≤ 300 * 300 := Nat.mul_le_mul (by omega) (by omega)
    simp (maxSteps := 1000000) (disch := first | omega | (simp (disch := first | omega | (simp only [freeL_ck, ck_len, AcV.len, AcV.hk, PrV.len, List.length_append, List.length_cons, List.length_nil, List.length_set]; first | done | omega)) only [freeL_ck, ck_len, AcV.len, AcV.hk, PrV.len, amSide, Int.reduceToNat, Nat.reducePow, Nat.reduceMul]; first | done | omega)) only  [↓amPre, amPost, ↓s_lit', Nat.reduceAdd, Nat.reduceSub, List.replicate, retA, resultsA, resultA, toC, toCL, Nat.reduceEqDiff, he, append_at (un29 S.p) (sz35 S.p) (by35 S.p) (ze35 S.p) (by decide) (by decide) rfl, sl_cells (sz35 S.p), (bu35 S.p), lit_fill (un29 S.p) (sz35 S.p) (ze35 S.p), iaddr_sl (un22 S.p) (sz131 S.p), len_sl (un22 S.p), len_nils (un22 S.p), part_all (ag131 S.p) (sz131 S.p), part_at (ag131 S.p) (sz131 S.p), dec_t]
    refine ends_loop (X := ThA) ⟨0, qo, hj⟩ [12, 13, 14, 15, 16, 17, 18, 19, 20, 21, 22, 23, 24, 25, 26, 27, 28, 29, 30, 31] (fun x => x.i ≤ i ∧ Ext1 h x.h ∧ Own 35 2 h.length x.h x.q (recs PrV.cells (allP l i ++ rowP l i y x.i))) (fun x => i - x.i)
      (fun x e => (e.set 3 (.v (.sc x.q))).set 5 (.v (.sc (.int .i64 x.i)))) (fun x => x.h)
      (by have := S.k; show _ < K; simp only; omega) ⟨by simp only; omega, hx, by have e : rowP l i y 0 = [] := rfl
                                                                                  rw [e, List.append_nil]; exact ho⟩ rfl rfl ?_
    clear ho hx
    rintro ⟨j, qi, h2⟩ ⟨hji, hx, ho⟩ again2 hag2 e2 he2
    simp only at hji hx ho hag2 he2
    simp only [↓amPre, amPost, ↓s_lit', Nat.reduceAdd, Nat.reduceSub, List.replicate, retA, resultsA, resultA, toC, toCL, Nat.reduceEqDiff] at he2
    simp only [↓amPre, amPost, ↓s_lit', Nat.reduceAdd, Nat.reduceSub, List.replicate, retA, resultsA, resultA, toC, toCL, Nat.reduceEqDiff, he2]
    have hle := hx.len
    refine ends_cond (fun hc2 => ?_) (fun hc2 => ?_)
    · simp only [decide_eq_true_eq] at hc2
      obtain ⟨x, hxj⟩ : ∃ x, l[j]? = some x := ⟨_, List.getElem?_eq_getElem (by omega)⟩
      have hpx := recs_part (ag131 S.p) (sz131 S.p) AcV.len hxj
      have hc : cellsAt h2 b = some (recs AcV.cells l) := by rw [hx.cells hb]; exact hc0
      have f57 := fun lk => s57 S (show 2 ≤ d by omega) x y lk h2
      have hro := rowP_succ (k := i) (y := y) hxj
      have hrl := rowP_len l i y j
      cases hR : raceV x y with
      | true =>
        rw [hR] at f57
        rw [if_pos hR] at hro
        have hO := ho.push (.rw 35 [.int .i64 (j : Nat), .int .i64 (i : Nat)])
        obtain ⟨q2, h3, happ, hown, hl2, _, hx2, _⟩ := grow_own (b := 16) (lk := lk) hO [.int .i64 (j : Nat), .int .i64 (i : Nat)] (by omega) (by simp) (by simp) (by omega) (by simp; omega) (by rw [recs_len PrV.len]; simp; omega)
        have hx3 := hx2 h (hx.push (.rw 35 [.int .i64 (j : Nat), .int .i64 (i : Nat)])) (by omega)
        have hcs : ([.int .i64 (j : Nat), .int .i64 (i : Nat)] : List SV) = PrV.cells ⟨(j : Int), (i : Int)⟩ := rfl
        rw [hcs, recs_snoc, List.append_assoc, ← hro] at hown
        simp (maxSteps := 1000000) (disch := first | omega | (simp (disch := first | omega | (simp only [freeL_ck, ck_len, AcV.len, AcV.hk, PrV.len, List.length_append, List.length_cons, List.length_nil, List.length_set]; first | done | omega)) only [freeL_ck, ck_len, AcV.len, AcV.hk, PrV.len, amSide, Int.reduceToNat, Nat.reducePow, Nat.reduceMul]; first | done | omega)) only  [↓amPre, amPost, ↓s_lit', Nat.reduceAdd, Nat.reduceSub, List.replicate, retA, resultsA, resultA, toC, toCL, Nat.reduceEqDiff, he2, append_at (un29 S.p) (sz35 S.p) (by35 S.p) (ze35 S.p) (by decide) (by decide) rfl, sl_cells (sz35 S.p), (bu35 S.p), lit_fill (un29 S.p) (sz35 S.p) (ze35 S.p), iaddr_sl (un22 S.p) (sz131 S.p), len_sl (un22 S.p), len_nils (un22 S.p), part_all (ag131 S.p) (sz131 S.p), part_at (ag131 S.p) (sz131 S.p), idx_ok, hc, hpx, hpy, f57, happ, cells_self, cells_other, spl2, List.flatten_cons, List.flatten_nil, List.append_nil, Nat.one_mul, Nat.zero_mul, Int.toNat_natCast, Nat.zero_add, wrap_i64]
        refine hag2 ⟨j + 1, q2, h3⟩ ⟨by simp only; omega, hx3, hown⟩ (by simp only; omega) _ ?_
        simp (maxSteps := 1000000) (disch := first | omega | (simp (disch := first | omega | (simp only [freeL_ck, ck_len, AcV.len, AcV.hk, PrV.len, List.length_append, List.length_cons, List.length_nil, List.length_set]; first | done | omega)) only [freeL_ck, ck_len, AcV.len, AcV.hk, PrV.len, amSide, Int.reduceToNat, Nat.reducePow, Nat.reduceMul]; first | done | omega)) only [↓amPre, amPost, ↓s_lit', Nat.reduceAdd, Nat.reduceSub, List.replicate, retA, resultsA, resultA, toC, toCL, Nat.reduceEqDiff, Int.natCast_add, Int.cast_ofNat_Int, dec_t, dec_f]
      | false =>
        rw [hR] at f57
        rw [if_neg (by rw [hR]; simp)] at hro
        simp (maxSteps := 1000000) (disch := first | omega | (simp (disch := first | omega | (simp only [freeL_ck, ck_len, AcV.len, AcV.hk, PrV.len, List.length_append, List.length_cons, List.length_nil, List.length_set]; first | done | omega)) only [freeL_ck, ck_len, AcV.len, AcV.hk, PrV.len, amSide, Int.reduceToNat, Nat.reducePow, Nat.reduceMul]; first | done | omega)) only  [↓amPre, amPost, ↓s_lit', Nat.reduceAdd, Nat.reduceSub, List.replicate, retA, resultsA, resultA, toC, toCL, Nat.reduceEqDiff, he2, append_at (un29 S.p) (sz35 S.p) (by35 S.p) (ze35 S.p) (by decide) (by decide) rfl, sl_cells (sz35 S.p), (bu35 S.p), lit_fill (un29 S.p) (sz35 S.p) (ze35 S.p), iaddr_sl (un22 S.p) (sz131 S.p), len_sl (un22 S.p), len_nils (un22 S.p), part_all (ag131 S.p) (sz131 S.p), part_at (ag131 S.p) (sz131 S.p), idx_ok, hc, hpx, hpy, f57, Int.toNat_natCast, Nat.zero_add, wrap_i64]
        refine hag2 ⟨j + 1, qi, _⟩ ⟨by simp only; omega, hx, by simp only [hro]; exact ho⟩ (by simp only; omega) _ ?_
        simp (maxSteps := 1000000) (disch := first | omega | (simp (disch := first | omega | (simp only [freeL_ck, ck_len, AcV.len, AcV.hk, PrV.len, List.length_append, List.length_cons, List.length_nil, List.length_set]; first | done | omega)) only [freeL_ck, ck_len, AcV.len, AcV.hk, PrV.len, amSide, Int.reduceToNat, Nat.reducePow, Nat.reduceMul]; first | done | omega)) only [↓amPre, amPost, ↓s_lit', Nat.reduceAdd, Nat.reduceSub, List.replicate, retA, resultsA, resultA, toC, toCL, Nat.reduceEqDiff, Int.natCast_add, Int.cast_ofNat_Int, dec_t, dec_f]
    · simp only [decide_eq_false_iff_not] at hc2
      obtain rfl : j = i := by omega
      clear hag2
      rw [← hall] at ho
      simp (maxSteps := 1000000) (disch := first | omega | (simp (disch := first | omega | (simp only [freeL_ck, ck_len, AcV.len, AcV.hk, PrV.len, List.length_append, List.length_cons, List.length_nil, List.length_set]; first | done | omega)) only [freeL_ck, ck_len, AcV.len, AcV.hk, PrV.len, amSide, Int.reduceToNat, Nat.reducePow, Nat.reduceMul]; first | done | omega)) only  [↓amPre, amPost, ↓s_lit', Nat.reduceAdd, Nat.reduceSub, List.replicate, retA, resultsA, resultA, toC, toCL, Nat.reduceEqDiff, he2, append_at (un29 S.p) (sz35 S.p) (by35 S.p) (ze35 S.p) (by decide) (by decide) rfl, sl_cells (sz35 S.p), (bu35 S.p), lit_fill (un29 S.p) (sz35 S.p) (ze35 S.p), iaddr_sl (un22 S.p) (sz131 S.p), len_sl (un22 S.p), len_nils (un22 S.p), part_all (ag131 S.p) (sz131 S.p), part_at (ag131 S.p) (sz131 S.p), wrap_i64]
      refine hag ⟨j + 1, qi, _⟩ ⟨hc1, hx, ho⟩ (by simp only; omega) _ ?_
      simp (maxSteps := 1000000) (disch := first | omega | (simp (disch := first | omega | (simp only [freeL_ck, ck_len, AcV.len, AcV.hk, PrV.len, List.length_append, List.length_cons, List.length_nil, List.length_set]; first | done | omega)) only [freeL_ck, ck_len, AcV.len, AcV.hk, PrV.len, amSide, Int.reduceToNat, Nat.reducePow, Nat.reduceMul]; first | done | omega)) only [↓amPre, amPost, ↓s_lit', Nat.reduceAdd, Nat.reduceSub, List.replicate, retA, resultsA, resultA, toC, toCL, Nat.reduceEqDiff, Int.natCast_add, Int.cast_ofNat_Int, dec_t, dec_f]
  · obtain rfl : i = l.length := by omega
    simp (maxSteps := 1000000) (disch := first | omega | (simp (disch := first | omega | (simp only [freeL_ck, ck_len, AcV.len, AcV.hk, PrV.len, List.length_append, List.length_cons, List.length_nil, List.length_set]; first | done | omega)) only [freeL_ck, ck_len, AcV.len, AcV.hk, PrV.len, amSide, Int.reduceToNat, Nat.reducePow, Nat.reduceMul]; first | done | omega)) only  [↓amPre, amPost, ↓s_lit', Nat.reduceAdd, Nat.reduceSub, List.replicate, retA, resultsA, resultA, toC, toCL, Nat.reduceEqDiff, he, append_at (un29 S.p) (sz35 S.p) (by35 S.p) (ze35 S.p) (by decide) (by decide) rfl, sl_cells (sz35 S.p), (bu35 S.p), lit_fill (un29 S.p) (sz35 S.p) (ze35 S.p), iaddr_sl (un22 S.p) (sz131 S.p), len_sl (un22 S.p), len_nils (un22 S.p), part_all (ag131 S.p) (sz131 S.p), part_at (ag131 S.p) (sz131 S.p), dec_f]
    exact Ends.some ⟨hx, qo, rfl, ho⟩
end Go.AM
