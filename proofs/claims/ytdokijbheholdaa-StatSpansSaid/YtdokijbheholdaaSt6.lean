/- Counts: the entries, copied. Conditions: none. -/
import Derived.Test.YtdokijbheholdaaSt5
import Derived.Test.YtdokijbheholdaaAmOwn
set_option linter.unusedVariables false
set_option linter.unusedSimpArgs false
set_option maxRecDepth 100000
namespace Go.AM
open Go.Proofs
structure ThSt where
  i : Nat
  q : SV
  h : List AO
theorem splice_def (cs : List SV) (o : Nat) (new : List SV) : splice cs o new = cs.take o ++ new ++ cs.drop (o + new.length) := nrfl rfl
theorem take_snocT {α : Type} (l : List α) (i : Nat) (x : α) (h : l[i]? = some x) : l.take (i + 1) = l.take i ++ [x] := by
  rw [List.take_add_one, h]; rfl
-- LENS: EnV.len
set_option maxHeartbeats 2000000 in
theorem s40 {P : Program} {T : Tab} {K d : Nat} (S : Sd P T K) (hd : 1 ≤ d) (q : SV) (l : List EnV) (hl : l.length ≤ 300) (lk : Nat) (h : List AO) (hlk : lk ≤ h.length) (hq : Rs EnV.cells 13 h q l) :
    Ends (fun v h' => Ext1 h h' ∧ ∃ q', v = .v (.sc q') ∧ Own 101 13 h.length h' q' (recs EnV.cells l)) (ev P T K d 40 [.sc q] lk h) := by
  obtain ⟨d, rfl⟩ : ∃ k, d = k + 1 := ⟨d - 1, by omega⟩
  rw [ev_run (at40 S.t)]
  unfold i40 Try.f40
  have hlen := hq.len (un61 S.p)
  simp (maxSteps := 1000000) (disch := first | omega | (simp (disch := first | omega | (simp only [EnV.len, List.length_append, List.length_cons, List.length_nil, List.length_set]; first | done | omega)) only [EnV.len, amSide, Int.reduceToNat, Nat.reducePow, Nat.reduceMul]; first | done | omega)) only  [↓amPre, amPost, ↓s_lit', Nat.reduceAdd, Nat.reduceSub, List.replicate, retA, resultsA, resultA, toC, toCL, Nat.reduceEqDiff, (ze74 S.p), (ze78 S.p), append_at (un65 S.p) (sz101 S.p) (by101 S.p) (ze101 S.p) (by decide) (by decide) rfl, sl_cells (sz101 S.p), (bu101 S.p), (bu99 S.p), lit_fill (un65 S.p) (sz101 S.p) (ze101 S.p), (fa74_0 S.p), (fa74_1 S.p), (fa74_2 S.p), (fa74_3 S.p), (fa74_4 S.p), (fa78_0 S.p), (fa78_1 S.p), (fa78_2 S.p), (fa78_3 S.p), (fa78_4 S.p), (fa78_5 S.p), (fa78_6 S.p), iaddr_sl (un61 S.p) (sz78 S.p), len_sl (un61 S.p), len_nils (un61 S.p), part_sc (ag3 S.p), part_all (ag74 S.p) (sz74 S.p), part_at (ag74 S.p) (sz74 S.p), part_all (ag76 S.p) (sz76 S.p), part_at (ag76 S.p) (sz76 S.p), part_all (ag78 S.p) (sz78 S.p), part_at (ag78 S.p) (sz78 S.p), store_last (sz74 S.p), (sz74 S.p), store_last (sz78 S.p), (sz78 S.p), hlen]
  refine ends_loop (X := ThSt) ⟨0, .nils, h⟩ [5, 6, 10, 11, 12, 13, 14, 15, 16, 17, 18, 19, 20, 21, 22, 23, 24, 25, 26, 27, 28, 29, 30, 31, 32, 33, 34, 35, 36, 37, 38, 39, 40, 41, 42] (fun x => x.i ≤ l.length ∧ Ext1 h x.h ∧ Own 101 13 h.length x.h x.q (recs EnV.cells (l.take x.i))) (fun x => l.length - x.i)
    (fun x e => (e.set 3 (.v (.sc x.q))).set 9 (.v (.sc (.int .i64 x.i)))) (fun x => x.h)
    (by have := S.k; show _ < K; simp only; omega) ⟨by simp only; omega, Ext1.refl _, Own.nil _ _ _ _⟩ rfl rfl ?_
  rintro ⟨i, qo, hj⟩ ⟨hi, hx, ho⟩ again hag e he
  simp only at hi hx ho hag he
  simp only [↓amPre, amPost, ↓s_lit', Nat.reduceAdd, Nat.reduceSub, List.replicate, retA, resultsA, resultA, toC, toCL, Nat.reduceEqDiff] at he
  simp only [↓amPre, amPost, ↓s_lit', Nat.reduceAdd, Nat.reduceSub, List.replicate, retA, resultsA, resultA, toC, toCL, Nat.reduceEqDiff, he]
  refine ends_cond (fun hc1 => ?_) (fun hc1 => ?_)
  · simp only [decide_eq_true_eq] at hc1
    have hio : i < l.length := by omega
    obtain ⟨b, rfl, hb, hc⟩ := (hq.ext hx).at (by omega)
    obtain ⟨x, hxi⟩ : ∃ x, l[i]? = some x := ⟨_, List.getElem?_eq_getElem hio⟩
    have hpt := recs_part (ag78 S.p) (sz78 S.p) EnV.len hxi
    have hle := hx.len
    have hO2 := ((ho.push (.rw 78 x.cells)).push (.rw 74 [.int .i64 x.e, .int .i64 x.f, .int .i64 x.g, .int .i64 x.h, .int .i64 x.i])).push (.rw 101 x.cells)
    obtain ⟨q2, h2, happ, hown, hl2, _, hx2, _⟩ := grow_own (b := 104) (lk := lk) hO2 x.cells (by omega) (by rw [EnV.len]; omega) (by rw [EnV.len]) (by omega) (by simp; omega) (by rw [recs_len EnV.len, EnV.len]; have := List.length_take_le i l; omega)
    have hx3 := hx2 h (((hx.push (.rw 78 x.cells)).push (.rw 74 [.int .i64 x.e, .int .i64 x.f, .int .i64 x.g, .int .i64 x.h, .int .i64 x.i])).push (.rw 101 x.cells)) (Nat.le_refl _)
    rw [recs_snoc, ← take_snocT l i x hxi] at hown
    simp only [EnV.cells] at happ hpt
    clear hO2 ho
    simp (maxSteps := 1000000) (disch := first | omega | (simp (disch := first | omega | (simp only [EnV.len, List.length_append, List.length_cons, List.length_nil, List.length_set]; first | done | omega)) only [EnV.len, amSide, Int.reduceToNat, Nat.reducePow, Nat.reduceMul]; first | done | omega)) only  [↓amPre, amPost, ↓s_lit', Nat.reduceAdd, Nat.reduceSub, List.replicate, retA, resultsA, resultA, toC, toCL, Nat.reduceEqDiff, he, (ze74 S.p), (ze78 S.p), append_at (un65 S.p) (sz101 S.p) (by101 S.p) (ze101 S.p) (by decide) (by decide) rfl, sl_cells (sz101 S.p), (bu101 S.p), (bu99 S.p), lit_fill (un65 S.p) (sz101 S.p) (ze101 S.p), (fa74_0 S.p), (fa74_1 S.p), (fa74_2 S.p), (fa74_3 S.p), (fa74_4 S.p), (fa78_0 S.p), (fa78_1 S.p), (fa78_2 S.p), (fa78_3 S.p), (fa78_4 S.p), (fa78_5 S.p), (fa78_6 S.p), iaddr_sl (un61 S.p) (sz78 S.p), len_sl (un61 S.p), len_nils (un61 S.p), part_sc (ag3 S.p), part_all (ag74 S.p) (sz74 S.p), part_at (ag74 S.p) (sz74 S.p), part_all (ag76 S.p) (sz76 S.p), part_at (ag76 S.p) (sz76 S.p), part_all (ag78 S.p) (sz78 S.p), part_at (ag78 S.p) (sz78 S.p), store_last (sz74 S.p), (sz74 S.p), store_last (sz78 S.p), (sz78 S.p), idx_ok, hc, hpt, cells_self, cells_other, EnV.cells, happ, splice_def, List.flatten_cons, List.flatten_nil, List.append_nil, Nat.one_mul, Nat.zero_mul, Int.toNat_natCast, Nat.zero_add, wrap_i64]
    refine hag ⟨i + 1, q2, h2⟩ ⟨hio, hx3, hown⟩ (by simp only; omega) _ ?_
    simp (maxSteps := 1000000) (disch := first | omega | (simp (disch := first | omega | (simp only [EnV.len, List.length_append, List.length_cons, List.length_nil, List.length_set]; first | done | omega)) only [EnV.len, amSide, Int.reduceToNat, Nat.reducePow, Nat.reduceMul]; first | done | omega)) only [↓amPre, amPost, ↓s_lit', Nat.reduceAdd, Nat.reduceSub, List.replicate, retA, resultsA, resultA, toC, toCL, Nat.reduceEqDiff, Int.natCast_add, Int.cast_ofNat_Int, dec_t, dec_f]
  · simp only [decide_eq_false_iff_not] at hc1
    obtain rfl : i = l.length := by omega
    rw [List.take_length] at ho
    simp (maxSteps := 1000000) (disch := first | omega | (simp (disch := first | omega | (simp only [EnV.len, List.length_append, List.length_cons, List.length_nil, List.length_set]; first | done | omega)) only [EnV.len, amSide, Int.reduceToNat, Nat.reducePow, Nat.reduceMul]; first | done | omega)) only  [↓amPre, amPost, ↓s_lit', Nat.reduceAdd, Nat.reduceSub, List.replicate, retA, resultsA, resultA, toC, toCL, Nat.reduceEqDiff, he, (ze74 S.p), (ze78 S.p), append_at (un65 S.p) (sz101 S.p) (by101 S.p) (ze101 S.p) (by decide) (by decide) rfl, sl_cells (sz101 S.p), (bu101 S.p), (bu99 S.p), lit_fill (un65 S.p) (sz101 S.p) (ze101 S.p), (fa74_0 S.p), (fa74_1 S.p), (fa74_2 S.p), (fa74_3 S.p), (fa74_4 S.p), (fa78_0 S.p), (fa78_1 S.p), (fa78_2 S.p), (fa78_3 S.p), (fa78_4 S.p), (fa78_5 S.p), (fa78_6 S.p), iaddr_sl (un61 S.p) (sz78 S.p), len_sl (un61 S.p), len_nils (un61 S.p), part_sc (ag3 S.p), part_all (ag74 S.p) (sz74 S.p), part_at (ag74 S.p) (sz74 S.p), part_all (ag76 S.p) (sz76 S.p), part_at (ag76 S.p) (sz76 S.p), part_all (ag78 S.p) (sz78 S.p), part_at (ag78 S.p) (sz78 S.p), store_last (sz74 S.p), (sz74 S.p), store_last (sz78 S.p), (sz78 S.p)]
    exact Ends.some ⟨hx, qo, rfl, ho⟩
end Go.AM
