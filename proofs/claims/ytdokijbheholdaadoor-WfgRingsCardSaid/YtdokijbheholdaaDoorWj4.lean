/- Waiting graphs: who is reached, by the document. Conditions: none. -/
import Derived.Test.YtdokijbheholdaaDoorWj3
set_option linter.unusedVariables false
set_option linter.unusedSimpArgs false
set_option maxRecDepth 100000
namespace Go.AM
open Go.Proofs Go.Lib
-- LENS: gC_len, Edg.len, ixC_len, wC_len, bC_len
structure ThX where
  i : Nat
  m : Nat → Bool
  h : List AO
theorem flt_succ (m : Nat → Bool) (n : Nat) : (List.range (n + 1)).filter m = if m n = true then (List.range n).filter m ++ [n] else (List.range n).filter m := by
  rw [List.range_succ, List.filter_append]
  cases q : m n <;> simp [List.filter_cons, q]
theorem bz : (bC fun _ => false) = List.replicate 64 (SV.bool false) := by
  unfold bC
  rw [List.map_const', List.length_range]
set_option maxHeartbeats 8000000 in
theorem s21 {P : Program} {T : Tab} {K d : Nat} (S : Sd P T K) (hd : 1 ≤ d) {p : Nat} {q : SV} {L : List Edg} (hL : L.length ≤ 200) (hv : ∀ e ∈ L, 0 ≤ e.f ∧ e.f < 64 ∧ 0 ≤ e.t ∧ e.t < 64) (s : Int) (lk : Nat) (h : List AO) (hlk : lk ≤ h.length) (hpl : p < h.length) (hp : cellsAt h p = some [q]) (hq : Rs Edg.cells 2 h q L) :
    Ends (fun v h' => Ext1 h h' ∧ ∃ q', v = .v (.sc q') ∧ Rs ixC 1 h' q' (rchL L s)) (ev P T K d 21 [.sc (.ptr p 0), .sc (.int .i64 s)] lk h) := by
  obtain ⟨d, rfl⟩ : ∃ k, d = k + 1 := ⟨d - 1, by omega⟩
  rw [ev_run (at21 S.t), ← mR_rch L s hv]
  unfold i21 Tryd.f21
  have hlen := hq.len (un22 S.p)
  have g0 : ([q] : List SV)[0]? = some q := rfl
  simp (maxSteps := 1000000) (disch := first | omega | (simp (disch := first | omega | (simp only [gC_len, Edg.len, ixC_len, wC_len, bC_len, List.length_append, List.length_cons, List.length_nil, List.length_set]; first | done | omega)) only [gC_len, Edg.len, ixC_len, wC_len, bC_len, amSide, Int.reduceToNat, Nat.reducePow, Nat.reduceMul]; first | done | omega)) only  [↓amPre, amPost, ↓s_lit', Nat.reduceAdd, Nat.reduceSub, List.replicate, retA, resultsA, resultA, toC, toCL, Nat.reduceEqDiff, (ze28 S.p), (ze59 S.p), append_at (un35 S.p) (sz3 S.p) (by3 S.p) (ze3 S.p) (by decide) (by decide) rfl, copy_at (un35 S.p) (sz3 S.p) (by3 S.p) (ze3 S.p) (by decide) (by decide) rfl, sl_cells (sz3 S.p), lit_fill (un35 S.p) (sz3 S.p) (ze3 S.p), (fa26_0 S.p), (fa28_0 S.p), (fa28_1 S.p), iaddr_sl (un22 S.p) (sz28 S.p), iaddr_ptr (un59 S.p) (sz4 S.p), len_sl (un22 S.p), len_nils (un22 S.p), part_sc (ag22 S.p), part_all (ag28 S.p) (sz28 S.p), part_at (ag28 S.p) (sz28 S.p), part_sc (ag3 S.p), part_sc (ag4 S.p), store_last (sz28 S.p), (sz28 S.p), store_last (sz4 S.p), (sz4 S.p)]
  refine ends_loop (X := ThX) ⟨0, fun _ => false, h ++ [.rw 59 (bC fun _ => false)]⟩ [7, 8, 11, 12, 13, 14, 15, 16, 17, 18, 19, 20, 21, 22, 23, 24, 25, 26, 27, 28, 29, 30, 31, 32, 33, 34, 35, 36, 37, 38, 39, 40, 41, 42, 43]
    (fun x => x.i ≤ 64 ∧ Ext1 h x.h ∧ h.length < x.h.length ∧ x.h[h.length]? = some (.rw 59 (bC x.m)) ∧ x.m = mR L s x.i) (fun x => 64 - x.i)
    (fun x e => e.set 6 (.v (.sc (.int .i64 x.i)))) (fun x => x.h)
    (by have := S.k; show _ < K; simp only; omega) ⟨by simp only; omega, (Ext1.refl h).push _, by simp, by simp, rfl⟩ rfl (by rw [bz]; rfl) ?_
  rintro ⟨r, m, hj⟩ ⟨hr, hx, hlt, hm, hmr⟩ again hag e he
  simp only at hr hx hlt hm hmr hag he
  simp only [↓amPre, amPost, ↓s_lit', Nat.reduceAdd, Nat.reduceSub, List.replicate, retA, resultsA, resultA, toC, toCL, Nat.reduceEqDiff] at he
  simp only [↓amPre, amPost, ↓s_lit', Nat.reduceAdd, Nat.reduceSub, List.replicate, retA, resultsA, resultA, toC, toCL, Nat.reduceEqDiff, he]
  refine ends_cond (fun hc1 => ?_) (fun hc1 => ?_)
  · simp only [decide_eq_true_eq] at hc1
    simp (maxSteps := 1000000) (disch := first | omega | (simp (disch := first | omega | (simp only [gC_len, Edg.len, ixC_len, wC_len, bC_len, List.length_append, List.length_cons, List.length_nil, List.length_set]; first | done | omega)) only [gC_len, Edg.len, ixC_len, wC_len, bC_len, amSide, Int.reduceToNat, Nat.reducePow, Nat.reduceMul]; first | done | omega)) only  [↓amPre, amPost, ↓s_lit', Nat.reduceAdd, Nat.reduceSub, List.replicate, retA, resultsA, resultA, toC, toCL, Nat.reduceEqDiff, he, (ze28 S.p), (ze59 S.p), append_at (un35 S.p) (sz3 S.p) (by3 S.p) (ze3 S.p) (by decide) (by decide) rfl, copy_at (un35 S.p) (sz3 S.p) (by3 S.p) (ze3 S.p) (by decide) (by decide) rfl, sl_cells (sz3 S.p), lit_fill (un35 S.p) (sz3 S.p) (ze3 S.p), (fa26_0 S.p), (fa28_0 S.p), (fa28_1 S.p), iaddr_sl (un22 S.p) (sz28 S.p), iaddr_ptr (un59 S.p) (sz4 S.p), len_sl (un22 S.p), len_nils (un22 S.p), part_sc (ag22 S.p), part_all (ag28 S.p) (sz28 S.p), part_at (ag28 S.p) (sz28 S.p), part_sc (ag3 S.p), part_sc (ag4 S.p), store_last (sz28 S.p), (sz28 S.p), store_last (sz4 S.p), (sz4 S.p)]
    refine ends_loop (X := ThX) ⟨0, m, hj⟩ [8, 15, 16, 17, 18, 19, 20, 21, 22, 23, 24, 25, 26, 27, 28, 29, 30, 31, 32, 33, 34, 35, 36, 37, 38, 39, 40, 41, 42, 43]
      (fun x => x.i ≤ L.length ∧ Ext1 h x.h ∧ h.length < x.h.length ∧ x.h[h.length]? = some (.rw 59 (bC x.m)) ∧ x.m = (L.take x.i).foldl (stM s) m) (fun x => L.length - x.i)
      (fun x e => e.set 7 (.v (.sc (.int .i64 x.i)))) (fun x => x.h)
      (by have := S.k; show _ < K; simp only; omega) ⟨by simp only; omega, hx, hlt, hm, rfl⟩ rfl rfl ?_
    clear hx hlt hm he
    rintro ⟨j, m2, h2⟩ ⟨hj2, hx, hlt, hm, hm2⟩ again2 hag2 e2 he2
    simp only at hj2 hx hlt hm hm2 hag2 he2
    simp only [↓amPre, amPost, ↓s_lit', Nat.reduceAdd, Nat.reduceSub, List.replicate, retA, resultsA, resultA, toC, toCL, Nat.reduceEqDiff] at he2
    have hpj : cellsAt h2 p = some [q] := by rw [hx.cells hpl]; exact hp
    simp (maxSteps := 1000000) (disch := first | omega | (simp (disch := first | omega | (simp only [gC_len, Edg.len, ixC_len, wC_len, bC_len, List.length_append, List.length_cons, List.length_nil, List.length_set]; first | done | omega)) only [gC_len, Edg.len, ixC_len, wC_len, bC_len, amSide, Int.reduceToNat, Nat.reducePow, Nat.reduceMul]; first | done | omega)) only  [↓amPre, amPost, ↓s_lit', Nat.reduceAdd, Nat.reduceSub, List.replicate, retA, resultsA, resultA, toC, toCL, Nat.reduceEqDiff, he2, (ze28 S.p), (ze59 S.p), append_at (un35 S.p) (sz3 S.p) (by3 S.p) (ze3 S.p) (by decide) (by decide) rfl, copy_at (un35 S.p) (sz3 S.p) (by3 S.p) (ze3 S.p) (by decide) (by decide) rfl, sl_cells (sz3 S.p), lit_fill (un35 S.p) (sz3 S.p) (ze3 S.p), (fa26_0 S.p), (fa28_0 S.p), (fa28_1 S.p), iaddr_sl (un22 S.p) (sz28 S.p), iaddr_ptr (un59 S.p) (sz4 S.p), len_sl (un22 S.p), len_nils (un22 S.p), part_sc (ag22 S.p), part_all (ag28 S.p) (sz28 S.p), part_at (ag28 S.p) (sz28 S.p), part_sc (ag3 S.p), part_sc (ag4 S.p), store_last (sz28 S.p), (sz28 S.p), store_last (sz4 S.p), (sz4 S.p), hpj, g0, hlen, Nat.add_zero]
    refine ends_cond (fun hc2 => ?_) (fun hc2 => ?_)
    · simp only [decide_eq_true_eq] at hc2
      obtain ⟨b, rfl, hb, hc⟩ := hq.at (by omega)
      obtain ⟨y, hy⟩ : ∃ y, L[j]? = some y := ⟨_, List.getElem?_eq_getElem (by omega)⟩
      obtain ⟨v1, v2, v3, v4⟩ := hv y (List.mem_of_getElem? hy)
      have hpt := recs_part (ag28 S.p) (sz28 S.p) Edg.len hy
      have hcj : cellsAt h2 b = some (recs Edg.cells L) := by rw [hx.cells hb]; exact hc
      have y0 := Edg.c0 y
      have y1 := Edg.c1 y
      have gm : (h2 ++ [AO.rw 28 y.cells])[h.length]? = some (.rw 59 (bC m2)) := by rw [List.getElem?_append_left hlt]; exact hm
      have cm : cellsAt (h2 ++ [AO.rw 28 y.cells]) h.length = some (bC m2) := by unfold cellsAt; rw [gm]
      have bf := bC_at m2 (show y.f.toNat < 64 by omega)
      have st := store_cell (sz4 S.p) (lk := lk) gm hlk y.t.toNat (by rw [bC_len]; omega) (.bool true)
      rw [bC_set] at st
      have hsn : (L.take (j + 1)).foldl (stM s) m = stM s m2 y := by rw [List.take_add_one, hy, List.foldl_append, ← hm2]; rfl
      have hyes : (y.f == s || m2 y.f.toNat) = true → (L.take (j + 1)).foldl (stM s) m = updB m2 y.t.toNat := fun z => by rw [hsn]; unfold stM; rw [if_pos z]
      have hno : (y.f == s || m2 y.f.toNat) = false → (L.take (j + 1)).foldl (stM s) m = m2 := fun z => by rw [hsn]; unfold stM; rw [if_neg (by simp [z])]
      have go1 := fun z => hag2 ⟨j + 1, updB m2 y.t.toNat, (h2 ++ [AO.rw 28 y.cells]).set h.length (.rw 59 (bC (updB m2 y.t.toNat)))⟩
        ⟨by simp only; omega, (hx.push _).set (Nat.le_refl _) _, by simp; omega, List.getElem?_set_self (by simp; omega), (hyes z).symm⟩ (by simp only; omega)
      have go2 := fun z => hag2 ⟨j + 1, m2, h2 ++ [AO.rw 28 y.cells]⟩ ⟨by simp only; omega, hx.push _, by simp; omega, gm, (hno z).symm⟩ (by simp only; omega)
      clear hag2 hag hyes hno hsn hm2 hmr
      by_cases c1 : y.f = s
      · have := go1 (by simp [c1])
        clear go1 go2
        simp (maxSteps := 1000000) (disch := first | omega | (simp (disch := first | omega | (simp only [gC_len, Edg.len, ixC_len, wC_len, bC_len, List.length_append, List.length_cons, List.length_nil, List.length_set]; first | done | omega)) only [gC_len, Edg.len, ixC_len, wC_len, bC_len, amSide, Int.reduceToNat, Nat.reducePow, Nat.reduceMul]; first | done | omega)) only  [↓amPre, amPost, ↓s_lit', Nat.reduceAdd, Nat.reduceSub, List.replicate, retA, resultsA, resultA, toC, toCL, Nat.reduceEqDiff, he2, (ze28 S.p), (ze59 S.p), append_at (un35 S.p) (sz3 S.p) (by3 S.p) (ze3 S.p) (by decide) (by decide) rfl, copy_at (un35 S.p) (sz3 S.p) (by3 S.p) (ze3 S.p) (by decide) (by decide) rfl, sl_cells (sz3 S.p), lit_fill (un35 S.p) (sz3 S.p) (ze3 S.p), (fa26_0 S.p), (fa28_0 S.p), (fa28_1 S.p), iaddr_sl (un22 S.p) (sz28 S.p), iaddr_ptr (un59 S.p) (sz4 S.p), len_sl (un22 S.p), len_nils (un22 S.p), part_sc (ag22 S.p), part_all (ag28 S.p) (sz28 S.p), part_at (ag28 S.p) (sz28 S.p), part_sc (ag3 S.p), part_sc (ag4 S.p), store_last (sz28 S.p), (sz28 S.p), store_last (sz4 S.p), (sz4 S.p), hpj, g0, idx_ok, hcj, hpt, y0, y1, st, beqI_t, cells_self, Int.toNat_natCast, Nat.mul_one, Nat.zero_add, wrap_i64]
        refine this _ ?_
        simp (maxSteps := 1000000) (disch := first | omega | (simp (disch := first | omega | (simp only [gC_len, Edg.len, ixC_len, wC_len, bC_len, List.length_append, List.length_cons, List.length_nil, List.length_set]; first | done | omega)) only [gC_len, Edg.len, ixC_len, wC_len, bC_len, amSide, Int.reduceToNat, Nat.reducePow, Nat.reduceMul]; first | done | omega)) only [↓amPre, amPost, ↓s_lit', Nat.reduceAdd, Nat.reduceSub, List.replicate, retA, resultsA, resultA, toC, toCL, Nat.reduceEqDiff, Int.natCast_add, Int.cast_ofNat_Int, dec_t, dec_f]
      · cases c2 : m2 y.f.toNat with
        | true =>
          have := go1 (by simp [c2])
          rw [c2] at bf
          clear go1 go2
          simp (maxSteps := 1000000) (disch := first | omega | (simp (disch := first | omega | (simp only [gC_len, Edg.len, ixC_len, wC_len, bC_len, List.length_append, List.length_cons, List.length_nil, List.length_set]; first | done | omega)) only [gC_len, Edg.len, ixC_len, wC_len, bC_len, amSide, Int.reduceToNat, Nat.reducePow, Nat.reduceMul]; first | done | omega)) only  [↓amPre, amPost, ↓s_lit', Nat.reduceAdd, Nat.reduceSub, List.replicate, retA, resultsA, resultA, toC, toCL, Nat.reduceEqDiff, he2, (ze28 S.p), (ze59 S.p), append_at (un35 S.p) (sz3 S.p) (by3 S.p) (ze3 S.p) (by decide) (by decide) rfl, copy_at (un35 S.p) (sz3 S.p) (by3 S.p) (ze3 S.p) (by decide) (by decide) rfl, sl_cells (sz3 S.p), lit_fill (un35 S.p) (sz3 S.p) (ze3 S.p), (fa26_0 S.p), (fa28_0 S.p), (fa28_1 S.p), iaddr_sl (un22 S.p) (sz28 S.p), iaddr_ptr (un59 S.p) (sz4 S.p), len_sl (un22 S.p), len_nils (un22 S.p), part_sc (ag22 S.p), part_all (ag28 S.p) (sz28 S.p), part_at (ag28 S.p) (sz28 S.p), part_sc (ag3 S.p), part_sc (ag4 S.p), store_last (sz28 S.p), (sz28 S.p), store_last (sz4 S.p), (sz4 S.p), hpj, g0, idx_ok, hcj, hpt, y0, y1, cm, bf, st, beqI_f, cells_self, Int.toNat_natCast, Nat.mul_one, Nat.zero_add, wrap_i64]
          refine this _ ?_
          simp (maxSteps := 1000000) (disch := first | omega | (simp (disch := first | omega | (simp only [gC_len, Edg.len, ixC_len, wC_len, bC_len, List.length_append, List.length_cons, List.length_nil, List.length_set]; first | done | omega)) only [gC_len, Edg.len, ixC_len, wC_len, bC_len, amSide, Int.reduceToNat, Nat.reducePow, Nat.reduceMul]; first | done | omega)) only [↓amPre, amPost, ↓s_lit', Nat.reduceAdd, Nat.reduceSub, List.replicate, retA, resultsA, resultA, toC, toCL, Nat.reduceEqDiff, Int.natCast_add, Int.cast_ofNat_Int, dec_t, dec_f]
        | false =>
          have := go2 (by simp [c1, c2])
          rw [c2] at bf
          clear go1 go2
          simp (maxSteps := 1000000) (disch := first | omega | (simp (disch := first | omega | (simp only [gC_len, Edg.len, ixC_len, wC_len, bC_len, List.length_append, List.length_cons, List.length_nil, List.length_set]; first | done | omega)) only [gC_len, Edg.len, ixC_len, wC_len, bC_len, amSide, Int.reduceToNat, Nat.reducePow, Nat.reduceMul]; first | done | omega)) only  [↓amPre, amPost, ↓s_lit', Nat.reduceAdd, Nat.reduceSub, List.replicate, retA, resultsA, resultA, toC, toCL, Nat.reduceEqDiff, he2, (ze28 S.p), (ze59 S.p), append_at (un35 S.p) (sz3 S.p) (by3 S.p) (ze3 S.p) (by decide) (by decide) rfl, copy_at (un35 S.p) (sz3 S.p) (by3 S.p) (ze3 S.p) (by decide) (by decide) rfl, sl_cells (sz3 S.p), lit_fill (un35 S.p) (sz3 S.p) (ze3 S.p), (fa26_0 S.p), (fa28_0 S.p), (fa28_1 S.p), iaddr_sl (un22 S.p) (sz28 S.p), iaddr_ptr (un59 S.p) (sz4 S.p), len_sl (un22 S.p), len_nils (un22 S.p), part_sc (ag22 S.p), part_all (ag28 S.p) (sz28 S.p), part_at (ag28 S.p) (sz28 S.p), part_sc (ag3 S.p), part_sc (ag4 S.p), store_last (sz28 S.p), (sz28 S.p), store_last (sz4 S.p), (sz4 S.p), hpj, g0, idx_ok, hcj, hpt, y0, y1, cm, bf, beqI_f, cells_self, Int.toNat_natCast, Nat.mul_one, Nat.zero_add, wrap_i64]
          refine this _ ?_
          simp (maxSteps := 1000000) (disch := first | omega | (simp (disch := first | omega | (simp only [gC_len, Edg.len, ixC_len, wC_len, bC_len, List.length_append, List.length_cons, List.length_nil, List.length_set]; first | done | omega)) only [gC_len, Edg.len, ixC_len, wC_len, bC_len, amSide, Int.reduceToNat, Nat.reducePow, Nat.reduceMul]; first | done | omega)) only [↓amPre, amPost, ↓s_lit', Nat.reduceAdd, Nat.reduceSub, List.replicate, retA, resultsA, resultA, toC, toCL, Nat.reduceEqDiff, Int.natCast_add, Int.cast_ofNat_Int, dec_t, dec_f]
    · simp only [decide_eq_false_iff_not] at hc2
      obtain rfl : j = L.length := by omega
      clear hag2
      simp (maxSteps := 1000000) (disch := first | omega | (simp (disch := first | omega | (simp only [gC_len, Edg.len, ixC_len, wC_len, bC_len, List.length_append, List.length_cons, List.length_nil, List.length_set]; first | done | omega)) only [gC_len, Edg.len, ixC_len, wC_len, bC_len, amSide, Int.reduceToNat, Nat.reducePow, Nat.reduceMul]; first | done | omega)) only  [↓amPre, amPost, ↓s_lit', Nat.reduceAdd, Nat.reduceSub, List.replicate, retA, resultsA, resultA, toC, toCL, Nat.reduceEqDiff, he2, (ze28 S.p), (ze59 S.p), append_at (un35 S.p) (sz3 S.p) (by3 S.p) (ze3 S.p) (by decide) (by decide) rfl, copy_at (un35 S.p) (sz3 S.p) (by3 S.p) (ze3 S.p) (by decide) (by decide) rfl, sl_cells (sz3 S.p), lit_fill (un35 S.p) (sz3 S.p) (ze3 S.p), (fa26_0 S.p), (fa28_0 S.p), (fa28_1 S.p), iaddr_sl (un22 S.p) (sz28 S.p), iaddr_ptr (un59 S.p) (sz4 S.p), len_sl (un22 S.p), len_nils (un22 S.p), part_sc (ag22 S.p), part_all (ag28 S.p) (sz28 S.p), part_at (ag28 S.p) (sz28 S.p), part_sc (ag3 S.p), part_sc (ag4 S.p), store_last (sz28 S.p), (sz28 S.p), store_last (sz4 S.p), (sz4 S.p), wrap_i64]
      refine hag ⟨r + 1, m2, h2⟩ ⟨by simp only; omega, hx, hlt, hm, ?_⟩ (by simp only; omega) _ ?_
      · simp only
        rw [hm2, List.take_length, hmr, ← mR_succ]
      · simp (maxSteps := 1000000) (disch := first | omega | (simp (disch := first | omega | (simp only [gC_len, Edg.len, ixC_len, wC_len, bC_len, List.length_append, List.length_cons, List.length_nil, List.length_set]; first | done | omega)) only [gC_len, Edg.len, ixC_len, wC_len, bC_len, amSide, Int.reduceToNat, Nat.reducePow, Nat.reduceMul]; first | done | omega)) only [↓amPre, amPost, ↓s_lit', Nat.reduceAdd, Nat.reduceSub, List.replicate, retA, resultsA, resultA, toC, toCL, Nat.reduceEqDiff, Int.natCast_add, Int.cast_ofNat_Int, dec_t, dec_f]
  · simp only [decide_eq_false_iff_not] at hc1
    obtain rfl : r = 64 := by omega
    clear hag
    rw [← hmr]
    simp (maxSteps := 1000000) (disch := first | omega | (simp (disch := first | omega | (simp only [gC_len, Edg.len, ixC_len, wC_len, bC_len, List.length_append, List.length_cons, List.length_nil, List.length_set]; first | done | omega)) only [gC_len, Edg.len, ixC_len, wC_len, bC_len, amSide, Int.reduceToNat, Nat.reducePow, Nat.reduceMul]; first | done | omega)) only  [↓amPre, amPost, ↓s_lit', Nat.reduceAdd, Nat.reduceSub, List.replicate, retA, resultsA, resultA, toC, toCL, Nat.reduceEqDiff, he, (ze28 S.p), (ze59 S.p), append_at (un35 S.p) (sz3 S.p) (by3 S.p) (ze3 S.p) (by decide) (by decide) rfl, copy_at (un35 S.p) (sz3 S.p) (by3 S.p) (ze3 S.p) (by decide) (by decide) rfl, sl_cells (sz3 S.p), lit_fill (un35 S.p) (sz3 S.p) (ze3 S.p), (fa26_0 S.p), (fa28_0 S.p), (fa28_1 S.p), iaddr_sl (un22 S.p) (sz28 S.p), iaddr_ptr (un59 S.p) (sz4 S.p), len_sl (un22 S.p), len_nils (un22 S.p), part_sc (ag22 S.p), part_all (ag28 S.p) (sz28 S.p), part_at (ag28 S.p) (sz28 S.p), part_sc (ag3 S.p), part_sc (ag4 S.p), store_last (sz28 S.p), (sz28 S.p), store_last (sz4 S.p), (sz4 S.p)]
    refine ends_loop (X := ThQ) ⟨0, .nils, hj⟩ [44, 45, 46, 47, 48, 49, 50, 51, 52, 53, 54] (fun x => x.i ≤ 64 ∧ Ext1 hj x.h ∧ Own 3 1 hj.length x.h x.q (recs ixC ((List.range x.i).filter m))) (fun x => 64 - x.i)
      (fun x e => (e.set 9 (.v (.sc x.q))).set 10 (.v (.sc (.int .i64 x.i)))) (fun x => x.h)
      (by have := S.k; show _ < K; simp only; omega) ⟨by simp only; omega, Ext1.refl hj, Own.nil _ _ _ _⟩ rfl rfl ?_
    clear he
    have hle := hx.len
    rintro ⟨i, qi, h2⟩ ⟨hi, hx2, ho⟩ again2 hag2 e2 he2
    simp only at hi hx2 ho hag2 he2
    simp only [↓amPre, amPost, ↓s_lit', Nat.reduceAdd, Nat.reduceSub, List.replicate, retA, resultsA, resultA, toC, toCL, Nat.reduceEqDiff] at he2
    simp only [↓amPre, amPost, ↓s_lit', Nat.reduceAdd, Nat.reduceSub, List.replicate, retA, resultsA, resultA, toC, toCL, Nat.reduceEqDiff, he2]
    have hle2 := hx2.len
    refine ends_cond (fun hc2 => ?_) (fun hc2 => ?_)
    · simp only [decide_eq_true_eq] at hc2
      have cm : cellsAt h2 h.length = some (bC m) := by rw [hx2.cells hlt]; unfold cellsAt; rw [hm]
      have bf := bC_at m (show i < 64 by omega)
      have hsu := flt_succ m i
      have hnl : ((List.range i).filter m).length ≤ i := Nat.le_trans (List.length_filter_le _ _) (by simp)
      by_cases hmi : m i = true
      · rw [if_pos hmi] at hsu
        rw [hmi] at bf
        obtain ⟨q2, h3, happ, hown, hl2, _, hx3, _⟩ := grow_own (b := 8) (lk := lk) (ho.push (.rw 3 [.int .i64 (i : Nat)])) [.int .i64 (i : Nat)] (by omega) (by simp) (by simp) (by omega) (by simp; omega) (by rw [recs_len ixC_len]; simp; omega)
        have hx4 := hx3 hj (hx2.push _) (Nat.le_refl _)
        have hcs : ([.int .i64 (i : Nat)] : List SV) = ixC i := rfl
        rw [hcs, recs_snoc, ← hsu] at hown
        simp (maxSteps := 1000000) (disch := first | omega | (simp (disch := first | omega | (simp only [gC_len, Edg.len, ixC_len, wC_len, bC_len, List.length_append, List.length_cons, List.length_nil, List.length_set]; first | done | omega)) only [gC_len, Edg.len, ixC_len, wC_len, bC_len, amSide, Int.reduceToNat, Nat.reducePow, Nat.reduceMul]; first | done | omega)) only  [↓amPre, amPost, ↓s_lit', Nat.reduceAdd, Nat.reduceSub, List.replicate, retA, resultsA, resultA, toC, toCL, Nat.reduceEqDiff, he2, (ze28 S.p), (ze59 S.p), append_at (un35 S.p) (sz3 S.p) (by3 S.p) (ze3 S.p) (by decide) (by decide) rfl, copy_at (un35 S.p) (sz3 S.p) (by3 S.p) (ze3 S.p) (by decide) (by decide) rfl, sl_cells (sz3 S.p), lit_fill (un35 S.p) (sz3 S.p) (ze3 S.p), (fa26_0 S.p), (fa28_0 S.p), (fa28_1 S.p), iaddr_sl (un22 S.p) (sz28 S.p), iaddr_ptr (un59 S.p) (sz4 S.p), len_sl (un22 S.p), len_nils (un22 S.p), part_sc (ag22 S.p), part_all (ag28 S.p) (sz28 S.p), part_at (ag28 S.p) (sz28 S.p), part_sc (ag3 S.p), part_sc (ag4 S.p), store_last (sz28 S.p), (sz28 S.p), store_last (sz4 S.p), (sz4 S.p), idx_ok, cm, bf, happ, cells_self, List.flatten_cons, List.flatten_nil, List.append_nil, Nat.one_mul, Nat.zero_mul, Nat.mul_one, Int.toNat_natCast, splice_one, Nat.zero_add, wrap_i64]
        refine hag2 ⟨i + 1, q2, h3⟩ ⟨by simp only; omega, hx4, hown⟩ (by simp only; omega) _ ?_
        simp (maxSteps := 1000000) (disch := first | omega | (simp (disch := first | omega | (simp only [gC_len, Edg.len, ixC_len, wC_len, bC_len, List.length_append, List.length_cons, List.length_nil, List.length_set]; first | done | omega)) only [gC_len, Edg.len, ixC_len, wC_len, bC_len, amSide, Int.reduceToNat, Nat.reducePow, Nat.reduceMul]; first | done | omega)) only [↓amPre, amPost, ↓s_lit', Nat.reduceAdd, Nat.reduceSub, List.replicate, retA, resultsA, resultA, toC, toCL, Nat.reduceEqDiff, Int.natCast_add, Int.cast_ofNat_Int, dec_t, dec_f]
      · rw [if_neg hmi] at hsu
        have hmf : m i = false := by simpa using hmi
        rw [hmf] at bf
        simp (maxSteps := 1000000) (disch := first | omega | (simp (disch := first | omega | (simp only [gC_len, Edg.len, ixC_len, wC_len, bC_len, List.length_append, List.length_cons, List.length_nil, List.length_set]; first | done | omega)) only [gC_len, Edg.len, ixC_len, wC_len, bC_len, amSide, Int.reduceToNat, Nat.reducePow, Nat.reduceMul]; first | done | omega)) only  [↓amPre, amPost, ↓s_lit', Nat.reduceAdd, Nat.reduceSub, List.replicate, retA, resultsA, resultA, toC, toCL, Nat.reduceEqDiff, he2, (ze28 S.p), (ze59 S.p), append_at (un35 S.p) (sz3 S.p) (by3 S.p) (ze3 S.p) (by decide) (by decide) rfl, copy_at (un35 S.p) (sz3 S.p) (by3 S.p) (ze3 S.p) (by decide) (by decide) rfl, sl_cells (sz3 S.p), lit_fill (un35 S.p) (sz3 S.p) (ze3 S.p), (fa26_0 S.p), (fa28_0 S.p), (fa28_1 S.p), iaddr_sl (un22 S.p) (sz28 S.p), iaddr_ptr (un59 S.p) (sz4 S.p), len_sl (un22 S.p), len_nils (un22 S.p), part_sc (ag22 S.p), part_all (ag28 S.p) (sz28 S.p), part_at (ag28 S.p) (sz28 S.p), part_sc (ag3 S.p), part_sc (ag4 S.p), store_last (sz28 S.p), (sz28 S.p), store_last (sz4 S.p), (sz4 S.p), idx_ok, cm, bf, Nat.mul_one, Int.toNat_natCast, Nat.zero_add, wrap_i64]
        refine hag2 ⟨i + 1, qi, h2⟩ ⟨by simp only; omega, hx2, by simp only [hsu]; exact ho⟩ (by simp only; omega) _ ?_
        simp (maxSteps := 1000000) (disch := first | omega | (simp (disch := first | omega | (simp only [gC_len, Edg.len, ixC_len, wC_len, bC_len, List.length_append, List.length_cons, List.length_nil, List.length_set]; first | done | omega)) only [gC_len, Edg.len, ixC_len, wC_len, bC_len, amSide, Int.reduceToNat, Nat.reducePow, Nat.reduceMul]; first | done | omega)) only [↓amPre, amPost, ↓s_lit', Nat.reduceAdd, Nat.reduceSub, List.replicate, retA, resultsA, resultA, toC, toCL, Nat.reduceEqDiff, Int.natCast_add, Int.cast_ofNat_Int, dec_t, dec_f]
    · simp only [decide_eq_false_iff_not] at hc2
      obtain rfl : i = 64 := by omega
      simp (maxSteps := 1000000) (disch := first | omega | (simp (disch := first | omega | (simp only [gC_len, Edg.len, ixC_len, wC_len, bC_len, List.length_append, List.length_cons, List.length_nil, List.length_set]; first | done | omega)) only [gC_len, Edg.len, ixC_len, wC_len, bC_len, amSide, Int.reduceToNat, Nat.reducePow, Nat.reduceMul]; first | done | omega)) only  [↓amPre, amPost, ↓s_lit', Nat.reduceAdd, Nat.reduceSub, List.replicate, retA, resultsA, resultA, toC, toCL, Nat.reduceEqDiff, he2, (ze28 S.p), (ze59 S.p), append_at (un35 S.p) (sz3 S.p) (by3 S.p) (ze3 S.p) (by decide) (by decide) rfl, copy_at (un35 S.p) (sz3 S.p) (by3 S.p) (ze3 S.p) (by decide) (by decide) rfl, sl_cells (sz3 S.p), lit_fill (un35 S.p) (sz3 S.p) (ze3 S.p), (fa26_0 S.p), (fa28_0 S.p), (fa28_1 S.p), iaddr_sl (un22 S.p) (sz28 S.p), iaddr_ptr (un59 S.p) (sz4 S.p), len_sl (un22 S.p), len_nils (un22 S.p), part_sc (ag22 S.p), part_all (ag28 S.p) (sz28 S.p), part_at (ag28 S.p) (sz28 S.p), part_sc (ag3 S.p), part_sc (ag4 S.p), store_last (sz28 S.p), (sz28 S.p), store_last (sz4 S.p), (sz4 S.p)]
      exact Ends.some ⟨hx.trans hx2, _, rfl, ho.rs (by omega) ixC_len⟩
end Go.AM
