/- Races: the same accesses; all that race, by the document. Conditions: none. -/
import Derived.Test.YtgcgbcdgbfeaaaaRa2
import Derived.Test.YtgcgbcdgbfeaaaaAmOwn
set_option linter.unusedVariables false
set_option linter.unusedSimpArgs false
set_option maxRecDepth 100000
namespace Go.AM
open Go.Proofs
-- LENS: freeL_ck, ck_len, AcV.len, AcV.hk
structure ThA where
  i : Nat
  q : SV
  h : List AO
theorem splice_def (cs : List SV) (o : Nat) (new : List SV) : splice cs o new = cs.take o ++ new ++ cs.drop (o + new.length) := nrfl rfl
theorem take_snocA {α : Type} (l : List α) (i : Nat) (x : α) (h : l[i]? = some x) : l.take (i + 1) = l.take i ++ [x] := by
  rw [List.take_add_one, h]; rfl
set_option maxHeartbeats 4000000 in
theorem s17 {P : Program} {T : Tab} {K d : Nat} (S : Sd P T K) (hd : 1 ≤ d) (q : SV) (l : List AcV) (hl : l.length ≤ 300) (lk : Nat) (h : List AO) (hlk : lk ≤ h.length) (hq : Rs AcV.cells 12 h q l) :
    Ends (fun v h' => Ext1 h h' ∧ ∃ q', v = .v (.sc q') ∧ Own 41 12 h.length h' q' (recs AcV.cells l)) (ev P T K d 17 [.sc q] lk h) := by
  obtain ⟨d, rfl⟩ : ∃ k, d = k + 1 := ⟨d - 1, by omega⟩
  rw [ev_run (at17 S.t)]
  unfold i17 Try.f17
  have hlen := hq.len (un22 S.p)
  simp (maxSteps := 1000000) (disch := first | omega | (simp (disch := first | omega | (simp only [freeL_ck, ck_len, AcV.len, AcV.hk, List.length_append, List.length_cons, List.length_nil, List.length_set]; first | done | omega)) only [freeL_ck, ck_len, AcV.len, AcV.hk, amSide, Int.reduceToNat, Nat.reducePow, Nat.reduceMul]; first | done | omega)) only  [↓amPre, amPost, ↓s_lit', Nat.reduceAdd, Nat.reduceSub, List.replicate, retA, resultsA, resultA, toC, toCL, Nat.reduceEqDiff, (ze131 S.p), append_at (un27 S.p) (sz41 S.p) (by41 S.p) (ze41 S.p) (by decide) (by decide) rfl, sl_cells (sz41 S.p), (bu41 S.p), lit_fill (un27 S.p) (sz41 S.p) (ze41 S.p), (fa131_0 S.p), (fa131_1 S.p), (fa131_2 S.p), (fa131_3 S.p), (fa131_4 S.p), iaddr_sl (un22 S.p) (sz131 S.p), len_sl (un22 S.p), len_nils (un22 S.p), part_all (ag129 S.p) (sz129 S.p), part_at (ag129 S.p) (sz129 S.p), part_all (ag131 S.p) (sz131 S.p), part_at (ag131 S.p) (sz131 S.p), part_sc (ag3 S.p), part_sc (ag39 S.p), part_sc (ag4 S.p), store_last (sz131 S.p), (sz131 S.p), hlen]
  refine ends_loop (X := ThA) ⟨0, .nils, h⟩ [5, 9, 10, 11, 12, 13, 14, 15, 16, 17, 18, 19, 20, 21, 22, 23, 24, 25, 26] (fun x => x.i ≤ l.length ∧ Ext1 h x.h ∧ Own 41 12 h.length x.h x.q (recs AcV.cells (l.take x.i))) (fun x => l.length - x.i)
    (fun x e => (e.set 3 (.v (.sc x.q))).set 8 (.v (.sc (.int .i64 x.i)))) (fun x => x.h)
    (by have := S.k; show _ < K; simp only; omega) ⟨by simp only; omega, Ext1.refl _, Own.nil _ _ _ _⟩ rfl rfl ?_
  rintro ⟨i, qo, hj⟩ ⟨hi, hx, ho⟩ again hag e he
  simp only at hi hx ho hag he
  simp only [↓amPre, amPost, ↓s_lit', Nat.reduceAdd, Nat.reduceSub, List.replicate, retA, resultsA, resultA, toC, toCL, Nat.reduceEqDiff] at he
  simp only [↓amPre, amPost, ↓s_lit', Nat.reduceAdd, Nat.reduceSub, List.replicate, retA, resultsA, resultA, toC, toCL, Nat.reduceEqDiff, he]
  refine ends_cond (fun hc1 => ?_) (fun hc1 => ?_)
  · simp only [decide_eq_true_eq] at hc1
    have hio : i < l.length := by omega
    obtain ⟨b, rfl, hb, hc⟩ := (hq.ext hx).at (by omega)
    obtain ⟨x, hxi⟩ : ∃ x, l[i]? = some x := ⟨_, List.getElem?_eq_getElem hio⟩
    have hpt := recs_part (ag131 S.p) (sz131 S.p) AcV.len hxi
    have hle := hx.len
    obtain ⟨k0, k1, k2, k3, k4, k5, k6, k7, hX⟩ := AcV.lit x
    have hO := ((ho.push (.rw 131 x.cells)).push (.rw 41 x.cells))
    obtain ⟨q2, h2, happ, hown, hl2, _, hx2, _⟩ := grow_own (b := 64) (lk := lk) hO x.cells (by omega) (by rw [AcV.len]; omega) (by rw [AcV.len]) (by omega) (by simp; omega) (by rw [recs_len AcV.len, AcV.len]; have := List.length_take_le i l; omega)
    have hx3 := hx2 h ((hx.push (.rw 131 x.cells)).push (.rw 41 x.cells)) (Nat.le_refl _)
    rw [recs_snoc, ← take_snocA l i x hxi] at hown
    rw [hX] at happ hpt
    clear hO ho
    simp (maxSteps := 1000000) (disch := first | omega | (simp (disch := first | omega | (simp only [freeL_ck, ck_len, AcV.len, AcV.hk, List.length_append, List.length_cons, List.length_nil, List.length_set]; first | done | omega)) only [freeL_ck, ck_len, AcV.len, AcV.hk, amSide, Int.reduceToNat, Nat.reducePow, Nat.reduceMul]; first | done | omega)) only  [↓amPre, amPost, ↓s_lit', Nat.reduceAdd, Nat.reduceSub, List.replicate, retA, resultsA, resultA, toC, toCL, Nat.reduceEqDiff, he, (ze131 S.p), append_at (un27 S.p) (sz41 S.p) (by41 S.p) (ze41 S.p) (by decide) (by decide) rfl, sl_cells (sz41 S.p), (bu41 S.p), lit_fill (un27 S.p) (sz41 S.p) (ze41 S.p), (fa131_0 S.p), (fa131_1 S.p), (fa131_2 S.p), (fa131_3 S.p), (fa131_4 S.p), iaddr_sl (un22 S.p) (sz131 S.p), len_sl (un22 S.p), len_nils (un22 S.p), part_all (ag129 S.p) (sz129 S.p), part_at (ag129 S.p) (sz129 S.p), part_all (ag131 S.p) (sz131 S.p), part_at (ag131 S.p) (sz131 S.p), part_sc (ag3 S.p), part_sc (ag39 S.p), part_sc (ag4 S.p), store_last (sz131 S.p), (sz131 S.p), idx_ok, hc, hpt, cells_self, cells_other, happ, splice_def, List.flatten_cons, List.flatten_nil, List.append_nil, Nat.one_mul, Nat.zero_mul, Int.toNat_natCast, Nat.zero_add, wrap_i64]
    refine hag ⟨i + 1, q2, h2⟩ ⟨hio, hx3, hown⟩ (by simp only; omega) _ ?_
    simp (maxSteps := 1000000) (disch := first | omega | (simp (disch := first | omega | (simp only [freeL_ck, ck_len, AcV.len, AcV.hk, List.length_append, List.length_cons, List.length_nil, List.length_set]; first | done | omega)) only [freeL_ck, ck_len, AcV.len, AcV.hk, amSide, Int.reduceToNat, Nat.reducePow, Nat.reduceMul]; first | done | omega)) only [↓amPre, amPost, ↓s_lit', Nat.reduceAdd, Nat.reduceSub, List.replicate, retA, resultsA, resultA, toC, toCL, Nat.reduceEqDiff, Int.natCast_add, Int.cast_ofNat_Int, dec_t, dec_f]
  · simp only [decide_eq_false_iff_not] at hc1
    obtain rfl : i = l.length := by omega
    rw [List.take_length] at ho
    simp (maxSteps := 1000000) (disch := first | omega | (simp (disch := first | omega | (simp only [freeL_ck, ck_len, AcV.len, AcV.hk, List.length_append, List.length_cons, List.length_nil, List.length_set]; first | done | omega)) only [freeL_ck, ck_len, AcV.len, AcV.hk, amSide, Int.reduceToNat, Nat.reducePow, Nat.reduceMul]; first | done | omega)) only  [↓amPre, amPost, ↓s_lit', Nat.reduceAdd, Nat.reduceSub, List.replicate, retA, resultsA, resultA, toC, toCL, Nat.reduceEqDiff, he, (ze131 S.p), append_at (un27 S.p) (sz41 S.p) (by41 S.p) (ze41 S.p) (by decide) (by decide) rfl, sl_cells (sz41 S.p), (bu41 S.p), lit_fill (un27 S.p) (sz41 S.p) (ze41 S.p), (fa131_0 S.p), (fa131_1 S.p), (fa131_2 S.p), (fa131_3 S.p), (fa131_4 S.p), iaddr_sl (un22 S.p) (sz131 S.p), len_sl (un22 S.p), len_nils (un22 S.p), part_all (ag129 S.p) (sz129 S.p), part_at (ag129 S.p) (sz129 S.p), part_all (ag131 S.p) (sz131 S.p), part_at (ag131 S.p) (sz131 S.p), part_sc (ag3 S.p), part_sc (ag39 S.p), part_sc (ag4 S.p), store_last (sz131 S.p), (sz131 S.p)]
    exact Ends.some ⟨hx, qo, rfl, ho⟩
/-- Two that race. -/
structure PrV where
  a : Int
  b : Int
def PrV.cells (x : PrV) : List SV := [.int .i64 x.a, .int .i64 x.b]
theorem PrV.len (x : PrV) : x.cells.length = 2 := nrfl rfl
/-- Those of one, ahead of so many. -/
def rowP (l : List AcV) (k : Nat) (y : AcV) (n : Nat) : List PrV := ((List.range n).filter fun i : Nat => match l[i]? with | some x => raceV x y | none => false).map fun i : Nat => (⟨(i : Int), (k : Int)⟩ : PrV)
theorem rowP_succ {l : List AcV} {k n : Nat} {y x : AcV} (h : l[n]? = some x) : rowP l k y (n + 1) = if raceV x y = true then rowP l k y n ++ [⟨(n : Int), (k : Int)⟩] else rowP l k y n := by
  unfold rowP
  rw [List.range_succ, List.filter_append, List.map_append]
  by_cases e : raceV x y = true
  · rw [if_pos e]; simp [h, e]
  · rw [if_neg e]; simp [h, e]
theorem rowP_len (l : List AcV) (k : Nat) (y : AcV) (n : Nat) : (rowP l k y n).length ≤ n := by
  unfold rowP
  rw [List.length_map]
  refine Nat.le_trans (List.length_filter_le _ _) (by simp)
/-- All that race, of so many. -/
def allP (l : List AcV) : Nat → List PrV
  | 0 => []
  | k + 1 => match l[k]? with | some y => allP l k ++ rowP l k y k | none => allP l k
theorem allP_succ {l : List AcV} {k : Nat} {y : AcV} (h : l[k]? = some y) : allP l (k + 1) = allP l k ++ rowP l k y k := by
  show (match l[k]? with | some y => allP l k ++ rowP l k y k | none => allP l k) = _
  rw [h]
theorem allP_len (l : List AcV) : ∀ n, (allP l n).length ≤ n * n
  | 0 => by simp [allP]
  | n + 1 => by
    have h1 := allP_len l n
    have e : (n + 1) * (n + 1) = n * n + n + n + 1 := by rw [Nat.add_mul, Nat.mul_add]; omega
    unfold allP
    split
    · rename_i y hy
      have h2 := rowP_len l n y n
      rw [List.length_append]; omega
    · omega
end Go.AM
