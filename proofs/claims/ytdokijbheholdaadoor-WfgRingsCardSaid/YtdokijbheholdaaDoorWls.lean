/- Waiting graphs: the document's list of nodes that have edges. Conditions: none. -/
import Derived.Test.YtdokijbheholdaaDoorWks
set_option linter.unusedVariables false
set_option linter.unusedSimpArgs false
set_option maxRecDepth 100000
namespace Go.AM
open Go.Proofs Go.Lib
-- LENS: gC_len, Edg.len, ixC_len, wC_len, bC_len
set_option maxHeartbeats 4000000 in
theorem s29 {P : Program} {T : Tab} {K d : Nat} (S : Sd P T K) (hd : 1 ≤ d) {q : SV} {l : List Nat} (hl : l.length ≤ 200) (n : Nat) (lk : Nat) (h : List AO) (hq : Rs ixC 1 h q l) :
    ev P T K d 29 [.sc q, .sc (.int .i64 (n : Nat))] lk h = some (.v (.sc (.bool (decide (n ∈ l)))), h) := by
  obtain ⟨d, rfl⟩ : ∃ k, d = k + 1 := ⟨d - 1, by omega⟩
  refine ev_pure (at29 S.t) rfl ?_
  unfold i29 Tryd.f29
  have hlen := hq.len (un35 S.p)
  have hmem : decide (n ∈ l) = l.any fun k => k == n := by
    rw [Bool.eq_iff_iff, decide_eq_true_eq, List.any_eq_true]
    constructor
    · intro h; exact ⟨n, h, by simp⟩
    · rintro ⟨k, h1, h2⟩
      obtain rfl : k = n := by simpa using h2
      exact h1
  rw [hmem]
  simp (maxSteps := 1000000) (disch := first | omega | (simp (disch := first | omega | (simp only [gC_len, Edg.len, ixC_len, wC_len, bC_len, List.length_append, List.length_cons, List.length_nil, List.length_set]; first | done | omega)) only [gC_len, Edg.len, ixC_len, wC_len, bC_len, amSide, Int.reduceToNat, Nat.reducePow, Nat.reduceMul]; first | done | omega)) only  [↓amPre, amPost, ↓s_lit', Nat.reduceAdd, Nat.reduceSub, List.replicate, retA, resultsA, resultA, toC, toCL, Nat.reduceEqDiff, iaddr_sl (un35 S.p) (sz3 S.p), len_sl (un35 S.p), len_nils (un35 S.p), part_sc (ag3 S.p)]
  refine ends_loop (X := ThN) ⟨0⟩ [4, 6, 7, 8, 9, 10, 11, 12, 13, 14, 15, 16, 17] (fun x => x.i ≤ l.length ∧ (l.take x.i).any (fun k => k == n) = false) (fun x => l.length - x.i)
    (fun x e => e.set 5 (.v (.sc (.int .i64 x.i)))) (fun x => h)
    (by have := S.k; show _ < K; simp only; omega) ⟨by simp only; omega, rfl⟩ rfl rfl ?_
  rintro ⟨i⟩ ⟨hi, hno⟩ again hag e he
  simp only at hi hno hag he
  simp only [↓amPre, amPost, ↓s_lit', Nat.reduceAdd, Nat.reduceSub, List.replicate, retA, resultsA, resultA, toC, toCL, Nat.reduceEqDiff] at he
  simp (maxSteps := 1000000) (disch := first | omega | (simp (disch := first | omega | (simp only [gC_len, Edg.len, ixC_len, wC_len, bC_len, List.length_append, List.length_cons, List.length_nil, List.length_set]; first | done | omega)) only [gC_len, Edg.len, ixC_len, wC_len, bC_len, amSide, Int.reduceToNat, Nat.reducePow, Nat.reduceMul]; first | done | omega)) only  [↓amPre, amPost, ↓s_lit', Nat.reduceAdd, Nat.reduceSub, List.replicate, retA, resultsA, resultA, toC, toCL, Nat.reduceEqDiff, he, iaddr_sl (un35 S.p) (sz3 S.p), len_sl (un35 S.p), len_nils (un35 S.p), part_sc (ag3 S.p), hlen]
  refine ends_cond (fun hc1 => ?_) (fun hc1 => ?_)
  · simp only [decide_eq_true_eq] at hc1
    obtain ⟨b, rfl, hb, hc⟩ := hq.at (by omega)
    obtain ⟨k, hki⟩ : ∃ k, l[i]? = some k := ⟨_, List.getElem?_eq_getElem (by omega)⟩
    have gk := recs_get0 ixC_len hki (by omega)
    rw [Nat.mul_one, show (ixC k)[0]? = some (.int .i64 (k : Nat)) from rfl] at gk
    by_cases hkn : k = n
    · rw [any_at hki (by simp [hkn])]
      simp (maxSteps := 1000000) (disch := first | omega | (simp (disch := first | omega | (simp only [gC_len, Edg.len, ixC_len, wC_len, bC_len, List.length_append, List.length_cons, List.length_nil, List.length_set]; first | done | omega)) only [gC_len, Edg.len, ixC_len, wC_len, bC_len, amSide, Int.reduceToNat, Nat.reducePow, Nat.reduceMul]; first | done | omega)) only  [↓amPre, amPost, ↓s_lit', Nat.reduceAdd, Nat.reduceSub, List.replicate, retA, resultsA, resultA, toC, toCL, Nat.reduceEqDiff, he, iaddr_sl (un35 S.p) (sz3 S.p), len_sl (un35 S.p), len_nils (un35 S.p), part_sc (ag3 S.p), idx_ok, hc, gk, beqI_t, Nat.mul_one, Int.toNat_natCast, Nat.zero_add]
      exact Ends.some rfl
    · have hsn : (l.take (i + 1)).any (fun k => k == n) = false := by rw [any_take_succ hki fun k => k == n, hno]; simp [hkn]
      simp (maxSteps := 1000000) (disch := first | omega | (simp (disch := first | omega | (simp only [gC_len, Edg.len, ixC_len, wC_len, bC_len, List.length_append, List.length_cons, List.length_nil, List.length_set]; first | done | omega)) only [gC_len, Edg.len, ixC_len, wC_len, bC_len, amSide, Int.reduceToNat, Nat.reducePow, Nat.reduceMul]; first | done | omega)) only  [↓amPre, amPost, ↓s_lit', Nat.reduceAdd, Nat.reduceSub, List.replicate, retA, resultsA, resultA, toC, toCL, Nat.reduceEqDiff, he, iaddr_sl (un35 S.p) (sz3 S.p), len_sl (un35 S.p), len_nils (un35 S.p), part_sc (ag3 S.p), idx_ok, hc, gk, beqI_f, Nat.mul_one, Int.toNat_natCast, Nat.zero_add, wrap_i64]
      refine hag ⟨i + 1⟩ ⟨by simp only; omega, hsn⟩ (by simp only; omega) _ ?_
      simp (maxSteps := 1000000) (disch := first | omega | (simp (disch := first | omega | (simp only [gC_len, Edg.len, ixC_len, wC_len, bC_len, List.length_append, List.length_cons, List.length_nil, List.length_set]; first | done | omega)) only [gC_len, Edg.len, ixC_len, wC_len, bC_len, amSide, Int.reduceToNat, Nat.reducePow, Nat.reduceMul]; first | done | omega)) only [↓amPre, amPost, ↓s_lit', Nat.reduceAdd, Nat.reduceSub, List.replicate, retA, resultsA, resultA, toC, toCL, Nat.reduceEqDiff, Int.natCast_add, Int.cast_ofNat_Int, dec_t, dec_f]
  · simp only [decide_eq_false_iff_not] at hc1
    obtain rfl : i = l.length := by omega
    rw [List.take_length] at hno
    rw [hno]
    simp (maxSteps := 1000000) (disch := first | omega | (simp (disch := first | omega | (simp only [gC_len, Edg.len, ixC_len, wC_len, bC_len, List.length_append, List.length_cons, List.length_nil, List.length_set]; first | done | omega)) only [gC_len, Edg.len, ixC_len, wC_len, bC_len, amSide, Int.reduceToNat, Nat.reducePow, Nat.reduceMul]; first | done | omega)) only  [↓amPre, amPost, ↓s_lit', Nat.reduceAdd, Nat.reduceSub, List.replicate, retA, resultsA, resultA, toC, toCL, Nat.reduceEqDiff, he, iaddr_sl (un35 S.p) (sz3 S.p), len_sl (un35 S.p), len_nils (un35 S.p), part_sc (ag3 S.p)]
    exact Ends.some rfl
/-- Does a node have an edge, or does one lead to it? -/
def hasN (L : List Edg) (k : Nat) : Bool := L.any fun e => e.f == (k : Int) || e.t == (k : Int)
theorem all_eq {E : List Nat} {L : List Edg} (G : GR E L) : (List.range 64).filter (hasN L) = bl (allE E 64) := by
  unfold bl blN
  refine List.filter_congr fun k hk => ?_
  have hk64 := List.mem_range.1 hk
  rw [Bool.eq_iff_iff, allE_bit]
  unfold hasN
  rw [List.any_eq_true]
  constructor
  · rintro ⟨e, he, h⟩
    obtain ⟨v1, v2, v3, v4⟩ := G.val e he
    obtain ⟨f, t⟩ := e
    simp only at v1 v2 v3 v4
    obtain ⟨a, rfl⟩ := Int.eq_ofNat_of_zero_le v1
    obtain ⟨b, rfl⟩ := Int.eq_ofNat_of_zero_le v3
    have hbit := (G.bit a b (by omega) (by omega)).2 he
    have hne : E.getD a 0 ≠ 0 := fun z => by rw [z] at hbit; simp at hbit
    refine ⟨a, by omega, hne, ?_⟩
    simp only [Bool.or_eq_true, beq_iff_eq] at h
    rcases h with h | h
    · right
      have : ((a : Nat) : Int) = (k : Int) := h
      omega
    · left
      have : ((b : Nat) : Int) = (k : Int) := h
      obtain rfl : b = k := by omega
      exact hbit
  · rintro ⟨i, h1, h2, h3⟩
    rcases h3 with h3 | h3
    · exact ⟨⟨i, k⟩, (G.bit i k h1 hk64).1 h3, by simp⟩
    · subst h3
      obtain ⟨j, hj⟩ : ∃ j, (E.getD i 0).testBit j = true := by
        apply Classical.byContradiction
        intro q
        refine h2 (Nat.eq_of_testBit_eq fun j => ?_)
        rw [Nat.zero_testBit]
        cases z : (E.getD i 0).testBit j
        · rfl
        · exact absurd ⟨j, z⟩ q
      exact ⟨⟨i, j⟩, (G.bit i j h1 (testBit_lt (G.lt i) hj)).1 hj, by simp⟩
structure ThG where
  i : Nat
  b : Bool
  h : List AO
set_option maxHeartbeats 8000000 in
theorem s28 {P : Program} {T : Tab} {K d : Nat} (S : Sd P T K) (hd : 1 ≤ d) {p : Nat} {q : SV} {L : List Edg} (hL : L.length ≤ 200) (lk : Nat) (h : List AO) (hlk : lk ≤ h.length) (hpl : p < h.length) (hp : cellsAt h p = some [q]) (hq : Rs Edg.cells 2 h q L) :
    Ends (fun v h' => Ext1 h h' ∧ ∃ q', v = .v (.sc q') ∧ Rs ixC 1 h' q' ((List.range 64).filter (hasN L))) (ev P T K d 28 [.sc (.ptr p 0)] lk h) := by
  obtain ⟨d, rfl⟩ : ∃ k, d = k + 1 := ⟨d - 1, by omega⟩
  rw [ev_run (at28 S.t)]
  unfold i28 Tryd.f28
  have hlen := hq.len (un22 S.p)
  have g0 : ([q] : List SV)[0]? = some q := rfl
  simp (maxSteps := 1000000) (disch := first | omega | (simp (disch := first | omega | (simp only [gC_len, Edg.len, ixC_len, wC_len, bC_len, List.length_append, List.length_cons, List.length_nil, List.length_set]; first | done | omega)) only [gC_len, Edg.len, ixC_len, wC_len, bC_len, amSide, Int.reduceToNat, Nat.reducePow, Nat.reduceMul]; first | done | omega)) only  [↓amPre, amPost, ↓s_lit', Nat.reduceAdd, Nat.reduceSub, List.replicate, retA, resultsA, resultA, toC, toCL, Nat.reduceEqDiff, append_at (un35 S.p) (sz3 S.p) (by3 S.p) (ze3 S.p) (by decide) (by decide) rfl, copy_at (un35 S.p) (sz3 S.p) (by3 S.p) (ze3 S.p) (by decide) (by decide) rfl, sl_cells (sz3 S.p), lit_fill (un35 S.p) (sz3 S.p) (ze3 S.p), (fa26_0 S.p), (fa28_0 S.p), (fa28_1 S.p), iaddr_sl (un22 S.p) (sz28 S.p), len_sl (un22 S.p), len_nils (un22 S.p), part_sc (ag22 S.p), part_sc (ag3 S.p)]
  refine ends_loop (X := ThQ) ⟨0, .nils, h⟩ [5, 6, 7, 8, 9, 10, 11, 12, 13, 14, 15, 16, 17, 18, 19, 20, 21, 22, 23, 24, 25, 26, 27, 28, 29, 30, 31, 32, 33, 34, 35, 36, 37, 38, 39, 40, 41, 42, 43, 44, 45, 46, 47, 48, 49] (fun x => x.i ≤ 64 ∧ Ext1 h x.h ∧ Own 3 1 h.length x.h x.q (recs ixC ((List.range x.i).filter (hasN L)))) (fun x => 64 - x.i)
    (fun x e => (e.set 3 (.v (.sc x.q))).set 4 (.v (.sc (.int .i64 x.i)))) (fun x => x.h)
    (by have := S.k; show _ < K; simp only; omega) ⟨by simp only; omega, Ext1.refl h, Own.nil _ _ _ _⟩ rfl rfl ?_
  rintro ⟨i, qi, hj⟩ ⟨hi, hx, ho⟩ again hag e he
  simp only at hi hx ho hag he
  simp only [↓amPre, amPost, ↓s_lit', Nat.reduceAdd, Nat.reduceSub, List.replicate, retA, resultsA, resultA, toC, toCL, Nat.reduceEqDiff] at he
  simp only [↓amPre, amPost, ↓s_lit', Nat.reduceAdd, Nat.reduceSub, List.replicate, retA, resultsA, resultA, toC, toCL, Nat.reduceEqDiff, he]
  have hle := hx.len
  refine ends_cond (fun hc1 => ?_) (fun hc1 => ?_)
  · simp only [decide_eq_true_eq] at hc1
    have hpj : cellsAt hj p = some [q] := by rw [hx.cells hpl]; exact hp
    simp (maxSteps := 1000000) (disch := first | omega | (simp (disch := first | omega | (simp only [gC_len, Edg.len, ixC_len, wC_len, bC_len, List.length_append, List.length_cons, List.length_nil, List.length_set]; first | done | omega)) only [gC_len, Edg.len, ixC_len, wC_len, bC_len, amSide, Int.reduceToNat, Nat.reducePow, Nat.reduceMul]; first | done | omega)) only  [↓amPre, amPost, ↓s_lit', Nat.reduceAdd, Nat.reduceSub, List.replicate, retA, resultsA, resultA, toC, toCL, Nat.reduceEqDiff, he, append_at (un35 S.p) (sz3 S.p) (by3 S.p) (ze3 S.p) (by decide) (by decide) rfl, copy_at (un35 S.p) (sz3 S.p) (by3 S.p) (ze3 S.p) (by decide) (by decide) rfl, sl_cells (sz3 S.p), lit_fill (un35 S.p) (sz3 S.p) (ze3 S.p), (fa26_0 S.p), (fa28_0 S.p), (fa28_1 S.p), iaddr_sl (un22 S.p) (sz28 S.p), len_sl (un22 S.p), len_nils (un22 S.p), part_sc (ag22 S.p), part_sc (ag3 S.p)]
    refine ends_loop (X := ThG) ⟨0, false, hj⟩ [11, 12, 13, 14, 15, 16, 17, 18, 19, 20, 21, 22, 23, 24, 25, 26, 27, 28, 29, 30, 31, 32, 33, 34, 35, 36, 37, 38, 39, 40, 41, 42, 43, 44] (fun x => x.i ≤ L.length ∧ x.h = hj ∧ x.b = (L.take x.i).any fun e => e.f == (i : Int) || e.t == (i : Int)) (fun x => L.length - x.i)
      (fun x e => (e.set 5 (.v (.sc (.bool x.b)))).set 6 (.v (.sc (.int .i64 x.i)))) (fun x => x.h)
      (by have := S.k; show _ < K; simp only; omega) ⟨by simp only; omega, rfl, rfl⟩ rfl rfl ?_
    clear he
    rintro ⟨j, b2, hh⟩ ⟨hj2, hhe, hb2⟩ again2 hag2 e2 he2
    simp only at hj2 hhe hb2 hag2 he2
    subst hhe
    simp only [↓amPre, amPost, ↓s_lit', Nat.reduceAdd, Nat.reduceSub, List.replicate, retA, resultsA, resultA, toC, toCL, Nat.reduceEqDiff] at he2
    simp (maxSteps := 1000000) (disch := first | omega | (simp (disch := first | omega | (simp only [gC_len, Edg.len, ixC_len, wC_len, bC_len, List.length_append, List.length_cons, List.length_nil, List.length_set]; first | done | omega)) only [gC_len, Edg.len, ixC_len, wC_len, bC_len, amSide, Int.reduceToNat, Nat.reducePow, Nat.reduceMul]; first | done | omega)) only  [↓amPre, amPost, ↓s_lit', Nat.reduceAdd, Nat.reduceSub, List.replicate, retA, resultsA, resultA, toC, toCL, Nat.reduceEqDiff, he2, append_at (un35 S.p) (sz3 S.p) (by3 S.p) (ze3 S.p) (by decide) (by decide) rfl, copy_at (un35 S.p) (sz3 S.p) (by3 S.p) (ze3 S.p) (by decide) (by decide) rfl, sl_cells (sz3 S.p), lit_fill (un35 S.p) (sz3 S.p) (ze3 S.p), (fa26_0 S.p), (fa28_0 S.p), (fa28_1 S.p), iaddr_sl (un22 S.p) (sz28 S.p), len_sl (un22 S.p), len_nils (un22 S.p), part_sc (ag22 S.p), part_sc (ag3 S.p), hpj, g0, hlen, Nat.add_zero]
    refine ends_cond (fun hc2 => ?_) (fun hc2 => ?_)
    · simp only [decide_eq_true_eq] at hc2
      obtain ⟨bb, rfl, hbb, hcc⟩ := (hq.ext hx).at (by omega)
      obtain ⟨y, hy⟩ : ∃ y, L[j]? = some y := ⟨_, List.getElem?_eq_getElem (by omega)⟩
      have p0 := recs_get0 Edg.len hy (by omega)
      have p1 := recs_get Edg.len hy 1 (by omega)
      rw [Edg.c0] at p0
      rw [Edg.c1] at p1
      have hsn := any_take_succ hy fun e => e.f == (i : Int) || e.t == (i : Int)
      have go := fun b3 (z : b3 = (b2 || (y.f == (i : Int) || y.t == (i : Int)))) => hag2 ⟨j + 1, b3, hh⟩ ⟨by simp only; omega, rfl, by simp only [hsn, ← hb2]; exact z⟩ (by simp only; omega)
      cases b2 with
      | true =>
        have := go true (by simp)
        simp (maxSteps := 1000000) (disch := first | omega | (simp (disch := first | omega | (simp only [gC_len, Edg.len, ixC_len, wC_len, bC_len, List.length_append, List.length_cons, List.length_nil, List.length_set]; first | done | omega)) only [gC_len, Edg.len, ixC_len, wC_len, bC_len, amSide, Int.reduceToNat, Nat.reducePow, Nat.reduceMul]; first | done | omega)) only  [↓amPre, amPost, ↓s_lit', Nat.reduceAdd, Nat.reduceSub, List.replicate, retA, resultsA, resultA, toC, toCL, Nat.reduceEqDiff, he2, append_at (un35 S.p) (sz3 S.p) (by3 S.p) (ze3 S.p) (by decide) (by decide) rfl, copy_at (un35 S.p) (sz3 S.p) (by3 S.p) (ze3 S.p) (by decide) (by decide) rfl, sl_cells (sz3 S.p), lit_fill (un35 S.p) (sz3 S.p) (ze3 S.p), (fa26_0 S.p), (fa28_0 S.p), (fa28_1 S.p), iaddr_sl (un22 S.p) (sz28 S.p), len_sl (un22 S.p), len_nils (un22 S.p), part_sc (ag22 S.p), part_sc (ag3 S.p), idx_ok, hpj, g0, hcc, p0, p1, Int.toNat_natCast, Nat.add_zero, wrap_i64]
        refine this _ ?_
        simp (maxSteps := 1000000) (disch := first | omega | (simp (disch := first | omega | (simp only [gC_len, Edg.len, ixC_len, wC_len, bC_len, List.length_append, List.length_cons, List.length_nil, List.length_set]; first | done | omega)) only [gC_len, Edg.len, ixC_len, wC_len, bC_len, amSide, Int.reduceToNat, Nat.reducePow, Nat.reduceMul]; first | done | omega)) only [↓amPre, amPost, ↓s_lit', Nat.reduceAdd, Nat.reduceSub, List.replicate, retA, resultsA, resultA, toC, toCL, Nat.reduceEqDiff, Int.natCast_add, Int.cast_ofNat_Int, dec_t, dec_f]
      | false =>
        by_cases c1 : y.f = (i : Int)
        · have := go true (by simp [c1])
          simp (maxSteps := 1000000) (disch := first | omega | (simp (disch := first | omega | (simp only [gC_len, Edg.len, ixC_len, wC_len, bC_len, List.length_append, List.length_cons, List.length_nil, List.length_set]; first | done | omega)) only [gC_len, Edg.len, ixC_len, wC_len, bC_len, amSide, Int.reduceToNat, Nat.reducePow, Nat.reduceMul]; first | done | omega)) only  [↓amPre, amPost, ↓s_lit', Nat.reduceAdd, Nat.reduceSub, List.replicate, retA, resultsA, resultA, toC, toCL, Nat.reduceEqDiff, he2, append_at (un35 S.p) (sz3 S.p) (by3 S.p) (ze3 S.p) (by decide) (by decide) rfl, copy_at (un35 S.p) (sz3 S.p) (by3 S.p) (ze3 S.p) (by decide) (by decide) rfl, sl_cells (sz3 S.p), lit_fill (un35 S.p) (sz3 S.p) (ze3 S.p), (fa26_0 S.p), (fa28_0 S.p), (fa28_1 S.p), iaddr_sl (un22 S.p) (sz28 S.p), len_sl (un22 S.p), len_nils (un22 S.p), part_sc (ag22 S.p), part_sc (ag3 S.p), idx_ok, hpj, g0, hcc, p0, p1, beqI_t, Int.toNat_natCast, Nat.add_zero, wrap_i64]
          refine this _ ?_
          simp (maxSteps := 1000000) (disch := first | omega | (simp (disch := first | omega | (simp only [gC_len, Edg.len, ixC_len, wC_len, bC_len, List.length_append, List.length_cons, List.length_nil, List.length_set]; first | done | omega)) only [gC_len, Edg.len, ixC_len, wC_len, bC_len, amSide, Int.reduceToNat, Nat.reducePow, Nat.reduceMul]; first | done | omega)) only [↓amPre, amPost, ↓s_lit', Nat.reduceAdd, Nat.reduceSub, List.replicate, retA, resultsA, resultA, toC, toCL, Nat.reduceEqDiff, Int.natCast_add, Int.cast_ofNat_Int, dec_t, dec_f]
        · by_cases c2 : y.t = (i : Int)
          · have := go true (by simp [c2])
            simp (maxSteps := 1000000) (disch := first | omega | (simp (disch := first | omega | (simp only [gC_len, Edg.len, ixC_len, wC_len, bC_len, List.length_append, List.length_cons, List.length_nil, List.length_set]; first | done | omega)) only [gC_len, Edg.len, ixC_len, wC_len, bC_len, amSide, Int.reduceToNat, Nat.reducePow, Nat.reduceMul]; first | done | omega)) only  [↓amPre, amPost, ↓s_lit', Nat.reduceAdd, Nat.reduceSub, List.replicate, retA, resultsA, resultA, toC, toCL, Nat.reduceEqDiff, he2, append_at (un35 S.p) (sz3 S.p) (by3 S.p) (ze3 S.p) (by decide) (by decide) rfl, copy_at (un35 S.p) (sz3 S.p) (by3 S.p) (ze3 S.p) (by decide) (by decide) rfl, sl_cells (sz3 S.p), lit_fill (un35 S.p) (sz3 S.p) (ze3 S.p), (fa26_0 S.p), (fa28_0 S.p), (fa28_1 S.p), iaddr_sl (un22 S.p) (sz28 S.p), len_sl (un22 S.p), len_nils (un22 S.p), part_sc (ag22 S.p), part_sc (ag3 S.p), idx_ok, hpj, g0, hcc, p0, p1, beqI_t, beqI_f, Int.toNat_natCast, Nat.add_zero, wrap_i64]
            refine this _ ?_
            simp (maxSteps := 1000000) (disch := first | omega | (simp (disch := first | omega | (simp only [gC_len, Edg.len, ixC_len, wC_len, bC_len, List.length_append, List.length_cons, List.length_nil, List.length_set]; first | done | omega)) only [gC_len, Edg.len, ixC_len, wC_len, bC_len, amSide, Int.reduceToNat, Nat.reducePow, Nat.reduceMul]; first | done | omega)) only [↓amPre, amPost, ↓s_lit', Nat.reduceAdd, Nat.reduceSub, List.replicate, retA, resultsA, resultA, toC, toCL, Nat.reduceEqDiff, Int.natCast_add, Int.cast_ofNat_Int, dec_t, dec_f]
          · have := go false (by simp [c1, c2])
            simp (maxSteps := 1000000) (disch := first | omega | (simp (disch := first | omega | (simp only [gC_len, Edg.len, ixC_len, wC_len, bC_len, List.length_append, List.length_cons, List.length_nil, List.length_set]; first | done | omega)) only [gC_len, Edg.len, ixC_len, wC_len, bC_len, amSide, Int.reduceToNat, Nat.reducePow, Nat.reduceMul]; first | done | omega)) only  [↓amPre, amPost, ↓s_lit', Nat.reduceAdd, Nat.reduceSub, List.replicate, retA, resultsA, resultA, toC, toCL, Nat.reduceEqDiff, he2, append_at (un35 S.p) (sz3 S.p) (by3 S.p) (ze3 S.p) (by decide) (by decide) rfl, copy_at (un35 S.p) (sz3 S.p) (by3 S.p) (ze3 S.p) (by decide) (by decide) rfl, sl_cells (sz3 S.p), lit_fill (un35 S.p) (sz3 S.p) (ze3 S.p), (fa26_0 S.p), (fa28_0 S.p), (fa28_1 S.p), iaddr_sl (un22 S.p) (sz28 S.p), len_sl (un22 S.p), len_nils (un22 S.p), part_sc (ag22 S.p), part_sc (ag3 S.p), idx_ok, hpj, g0, hcc, p0, p1, beqI_f, Int.toNat_natCast, Nat.add_zero, wrap_i64]
            refine this _ ?_
            simp (maxSteps := 1000000) (disch := first | omega | (simp (disch := first | omega | (simp only [gC_len, Edg.len, ixC_len, wC_len, bC_len, List.length_append, List.length_cons, List.length_nil, List.length_set]; first | done | omega)) only [gC_len, Edg.len, ixC_len, wC_len, bC_len, amSide, Int.reduceToNat, Nat.reducePow, Nat.reduceMul]; first | done | omega)) only [↓amPre, amPost, ↓s_lit', Nat.reduceAdd, Nat.reduceSub, List.replicate, retA, resultsA, resultA, toC, toCL, Nat.reduceEqDiff, Int.natCast_add, Int.cast_ofNat_Int, dec_t, dec_f]
    · simp only [decide_eq_false_iff_not] at hc2
      obtain rfl : j = L.length := by omega
      clear hag2
      rw [List.take_length] at hb2
      have hsu := flt_succ (hasN L) i
      have hhn : hasN L i = b2 := hb2.symm
      have hnl : ((List.range i).filter (hasN L)).length ≤ i := Nat.le_trans (List.length_filter_le _ _) (by simp)
      cases b2 with
      | true =>
        rw [if_pos hhn] at hsu
        obtain ⟨q2, h2, happ, hown, hl2, _, hx2, _⟩ := grow_own (b := 8) (lk := lk) (ho.push (.rw 3 [.int .i64 (i : Nat)])) [.int .i64 (i : Nat)] (by omega) (by simp) (by simp) (by omega) (by simp; omega) (by rw [recs_len ixC_len]; simp; omega)
        have hx3 := hx2 h (hx.push _) (Nat.le_refl _)
        have hcs : ([.int .i64 (i : Nat)] : List SV) = ixC i := rfl
        rw [hcs, recs_snoc, ← hsu] at hown
        simp (maxSteps := 1000000) (disch := first | omega | (simp (disch := first | omega | (simp only [gC_len, Edg.len, ixC_len, wC_len, bC_len, List.length_append, List.length_cons, List.length_nil, List.length_set]; first | done | omega)) only [gC_len, Edg.len, ixC_len, wC_len, bC_len, amSide, Int.reduceToNat, Nat.reducePow, Nat.reduceMul]; first | done | omega)) only  [↓amPre, amPost, ↓s_lit', Nat.reduceAdd, Nat.reduceSub, List.replicate, retA, resultsA, resultA, toC, toCL, Nat.reduceEqDiff, he2, append_at (un35 S.p) (sz3 S.p) (by3 S.p) (ze3 S.p) (by decide) (by decide) rfl, copy_at (un35 S.p) (sz3 S.p) (by3 S.p) (ze3 S.p) (by decide) (by decide) rfl, sl_cells (sz3 S.p), lit_fill (un35 S.p) (sz3 S.p) (ze3 S.p), (fa26_0 S.p), (fa28_0 S.p), (fa28_1 S.p), iaddr_sl (un22 S.p) (sz28 S.p), len_sl (un22 S.p), len_nils (un22 S.p), part_sc (ag22 S.p), part_sc (ag3 S.p), happ, cells_self, List.flatten_cons, List.flatten_nil, List.append_nil, Nat.one_mul, Nat.zero_mul, splice_one, Nat.zero_add, wrap_i64]
        refine hag ⟨i + 1, q2, h2⟩ ⟨by simp only; omega, hx3, hown⟩ (by simp only; omega) _ ?_
        simp (maxSteps := 1000000) (disch := first | omega | (simp (disch := first | omega | (simp only [gC_len, Edg.len, ixC_len, wC_len, bC_len, List.length_append, List.length_cons, List.length_nil, List.length_set]; first | done | omega)) only [gC_len, Edg.len, ixC_len, wC_len, bC_len, amSide, Int.reduceToNat, Nat.reducePow, Nat.reduceMul]; first | done | omega)) only [↓amPre, amPost, ↓s_lit', Nat.reduceAdd, Nat.reduceSub, List.replicate, retA, resultsA, resultA, toC, toCL, Nat.reduceEqDiff, Int.natCast_add, Int.cast_ofNat_Int, dec_t, dec_f]
      | false =>
        rw [if_neg (by rw [hhn]; simp)] at hsu
        simp (maxSteps := 1000000) (disch := first | omega | (simp (disch := first | omega | (simp only [gC_len, Edg.len, ixC_len, wC_len, bC_len, List.length_append, List.length_cons, List.length_nil, List.length_set]; first | done | omega)) only [gC_len, Edg.len, ixC_len, wC_len, bC_len, amSide, Int.reduceToNat, Nat.reducePow, Nat.reduceMul]; first | done | omega)) only  [↓amPre, amPost, ↓s_lit', Nat.reduceAdd, Nat.reduceSub, List.replicate, retA, resultsA, resultA, toC, toCL, Nat.reduceEqDiff, he2, append_at (un35 S.p) (sz3 S.p) (by3 S.p) (ze3 S.p) (by decide) (by decide) rfl, copy_at (un35 S.p) (sz3 S.p) (by3 S.p) (ze3 S.p) (by decide) (by decide) rfl, sl_cells (sz3 S.p), lit_fill (un35 S.p) (sz3 S.p) (ze3 S.p), (fa26_0 S.p), (fa28_0 S.p), (fa28_1 S.p), iaddr_sl (un22 S.p) (sz28 S.p), len_sl (un22 S.p), len_nils (un22 S.p), part_sc (ag22 S.p), part_sc (ag3 S.p), wrap_i64]
        refine hag ⟨i + 1, qi, hh⟩ ⟨by simp only; omega, hx, by simp only [hsu]; exact ho⟩ (by simp only; omega) _ ?_
        simp (maxSteps := 1000000) (disch := first | omega | (simp (disch := first | omega | (simp only [gC_len, Edg.len, ixC_len, wC_len, bC_len, List.length_append, List.length_cons, List.length_nil, List.length_set]; first | done | omega)) only [gC_len, Edg.len, ixC_len, wC_len, bC_len, amSide, Int.reduceToNat, Nat.reducePow, Nat.reduceMul]; first | done | omega)) only [↓amPre, amPost, ↓s_lit', Nat.reduceAdd, Nat.reduceSub, List.replicate, retA, resultsA, resultA, toC, toCL, Nat.reduceEqDiff, Int.natCast_add, Int.cast_ofNat_Int, dec_t, dec_f]
  · simp only [decide_eq_false_iff_not] at hc1
    obtain rfl : i = 64 := by omega
    simp (maxSteps := 1000000) (disch := first | omega | (simp (disch := first | omega | (simp only [gC_len, Edg.len, ixC_len, wC_len, bC_len, List.length_append, List.length_cons, List.length_nil, List.length_set]; first | done | omega)) only [gC_len, Edg.len, ixC_len, wC_len, bC_len, amSide, Int.reduceToNat, Nat.reducePow, Nat.reduceMul]; first | done | omega)) only  [↓amPre, amPost, ↓s_lit', Nat.reduceAdd, Nat.reduceSub, List.replicate, retA, resultsA, resultA, toC, toCL, Nat.reduceEqDiff, he, append_at (un35 S.p) (sz3 S.p) (by3 S.p) (ze3 S.p) (by decide) (by decide) rfl, copy_at (un35 S.p) (sz3 S.p) (by3 S.p) (ze3 S.p) (by decide) (by decide) rfl, sl_cells (sz3 S.p), lit_fill (un35 S.p) (sz3 S.p) (ze3 S.p), (fa26_0 S.p), (fa28_0 S.p), (fa28_1 S.p), iaddr_sl (un22 S.p) (sz28 S.p), len_sl (un22 S.p), len_nils (un22 S.p), part_sc (ag22 S.p), part_sc (ag3 S.p)]
    exact Ends.some ⟨hx, _, rfl, ho.rs (by omega) ixC_len⟩
end Go.AM
/- Waiting graphs: the document's order: mathematics. Conditions: none. -/
set_option linter.unusedVariables false
set_option linter.unusedSimpArgs false
set_option maxRecDepth 100000
namespace Go.AM
open Go.Proofs Go.Lib
/-- May a node be the next one? -/
def nxP (L : List Edg) (out : List Nat) (k : Nat) : Bool := !decide (k ∈ out) && (nxL L (k : Int) 64).all fun j => decide (j ∈ out)
/-- The document's order. -/
def rordV (L : List Edg) (l : List Nat) : Nat → List Nat → Option (List Nat)
  | 0, out => some out
  | m + 1, out => match l.find? (nxP L out) with
    | some k => rordV L l m (out ++ [k])
    | none => none
theorem nxP_ok {E : List Nat} {L : List Edg} (G : GR E L) {out left : List Nat} {done : Nat} (H : OInv L out left done) {k : Nat} (hk : k < 64) (hko : k ∉ out) : nxP L out k = okP E done k := by
  rw [Bool.eq_iff_iff, okP_iff G H hk]
  unfold nxP
  rw [Bool.and_eq_true, List.all_eq_true]
  constructor
  · rintro ⟨_, h⟩ j hj
    have : j ∈ nxL L (k : Int) 64 := by
      unfold nxL
      exact List.mem_filter.2 ⟨List.mem_range.2 (G.node hj).2, by simpa using hj⟩
    simpa using h j this
  · intro h
    refine ⟨by simpa using hko, fun j hj => ?_⟩
    unfold nxL at hj
    have := of_decide_eq_true (List.mem_filter.1 hj).2
    simpa using h j this
theorem find_filter {α : Type} {p r s : α → Bool} : ∀ {l : List α}, (∀ x ∈ l, p x = (r x && s x)) → l.find? p = (l.filter r).find? s
  | [], _ => rfl
  | a :: l, h => by
    have ih := find_filter (l := l) fun x hx => h x (List.mem_cons_of_mem _ hx)
    have ha := h a List.mem_cons_self
    cases hr : r a with
    | false =>
      rw [List.filter_cons, hr]
      simp only [Bool.false_eq_true, if_false]
      rw [hr, Bool.false_and] at ha
      simp only [List.find?, ha]
      exact ih
    | true =>
      rw [List.filter_cons, hr]
      simp only [if_true]
      rw [hr, Bool.true_and] at ha
      simp only [List.find?, ha]
      cases s a <;> simp [ih]
theorem erase_filter {left : List Nat} {i : Nat} (hi : i < left.length) (hnd : left.Nodup) : left.eraseIdx i = left.filter fun x => !decide (x = left[i]) := by
  have hp := cons_erase hi
  have hnd2 : (left[i] :: left.eraseIdx i).Nodup := hp.nodup_iff.2 hnd
  have hnot := (List.nodup_cons.1 hnd2).1
  have hsplit : left = left.take i ++ left[i] :: left.drop (i + 1) := by rw [← List.drop_eq_getElem_cons hi, List.take_append_drop]
  generalize left[i] = a at *
  rw [List.eraseIdx_eq_take_drop_succ] at hnot ⊢
  conv => rhs; rw [hsplit]
  rw [List.filter_append, List.filter_cons]
  have h1 : (left.take i).filter (fun x => !decide (x = a)) = left.take i := by
    rw [List.filter_eq_self]
    intro x hx
    have : x ≠ a := fun e => hnot (by rw [← e]; exact List.mem_append_left _ hx)
    simp [this]
  have h2 : (left.drop (i + 1)).filter (fun x => !decide (x = a)) = left.drop (i + 1) := by
    rw [List.filter_eq_self]
    intro x hx
    have : x ≠ a := fun e => hnot (by rw [← e]; exact List.mem_append_right _ hx)
    simp [this]
  rw [h1, h2]
  simp
theorem ford_eq {E : List Nat} {L : List Edg} (G : GR E L) (l : List Nat) : ∀ (m : Nat) (left out : List Nat) (done : Nat), left.length = m → left = l.filter (fun x => !decide (x ∈ out)) → OInv L out left done → ordV E m left done out = rordV L l m out
  | 0, left, out, done, _, _, _ => rfl
  | m + 1, left, out, done, hl, hleft, H => by
    have hff : l.find? (nxP L out) = left.find? (okP E done) := by
      have h1 : l.find? (nxP L out) = (l.filter fun x => !decide (x ∈ out)).find? (fun x : Nat => (nxL L (x : Int) 64).all fun j => decide (j ∈ out)) := find_filter fun x _ => rfl
      rw [h1, ← hleft]
      have : ∀ (M : List Nat), (∀ x ∈ M, x ∈ left) → M.find? (fun x : Nat => (nxL L (x : Int) 64).all fun j => decide (j ∈ out)) = M.find? (okP E done) := by
        intro M
        induction M with
        | nil => intro _; rfl
        | cons a M ih =>
          intro hM
          have ha := hM a List.mem_cons_self
          have hao : a ∉ out := by
            rw [hleft] at ha
            have := (List.mem_filter.1 ha).2
            simpa using this
          have := nxP_ok G H (H.lt a ha) hao
          unfold nxP at this
          rw [show (!decide (a ∈ out)) = true by simp [hao], Bool.true_and] at this
          simp only [List.find?, this]
          cases okP E done a
          · exact ih fun x hx => hM x (List.mem_cons_of_mem _ hx)
          · rfl
      exact this left fun x hx => hx
    cases hf : left.findIdx? (okP E done) with
    | none =>
      have hn : ordV E (m + 1) left done out = none := by
        show (match left.findIdx? (okP E done) with | some i => _ | none => none) = none
        rw [hf]
      have hfn : left.find? (okP E done) = none := by
        rw [List.find?_eq_none]
        intro x hx
        have := List.findIdx?_eq_none_iff.1 hf x hx
        simp [this]
      rw [hn]
      show none = (match l.find? (nxP L out) with | some k => rordV L l m (out ++ [k]) | none => none)
      rw [hff, hfn]
    | some i =>
      obtain ⟨hi, hok, hno⟩ := List.findIdx?_eq_some_iff_getElem.1 hf
      have hgi : left[i]? = some left[i] := List.getElem?_eq_getElem hi
      have hgd : left.getD i 0 = left[i] := by rw [List.getD_eq_getElem?_getD, hgi]; rfl
      have hs : ordV E (m + 1) left done out = ordV E m (left.eraseIdx i) (done ||| 2 ^ left[i]) (out ++ [left[i]]) := by
        show (match left.findIdx? (okP E done) with | some i => ordV E m (left.eraseIdx i) (done ||| 2 ^ (left.getD i 0)) (out ++ [left.getD i 0]) | none => none) = _
        rw [hf]
        simp only [hgd]
      have hfs : left.find? (okP E done) = some left[i] := by
        refine find_at hgi ?_ hok
        rw [List.any_eq_false]
        intro x hx
        obtain ⟨j, hj⟩ := List.getElem?_of_mem hx
        have hjl : j < (left.take i).length := (List.getElem?_eq_some_iff.1 hj).1
        rw [List.length_take] at hjl
        rw [List.getElem?_take_of_lt (by omega)] at hj
        have := hno j (by omega)
        rw [List.getElem?_eq_getElem (by omega)] at hj
        obtain rfl := Option.some.inj hj
        exact this
      have hndl : left.Nodup := (List.nodup_append.1 H.nd).2.1
      rw [hs]
      show _ = (match l.find? (nxP L out) with | some k => rordV L l m (out ++ [k]) | none => none)
      rw [hff, hfs]
      refine ford_eq G l m _ _ _ (by rw [List.length_eraseIdx_of_lt hi]; omega) ?_ (H.step G hgi hok)
      rw [erase_filter hi hndl]
      generalize left[i] = a
      rw [hleft, List.filter_filter]
      refine List.filter_congr fun x _ => ?_
      rw [Bool.eq_iff_iff]
      simp only [Bool.and_eq_true, Bool.not_eq_true', decide_eq_false_iff_not, List.mem_append, List.mem_singleton, not_or]
      exact and_comm
theorem rord_eq {E : List Nat} {L : List Edg} (G : GR E L) : orderV E = rordV L ((List.range 64).filter (hasN L)) ((List.range 64).filter (hasN L)).length [] := by
  rw [all_eq G]
  refine ford_eq G _ _ _ _ _ rfl ?_ (ord_start G)
  symm
  rw [List.filter_eq_self]
  intro x _
  simp
end Go.AM
