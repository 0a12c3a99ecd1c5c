/- Waiting graphs: the document's least ring. Conditions: none. -/
import Derived.Test.YtdokijbheholdaaDoorWms
set_option linter.unusedVariables false
set_option linter.unusedSimpArgs false
set_option maxRecDepth 100000
namespace Go.AM
open Go.Proofs Go.Lib
-- LENS: gC_len, Edg.len, ixC_len, wC_len, bC_len
theorem rg_succ {β : Type} {f : Nat → Option β} {n : Nat} (h : (List.range n).findSome? f = none) : (List.range (n + 1)).findSome? f = f n := by
  rw [List.range_succ, List.findSome?_append, h]; simp
theorem rg_some {β : Type} {f : Nat → Option β} {N i : Nat} {y : β} (hi : i < N) (hn : (List.range i).findSome? f = none) (hy : f i = some y) : (List.range N).findSome? f = some y := by
  refine fs_some (i := i) (x := i) (List.getElem?_range hi) ?_ hy
  rw [List.take_range, Nat.min_eq_left (by omega)]; exact hn
set_option maxHeartbeats 16000000 in
theorem s14 {P : Program} {T : Tab} {K d : Nat} (S : Sd P T K) (hd : 20 ≤ d) {p : Nat} {q : SV} {L : List Edg} (hL : L.length ≤ 14) (lk : Nat) (h : List AO) (hlk : lk ≤ h.length) (hpl : p < h.length) (hp : cellsAt h p = some [q]) (hq : Rs Edg.cells 2 h q L) :
    Ends (fun v h' => Ext1 h h' ∧ ∃ q', v = .v (.sc q') ∧ Rs ixC 1 h' q' ((rringV L).getD [])) (ev P T K d 14 [.sc (.ptr p 0)] lk h) := by
  obtain ⟨d, rfl⟩ : ∃ k, d = k + 1 := ⟨d - 1, by omega⟩
  rw [ev_run (at14 S.t)]
  unfold i14 Tryd.f14
  have g0 : ([q] : List SV)[0]? = some q := rfl
  have hrv : rringV L = (List.range L.length).findSome? fun i => rszV L (i + 1) := by
    unfold rringV; rw [Nat.min_eq_right (by omega)]
  simp (maxSteps := 1000000) (disch := first | omega | (simp (disch := first | omega | (simp only [gC_len, Edg.len, ixC_len, wC_len, bC_len, List.length_append, List.length_cons, List.length_nil, List.length_set]; first | done | omega)) only [gC_len, Edg.len, ixC_len, wC_len, bC_len, amSide, Int.reduceToNat, Nat.reducePow, Nat.reduceMul]; first | done | omega)) only  [↓amPre, amPost, ↓s_lit', Nat.reduceAdd, Nat.reduceSub, List.replicate, retA, resultsA, resultA, toC, toCL, Nat.reduceEqDiff, lit_fill (un35 S.p) (sz3 S.p) (ze3 S.p), (fa26_0 S.p), len_sl (un22 S.p), len_nils (un22 S.p), part_sc (ag22 S.p)]
  refine ends_loop (X := ThY) ⟨0, h⟩ [2, 4, 5, 6, 7, 8, 9, 10, 11, 12, 13, 14, 15, 16, 17, 18, 19, 20, 21, 22, 23, 24, 25, 26, 27, 28, 29, 30, 31, 32, 33] (fun x => x.i ≤ L.length ∧ Ext1 h x.h ∧ (List.range x.i).findSome? (fun i => rszV L (i + 1)) = none) (fun x => L.length - x.i)
    (fun x e => e.set 3 (.v (.sc (.int .i64 ((x.i + 1 : Nat) : Int))))) (fun x => x.h)
    (by have := S.k; show _ < K; simp only; omega) ⟨by simp only; omega, Ext1.refl _, rfl⟩ rfl rfl ?_
  rintro ⟨i, h1⟩ ⟨hi, hx, hno⟩ again hag e he
  simp only at hi hx hno hag he
  simp only [↓amPre, amPost, ↓s_lit', Nat.reduceAdd, Nat.reduceSub, List.replicate, retA, resultsA, resultA, toC, toCL, Nat.reduceEqDiff] at he
  have hle := hx.len
  have hp1 : cellsAt h1 p = some [q] := by rw [hx.cells hpl]; exact hp
  have hlen := hq.len (un22 S.p)
  by_cases hc1 : i < L.length
  · simp (maxSteps := 1000000) (disch := first | omega | (simp (disch := first | omega | (simp only [gC_len, Edg.len, ixC_len, wC_len, bC_len, List.length_append, List.length_cons, List.length_nil, List.length_set]; first | done | omega)) only [gC_len, Edg.len, ixC_len, wC_len, bC_len, amSide, Int.reduceToNat, Nat.reducePow, Nat.reduceMul]; first | done | omega)) only  [↓amPre, amPost, ↓s_lit', Nat.reduceAdd, Nat.reduceSub, List.replicate, retA, resultsA, resultA, toC, toCL, Nat.reduceEqDiff, he, lit_fill (un35 S.p) (sz3 S.p) (ze3 S.p), (fa26_0 S.p), len_sl (un22 S.p), len_nils (un22 S.p), part_sc (ag22 S.p), hp1, g0, hlen, dec_t, Nat.add_zero]
    refine ends_loop (X := ThY) ⟨0, h1⟩ [2, 5, 6, 20, 21, 22, 23, 24, 25, 26, 27, 28, 29, 30, 31, 32, 33] (fun x => x.i ≤ 64 ∧ Ext1 h1 x.h ∧ (List.range x.i).findSome? (fun s => lngV L i [s]) = none) (fun x => 64 - x.i)
      (fun x e => e.set 4 (.v (.sc (.int .i64 x.i)))) (fun x => x.h)
      (by have := S.k; show _ < K; simp only; omega) ⟨by simp only; omega, Ext1.refl _, rfl⟩ rfl rfl ?_
    clear he
    rintro ⟨s, h2⟩ ⟨hs, hx2, hno2⟩ again2 hag2 e2 he2
    simp only at hs hx2 hno2 hag2 he2
    simp only [↓amPre, amPost, ↓s_lit', Nat.reduceAdd, Nat.reduceSub, List.replicate, retA, resultsA, resultA, toC, toCL, Nat.reduceEqDiff] at he2
    have hle2 := hx2.len
    simp only [↓amPre, amPost, ↓s_lit', Nat.reduceAdd, Nat.reduceSub, List.replicate, retA, resultsA, resultA, toC, toCL, Nat.reduceEqDiff, he2]
    refine ends_cond (fun hc2 => ?_) (fun hc2 => ?_)
    · simp only [decide_eq_true_eq] at hc2
      have hx3 : Ext1 h2 (h2 ++ [.rw 3 [.int .i64 (s : Nat)]]) := (Ext1.refl h2).push _
      have r3 : Rs ixC 1 (h2 ++ [.rw 3 [.int .i64 (s : Nat)]]) (.sl h2.length 0 1 1) [s] := .inr ⟨h2.length, rfl, by simp, cells_self _ _ _ rfl⟩
      have hx03 := (hx.trans hx2).trans hx3
      obtain ⟨v4, h4, e31, hx4, q4, hv4⟩ := s31 S (p := p) (q := q) (show L.length ≤ 200 by omega) i d (by omega) (i + 1) _ [s] lk (h2 ++ [.rw 3 [.int .i64 (s : Nat)]]) (by simp) (by simp; omega) (by omega) (by simp; omega) (by simp; omega) (by rw [hx03.cells hpl]; exact hp) (hq.ext hx03) r3
      have hx14 := (hx2.trans hx3).trans hx4
      cases hlg : lngV L i [s] with
      | none =>
        rw [hlg] at hv4
        simp only at hv4
        subst hv4
        have := hag2 ⟨s + 1, h4⟩ ⟨by simp only; omega, hx14, by simp only [rg_succ hno2]; exact hlg⟩ (by simp only; omega)
        clear hag hag2
        simp (maxSteps := 1000000) (disch := first | omega | (simp (disch := first | omega | (simp only [gC_len, Edg.len, ixC_len, wC_len, bC_len, List.length_append, List.length_cons, List.length_nil, List.length_set]; first | done | omega)) only [gC_len, Edg.len, ixC_len, wC_len, bC_len, amSide, Int.reduceToNat, Nat.reducePow, Nat.reduceMul]; first | done | omega)) only  [↓amPre, amPost, ↓s_lit', Nat.reduceAdd, Nat.reduceSub, List.replicate, retA, resultsA, resultA, toC, toCL, Nat.reduceEqDiff, he2, lit_fill (un35 S.p) (sz3 S.p) (ze3 S.p), (fa26_0 S.p), len_sl (un22 S.p), len_nils (un22 S.p), part_sc (ag22 S.p), e31, List.flatten_cons, List.flatten_nil, List.append_nil, Nat.one_mul, Nat.zero_mul, splice_one, Nat.zero_add, wrap_i64]
        refine this _ ?_
        simp (maxSteps := 1000000) (disch := first | omega | (simp (disch := first | omega | (simp only [gC_len, Edg.len, ixC_len, wC_len, bC_len, List.length_append, List.length_cons, List.length_nil, List.length_set]; first | done | omega)) only [gC_len, Edg.len, ixC_len, wC_len, bC_len, amSide, Int.reduceToNat, Nat.reducePow, Nat.reduceMul]; first | done | omega)) only [↓amPre, amPost, ↓s_lit', Nat.reduceAdd, Nat.reduceSub, List.replicate, retA, resultsA, resultA, toC, toCL, Nat.reduceEqDiff, Int.natCast_add, Int.cast_ofNat_Int, dec_t, dec_f]
      | some out =>
        rw [hlg] at hv4
        simp only at hv4
        obtain ⟨rfl, r4⟩ := hv4
        have hrs : rszV L (i + 1) = some out := rg_some (f := fun s => lngV L i [s]) (show s < 64 by omega) hno2 hlg
        rw [hrv, rg_some hc1 hno hrs]
        clear hag hag2
        simp (maxSteps := 1000000) (disch := first | omega | (simp (disch := first | omega | (simp only [gC_len, Edg.len, ixC_len, wC_len, bC_len, List.length_append, List.length_cons, List.length_nil, List.length_set]; first | done | omega)) only [gC_len, Edg.len, ixC_len, wC_len, bC_len, amSide, Int.reduceToNat, Nat.reducePow, Nat.reduceMul]; first | done | omega)) only  [↓amPre, amPost, ↓s_lit', Nat.reduceAdd, Nat.reduceSub, List.replicate, retA, resultsA, resultA, toC, toCL, Nat.reduceEqDiff, he2, lit_fill (un35 S.p) (sz3 S.p) (ze3 S.p), (fa26_0 S.p), len_sl (un22 S.p), len_nils (un22 S.p), part_sc (ag22 S.p), e31, List.flatten_cons, List.flatten_nil, List.append_nil, Nat.one_mul, Nat.zero_mul, splice_one, Nat.zero_add, wrap_i64]
        exact Ends.some ⟨hx.trans hx14, _, rfl, r4⟩
    · simp only [decide_eq_false_iff_not] at hc2
      obtain rfl : s = 64 := by omega
      clear hag2
      have := hag ⟨i + 1, h2⟩ ⟨by simp only; omega, hx.trans hx2, by simp only [rg_succ hno]; exact hno2⟩ (by simp only; omega)
      clear hag
      simp (maxSteps := 1000000) (disch := first | omega | (simp (disch := first | omega | (simp only [gC_len, Edg.len, ixC_len, wC_len, bC_len, List.length_append, List.length_cons, List.length_nil, List.length_set]; first | done | omega)) only [gC_len, Edg.len, ixC_len, wC_len, bC_len, amSide, Int.reduceToNat, Nat.reducePow, Nat.reduceMul]; first | done | omega)) only  [↓amPre, amPost, ↓s_lit', Nat.reduceAdd, Nat.reduceSub, List.replicate, retA, resultsA, resultA, toC, toCL, Nat.reduceEqDiff, he2, lit_fill (un35 S.p) (sz3 S.p) (ze3 S.p), (fa26_0 S.p), len_sl (un22 S.p), len_nils (un22 S.p), part_sc (ag22 S.p), wrap_i64]
      refine this _ ?_
      simp (maxSteps := 1000000) (disch := first | omega | (simp (disch := first | omega | (simp only [gC_len, Edg.len, ixC_len, wC_len, bC_len, List.length_append, List.length_cons, List.length_nil, List.length_set]; first | done | omega)) only [gC_len, Edg.len, ixC_len, wC_len, bC_len, amSide, Int.reduceToNat, Nat.reducePow, Nat.reduceMul]; first | done | omega)) only [↓amPre, amPost, ↓s_lit', Nat.reduceAdd, Nat.reduceSub, List.replicate, retA, resultsA, resultA, toC, toCL, Nat.reduceEqDiff, Int.natCast_add, Int.cast_ofNat_Int, dec_t, dec_f]
  · obtain rfl : i = L.length := by omega
    rw [hrv, hno]
    simp (maxSteps := 1000000) (disch := first | omega | (simp (disch := first | omega | (simp only [gC_len, Edg.len, ixC_len, wC_len, bC_len, List.length_append, List.length_cons, List.length_nil, List.length_set]; first | done | omega)) only [gC_len, Edg.len, ixC_len, wC_len, bC_len, amSide, Int.reduceToNat, Nat.reducePow, Nat.reduceMul]; first | done | omega)) only  [↓amPre, amPost, ↓s_lit', Nat.reduceAdd, Nat.reduceSub, List.replicate, retA, resultsA, resultA, toC, toCL, Nat.reduceEqDiff, he, lit_fill (un35 S.p) (sz3 S.p) (ze3 S.p), (fa26_0 S.p), len_sl (un22 S.p), len_nils (un22 S.p), part_sc (ag22 S.p), hp1, g0, hlen, dec_t, dec_f, Nat.add_zero]
    exact Ends.some ⟨hx, _, rfl, .inl ⟨rfl, rfl⟩⟩
end Go.AM
/- Waiting graphs: the least ring, and the order, of any graph are the document's. Conditions: none. -/
set_option linter.unusedVariables false
set_option linter.unusedSimpArgs false
set_option maxRecDepth 100000
namespace Go.AM
open Go.Proofs Go.Lib
-- LENS: gC_len, Edg.len, ixC_len, wC_len, bC_len
theorem s6 {P : Program} {T : Tab} {K d : Nat} (S : Sd P T K) (hd : 1 ≤ d) (q : SV) (l : List Edg) (lk : Nat) (h : List AO) (hq : Rs Edg.cells 2 h q l) :
    ev P T K d 6 [.sc q] lk h = some (.v (.sc (.bool (decide (14 < (l.length : Int))))), h) := by
  obtain ⟨d, rfl⟩ : ∃ k, d = k + 1 := ⟨d - 1, by omega⟩
  refine ev_pure (at6 S.t) rfl ?_
  unfold i6 Tryd.f6
  have hlen := hq.len (un22 S.p)
  simp (maxSteps := 1000000) (disch := first | omega | (simp (disch := first | omega | (simp only [gC_len, Edg.len, ixC_len, wC_len, bC_len, List.length_append, List.length_cons, List.length_nil, List.length_set]; first | done | omega)) only [gC_len, Edg.len, ixC_len, wC_len, bC_len, amSide, Int.reduceToNat, Nat.reducePow, Nat.reduceMul]; first | done | omega)) only  [↓amPre, amPost, ↓s_lit', Nat.reduceAdd, Nat.reduceSub, List.replicate, retA, resultsA, resultA, toC, toCL, Nat.reduceEqDiff, len_sl (un22 S.p), len_nils (un22 S.p), hlen]
  exact Ends.some rfl
set_option maxHeartbeats 16000000 in
theorem s3a {P : Program} {T : Tab} {K d : Nat} (S : Sd P T K) (hd : 22 ≤ d) (q : SV) (l : List Edg) (lk : Nat) (h : List AO) (hT : tabB 0 h = true) (hq : Rs Edg.cells 2 h q l) :
    ev P T K d 3 [.sc q] lk h = some (.v (.sc (.bool true)), h) := by
  obtain ⟨d, rfl⟩ : ∃ k, d = k + 1 := ⟨d - 1, by omega⟩
  refine ev_pure (at3 S.t) rfl ?_
  unfold i3 Tryd.f3
  have hlen := hq.len (un22 S.p)
  have f6 := fun lk => s6 S (show 1 ≤ d by omega) q l lk h hq
  by_cases hc : 14 < l.length
  · have f7 := fun lk => s7 S (show 5 ≤ d by omega) lk h hT
    simp (maxSteps := 1000000) (disch := first | omega | (simp (disch := first | omega | (simp only [gC_len, Edg.len, ixC_len, wC_len, bC_len, List.length_append, List.length_cons, List.length_nil, List.length_set]; first | done | omega)) only [gC_len, Edg.len, ixC_len, wC_len, bC_len, amSide, Int.reduceToNat, Nat.reducePow, Nat.reduceMul]; first | done | omega)) only  [↓amPre, amPost, ↓s_lit', Nat.reduceAdd, Nat.reduceSub, List.replicate, retA, resultsA, resultA, toC, toCL, Nat.reduceEqDiff, (ze26 S.p), (ze28 S.p), (ze33 S.p), eql_bool (un4 S.p), neq_bool (un4 S.p), (fa28_0 S.p), (fa28_1 S.p), iaddr_sl (un22 S.p) (sz28 S.p), len_sl (un22 S.p), len_nils (un22 S.p), part_all (ag28 S.p) (sz28 S.p), part_at (ag28 S.p) (sz28 S.p), part_sc (ag3 S.p), part_all (ag33 S.p) (sz33 S.p), part_at (ag33 S.p) (sz33 S.p), store_last (sz28 S.p), (sz28 S.p), store_last (sz33 S.p), (sz33 S.p), f6, f7, dec_t]
    exact Ends.some rfl
  · simp (maxSteps := 1000000) (disch := first | omega | (simp (disch := first | omega | (simp only [gC_len, Edg.len, ixC_len, wC_len, bC_len, List.length_append, List.length_cons, List.length_nil, List.length_set]; first | done | omega)) only [gC_len, Edg.len, ixC_len, wC_len, bC_len, amSide, Int.reduceToNat, Nat.reducePow, Nat.reduceMul]; first | done | omega)) only  [↓amPre, amPost, ↓s_lit', Nat.reduceAdd, Nat.reduceSub, List.replicate, retA, resultsA, resultA, toC, toCL, Nat.reduceEqDiff, (ze26 S.p), (ze28 S.p), (ze33 S.p), eql_bool (un4 S.p), neq_bool (un4 S.p), (fa28_0 S.p), (fa28_1 S.p), iaddr_sl (un22 S.p) (sz28 S.p), len_sl (un22 S.p), len_nils (un22 S.p), part_all (ag28 S.p) (sz28 S.p), part_at (ag28 S.p) (sz28 S.p), part_sc (ag3 S.p), part_all (ag33 S.p) (sz33 S.p), part_at (ag33 S.p) (sz33 S.p), store_last (sz28 S.p), (sz28 S.p), store_last (sz33 S.p), (sz33 S.p), f6, hlen, dec_f]
    refine ends_loop (X := ThH) ⟨0, h ++ [.rw 26 [.nils]]⟩ [5, 17, 18, 19, 20, 21, 22, 23, 24, 25]
      (fun x => x.i ≤ l.length ∧ Ext1 h x.h ∧ h.length < x.h.length ∧ ∃ q', x.h[h.length]? = some (.rw 26 [q']) ∧ Rs Edg.cells 2 x.h q' (gL l x.i)) (fun x => l.length - x.i)
      (fun x e => e.set 16 (.v (.sc (.int .i64 x.i)))) (fun x => x.h)
      (by have := S.k; show _ < K; simp only; omega) ⟨by simp only; omega, (Ext1.refl h).push _, by simp, .nils, by simp, .inl ⟨rfl, rfl⟩⟩ rfl rfl ?_
    rintro ⟨i, hj⟩ ⟨hi, hx, hlt, q', hp, hr⟩ again hag e he
    simp only at hi hx hlt hp hr hag he
    simp only [↓amPre, amPost, ↓s_lit', Nat.reduceAdd, Nat.reduceSub, List.replicate, retA, resultsA, resultA, toC, toCL, Nat.reduceEqDiff] at he
    simp only [↓amPre, amPost, ↓s_lit', Nat.reduceAdd, Nat.reduceSub, List.replicate, retA, resultsA, resultA, toC, toCL, Nat.reduceEqDiff, he]
    have hTj := tabB_ext hT hx
    have hLl := gL_len l i
    refine ends_cond (fun hc1 => ?_) (fun hc1 => ?_)
    · simp only [decide_eq_true_eq] at hc1
      obtain ⟨b, rfl, hb, hcl⟩ := hq.at (by omega)
      obtain ⟨y, hy⟩ : ∃ y, l[i]? = some y := ⟨_, List.getElem?_eq_getElem (by omega)⟩
      have hpt := recs_part (ag28 S.p) (sz28 S.p) Edg.len hy
      have hcj : cellsAt hj b = some (recs Edg.cells l) := by rw [hx.cells hb]; exact hcl
      have y0 := Edg.c0 y
      have y1 := Edg.c1 y
      obtain ⟨H1, hH1⟩ : ∃ H1, H1 = hj ++ [AO.rw 28 y.cells] := ⟨_, rfl⟩
      have hl1 : H1.length = hj.length + 1 := by rw [hH1]; simp
      have x1 : Ext1 hj H1 := by rw [hH1]; exact (Ext1.refl hj).push _
      obtain ⟨v2, H2, e8, hv2, hl2, hE2, hK2, q2, hp2, hr2⟩ := s8 S (show 2 ≤ d by omega) (L := gL l i) (by omega) y.f y.t h.length H1 (Nat.le_refl _) (by omega) (by rw [x1.get hlt]; exact hp) (hr.ext x1)
      subst hv2
      rw [hH1] at e8
      have cy : cellsAt (hj ++ [AO.rw 28 y.cells]) hj.length = some y.cells := by unfold cellsAt; simp
      have hagx := hag ⟨i + 1, H2⟩ ⟨by simp only; omega, hE2 h (hx.trans x1) (Nat.le_refl _), by simp only; omega, q2, hp2, by
        simp only; rw [gL_add l hy]; exact hr2⟩ (by simp only; omega)
      clear hag hE2 hK2 hp2 hr2
      simp (maxSteps := 1000000) (disch := first | omega | (simp (disch := first | omega | (simp only [gC_len, Edg.len, ixC_len, wC_len, bC_len, List.length_append, List.length_cons, List.length_nil, List.length_set]; first | done | omega)) only [gC_len, Edg.len, ixC_len, wC_len, bC_len, amSide, Int.reduceToNat, Nat.reducePow, Nat.reduceMul]; first | done | omega)) only  [↓amPre, amPost, ↓s_lit', Nat.reduceAdd, Nat.reduceSub, List.replicate, retA, resultsA, resultA, toC, toCL, Nat.reduceEqDiff, he, (ze26 S.p), (ze28 S.p), (ze33 S.p), eql_bool (un4 S.p), neq_bool (un4 S.p), (fa28_0 S.p), (fa28_1 S.p), iaddr_sl (un22 S.p) (sz28 S.p), len_sl (un22 S.p), len_nils (un22 S.p), part_all (ag28 S.p) (sz28 S.p), part_at (ag28 S.p) (sz28 S.p), part_sc (ag3 S.p), part_all (ag33 S.p) (sz33 S.p), part_at (ag33 S.p) (sz33 S.p), store_last (sz28 S.p), (sz28 S.p), store_last (sz33 S.p), (sz33 S.p), idx_ok, hcj, hpt, y0, y1, cy, e8, cells_self, cells_other, Int.toNat_natCast, Nat.zero_add, wrap_i64]
      refine hagx _ ?_
      simp (maxSteps := 1000000) (disch := first | omega | (simp (disch := first | omega | (simp only [gC_len, Edg.len, ixC_len, wC_len, bC_len, List.length_append, List.length_cons, List.length_nil, List.length_set]; first | done | omega)) only [gC_len, Edg.len, ixC_len, wC_len, bC_len, amSide, Int.reduceToNat, Nat.reducePow, Nat.reduceMul]; first | done | omega)) only [↓amPre, amPost, ↓s_lit', Nat.reduceAdd, Nat.reduceSub, List.replicate, retA, resultsA, resultA, toC, toCL, Nat.reduceEqDiff, Int.natCast_add, Int.cast_ofNat_Int, dec_t, dec_f]
    · simp only [decide_eq_false_iff_not] at hc1
      obtain rfl : i = l.length := by omega
      clear hag
      have e9 := fun lk => s9 S (show 3 ≤ d by omega) q l (by omega) lk hj (hq.ext hx)
      have G := gr_of l l.length (Nat.le_refl _)
      have Go := G.ok
      generalize gE l l.length = E at *
      generalize gL l l.length = L at *
      have hgl := Go.len
      have hgc := gC_len E
      have hx0 : Ext1 hj (hj ++ [.rw 33 (gC E)]) := (Ext1.refl hj).push _
      have hT0 := tabB_ext hTj hx0
      have c0 : cellsAt (hj ++ [.rw 33 (gC E)]) hj.length = some (gC E) := by unfold cellsAt; simp
      have cp : cellsAt hj h.length = some [q'] := by unfold cellsAt; rw [hp]
      have pE := part_self (ag33 S.p) (sz33 S.p) (gC E) (by rw [gC_len]; exact hgl)
      obtain ⟨v1, h1, e10, hx1, hv1⟩ := s10 S (show 3 ≤ d by omega) Go h.length _ (by simp; omega) hT0
      change (match orderV E with | some out => ∃ q', v1 = .tup [.sc q', .sc (.bool true)] ∧ Rs ixC 1 h1 q' out | none => v1 = .tup [.sc .nils, .sc (.bool false)]) at hv1
      have hle1 := hx1.len
      simp only [List.length_append, List.length_singleton] at hle1
      have x01 := hx0.trans hx1
      obtain ⟨v2, h2, e11, hx2, hv2⟩ := s11 S (show 3 ≤ d by omega) (p := h.length) G (by omega) h.length h1 (by omega) (by omega) (by rw [x01.cells hlt]; exact cp) (hr.ext x01)
      have hle2 := hx2.len
      have x02 := x01.trans hx2
      have hT2 := tabB_ext hTj x02
      obtain ⟨v3, h3, e13, hx3, q3, rfl, r3⟩ := s13 S (show 4 ≤ d by omega) Go h.length h2 (by omega) hT2
      have hle3 := hx3.len
      have x03 := x02.trans hx3
      have hT3 := tabB_ext hTj x03
      obtain ⟨v4, h4, e14, hx4, q4, rfl, r4⟩ := s14 S (show 20 ≤ d by omega) (p := h.length) (show L.length ≤ 14 by omega) h.length h3 (by omega) (by omega) (by rw [x03.cells hlt]; exact cp) (hr.ext x03)
      rw [rring_eq G] at r4
      have hT4 := tabB_ext hT3 hx4
      have hRl : (ringV E).length ≤ 64 := (ring_all G).2.2.1
      have e12 := fun lk => s12 S (show 1 ≤ d by omega) (show (ringV E).length ≤ 200 by omega) (show (ringV E).length ≤ 200 by omega) lk h4 (r3.ext hx4) r4
      have f7 := fun lk => s7 S (show 5 ≤ d by omega) lk h4 hT4
      have c2 : cellsAt h2 hj.length = some (gC E) := by rw [(hx1.trans hx2).cells (by simp)]; exact c0
      cases ho : orderV E with
      | none =>
        rw [ho] at hv1 hv2
        simp only at hv1 hv2
        subst hv1; subst hv2
        have e12' := fun lk => s12 S (show 1 ≤ d by omega) (a := []) (b := []) (by simp) (by simp) lk h4 (.inl ⟨rfl, rfl⟩) (.inl ⟨rfl, rfl⟩)
        clear hr hp hlen hx hx0 hx1 hx2 hx3 hx4 x01 x02 x03 r3 r4
        simp (maxSteps := 1000000) (disch := first | omega | (simp (disch := first | omega | (simp only [gC_len, Edg.len, ixC_len, wC_len, bC_len, List.length_append, List.length_cons, List.length_nil, List.length_set]; first | done | omega)) only [gC_len, Edg.len, ixC_len, wC_len, bC_len, amSide, Int.reduceToNat, Nat.reducePow, Nat.reduceMul]; first | done | omega)) only  [↓amPre, amPost, ↓s_lit', Nat.reduceAdd, Nat.reduceSub, List.replicate, retA, resultsA, resultA, toC, toCL, Nat.reduceEqDiff, he, (ze26 S.p), (ze28 S.p), (ze33 S.p), eql_bool (un4 S.p), neq_bool (un4 S.p), (fa28_0 S.p), (fa28_1 S.p), iaddr_sl (un22 S.p) (sz28 S.p), len_sl (un22 S.p), len_nils (un22 S.p), part_all (ag28 S.p) (sz28 S.p), part_at (ag28 S.p) (sz28 S.p), part_sc (ag3 S.p), part_all (ag33 S.p) (sz33 S.p), part_at (ag33 S.p) (sz33 S.p), store_last (sz28 S.p), (sz28 S.p), store_last (sz33 S.p), (sz33 S.p), e9, c0, pE, e10, e11, c2, e13, e14, e12, e12', f7, dec_t, cells_self, beq_self_eq_true]
        exact Ends.some rfl
      | some out =>
        rw [ho] at hv1 hv2
        simp only at hv1 hv2
        obtain ⟨q5, rfl, r5⟩ := hv1
        obtain ⟨q6, rfl, r6⟩ := hv2
        have hol : out.length ≤ 64 := by
          have := ord_len _ _ [] out 0 rfl ho
          rw [this, List.length_nil]
          have := bl_len (allE E 64)
          omega
        have e12' := fun lk => s12 S (show 1 ≤ d by omega) (show out.length ≤ 200 by omega) (show out.length ≤ 200 by omega) lk h4 (((r5.ext hx2).ext hx3).ext hx4) ((r6.ext hx3).ext hx4)
        clear hr hp hlen hx hx0 hx1 hx2 hx3 hx4 x01 x02 x03 r3 r4 r5 r6
        simp (maxSteps := 1000000) (disch := first | omega | (simp (disch := first | omega | (simp only [gC_len, Edg.len, ixC_len, wC_len, bC_len, List.length_append, List.length_cons, List.length_nil, List.length_set]; first | done | omega)) only [gC_len, Edg.len, ixC_len, wC_len, bC_len, amSide, Int.reduceToNat, Nat.reducePow, Nat.reduceMul]; first | done | omega)) only  [↓amPre, amPost, ↓s_lit', Nat.reduceAdd, Nat.reduceSub, List.replicate, retA, resultsA, resultA, toC, toCL, Nat.reduceEqDiff, he, (ze26 S.p), (ze28 S.p), (ze33 S.p), eql_bool (un4 S.p), neq_bool (un4 S.p), (fa28_0 S.p), (fa28_1 S.p), iaddr_sl (un22 S.p) (sz28 S.p), len_sl (un22 S.p), len_nils (un22 S.p), part_all (ag28 S.p) (sz28 S.p), part_at (ag28 S.p) (sz28 S.p), part_sc (ag3 S.p), part_all (ag33 S.p) (sz33 S.p), part_at (ag33 S.p) (sz33 S.p), store_last (sz28 S.p), (sz28 S.p), store_last (sz33 S.p), (sz33 S.p), e9, c0, pE, e10, e11, c2, e13, e14, e12, e12', f7, dec_t, cells_self, beq_self_eq_true]
        exact Ends.some rfl
end Go.AM
