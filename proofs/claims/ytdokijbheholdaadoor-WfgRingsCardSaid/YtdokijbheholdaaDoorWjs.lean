/- Waiting graphs: the document's Has, Next; two lists compared. Conditions: none. -/
import Derived.Test.YtdokijbheholdaaDoorWi7
set_option linter.unusedVariables false
set_option linter.unusedSimpArgs false
set_option maxRecDepth 100000
namespace Go.AM
open Go.Proofs Go.Lib
-- LENS: gC_len, Edg.len, ixC_len, wC_len
def eqE (a b : Int) (e : Edg) : Bool := e.f == a && e.t == b
theorem eqE_mem (a b : Int) (L : List Edg) : L.any (eqE a b) = decide ((⟨a, b⟩ : Edg) ∈ L) := by
  rw [Bool.eq_iff_iff, List.any_eq_true, decide_eq_true_eq]
  constructor
  · rintro ⟨⟨f, t⟩, h1, h2⟩
    simp only [eqE, Bool.and_eq_true, beq_iff_eq] at h2
    obtain ⟨rfl, rfl⟩ := h2
    exact h1
  · intro h
    exact ⟨_, h, by simp [eqE]⟩
theorem any_at {α : Type} {p : α → Bool} {l : List α} {x : α} {i : Nat} (h : l[i]? = some x) (hp : p x = true) : l.any p = true := by
  rw [List.any_eq_true]
  exact ⟨x, List.mem_of_getElem? h, hp⟩
set_option maxHeartbeats 4000000 in
theorem s17 {P : Program} {T : Tab} {K d : Nat} (S : Sd P T K) (hd : 1 ≤ d) {p : Nat} {q : SV} {L : List Edg} (hL : L.length ≤ 200) (a b : Int) (lk : Nat) (h : List AO) (hp : cellsAt h p = some [q]) (hq : Rs Edg.cells 2 h q L) :
    ev P T K d 17 [.sc (.ptr p 0), .sc (.int .i64 a), .sc (.int .i64 b)] lk h = some (.v (.sc (.bool (decide ((⟨a, b⟩ : Edg) ∈ L)))), h) := by
  obtain ⟨d, rfl⟩ : ∃ k, d = k + 1 := ⟨d - 1, by omega⟩
  refine ev_pure (at17 S.t) rfl ?_
  unfold i17 Tryd.f17
  have hlen := hq.len (un22 S.p)
  have g0 : ([q] : List SV)[0]? = some q := rfl
  rw [← eqE_mem]
  simp (maxSteps := 1000000) (disch := first | omega | (simp (disch := first | omega | (simp only [gC_len, Edg.len, ixC_len, wC_len, List.length_append, List.length_cons, List.length_nil, List.length_set]; first | done | omega)) only [gC_len, Edg.len, ixC_len, wC_len, amSide, Int.reduceToNat, Nat.reducePow, Nat.reduceMul]; first | done | omega)) only  [↓amPre, amPost, ↓s_lit', Nat.reduceAdd, Nat.reduceSub, List.replicate, retA, resultsA, resultA, toC, toCL, Nat.reduceEqDiff, (fa26_0 S.p), (fa28_0 S.p), (fa28_1 S.p), iaddr_sl (un22 S.p) (sz28 S.p), len_sl (un22 S.p), len_nils (un22 S.p), part_sc (ag22 S.p), part_sc (ag3 S.p)]
  refine ends_loop (X := ThN) ⟨0⟩ [6, 8, 9, 10, 11, 12, 13, 14, 15, 16, 17, 18, 19, 20, 21, 22, 23, 24, 25, 26, 27, 28, 29, 30, 31, 32, 33, 34, 35, 36, 37, 38] (fun x => x.i ≤ L.length ∧ (L.take x.i).any (eqE a b) = false) (fun x => L.length - x.i)
    (fun x e => e.set 7 (.v (.sc (.int .i64 x.i)))) (fun x => h)
    (by have := S.k; show _ < K; simp only; omega) ⟨by simp only; omega, rfl⟩ rfl rfl ?_
  rintro ⟨i⟩ ⟨hi, hno⟩ again hag e he
  simp only at hi hno hag he
  simp only [↓amPre, amPost, ↓s_lit', Nat.reduceAdd, Nat.reduceSub, List.replicate, retA, resultsA, resultA, toC, toCL, Nat.reduceEqDiff] at he
  simp only [↓amPre, amPost, ↓s_lit', Nat.reduceAdd, Nat.reduceSub, List.replicate, retA, resultsA, resultA, toC, toCL, Nat.reduceEqDiff, he]
  simp (maxSteps := 1000000) (disch := first | omega | (simp (disch := first | omega | (simp only [gC_len, Edg.len, ixC_len, wC_len, List.length_append, List.length_cons, List.length_nil, List.length_set]; first | done | omega)) only [gC_len, Edg.len, ixC_len, wC_len, amSide, Int.reduceToNat, Nat.reducePow, Nat.reduceMul]; first | done | omega)) only  [↓amPre, amPost, ↓s_lit', Nat.reduceAdd, Nat.reduceSub, List.replicate, retA, resultsA, resultA, toC, toCL, Nat.reduceEqDiff, he, (fa26_0 S.p), (fa28_0 S.p), (fa28_1 S.p), iaddr_sl (un22 S.p) (sz28 S.p), len_sl (un22 S.p), len_nils (un22 S.p), part_sc (ag22 S.p), part_sc (ag3 S.p), hp, g0, hlen, Nat.add_zero]
  refine ends_cond (fun hc1 => ?_) (fun hc1 => ?_)
  · simp only [decide_eq_true_eq] at hc1
    obtain ⟨bl_, rfl, hb, hc⟩ := hq.at (by omega)
    obtain ⟨y, hy⟩ : ∃ y, L[i]? = some y := ⟨_, List.getElem?_eq_getElem (by omega)⟩
    have p0 := recs_get0 Edg.len hy (by omega)
    have p1 := recs_get Edg.len hy 1 (by omega)
    rw [Edg.c0] at p0
    rw [Edg.c1] at p1
    have hsn : (L.take (i + 1)).any (eqE a b) = eqE a b y := by rw [List.take_add_one, hy, List.any_append, hno]; simp
    by_cases c1 : y.f = a
    · by_cases c2 : y.t = b
      · have hany : L.any (eqE a b) = true := any_at hy (by simp [eqE, c1, c2])
        rw [hany]
        simp (maxSteps := 1000000) (disch := first | omega | (simp (disch := first | omega | (simp only [gC_len, Edg.len, ixC_len, wC_len, List.length_append, List.length_cons, List.length_nil, List.length_set]; first | done | omega)) only [gC_len, Edg.len, ixC_len, wC_len, amSide, Int.reduceToNat, Nat.reducePow, Nat.reduceMul]; first | done | omega)) only  [↓amPre, amPost, ↓s_lit', Nat.reduceAdd, Nat.reduceSub, List.replicate, retA, resultsA, resultA, toC, toCL, Nat.reduceEqDiff, he, (fa26_0 S.p), (fa28_0 S.p), (fa28_1 S.p), iaddr_sl (un22 S.p) (sz28 S.p), len_sl (un22 S.p), len_nils (un22 S.p), part_sc (ag22 S.p), part_sc (ag3 S.p), hp, g0, idx_ok, hc, p0, p1, beqI_t, Int.toNat_natCast, Nat.add_zero]
        exact Ends.some rfl
      · have hn : eqE a b y = false := by simp [eqE, c2]
        rw [hn] at hsn
        simp (maxSteps := 1000000) (disch := first | omega | (simp (disch := first | omega | (simp only [gC_len, Edg.len, ixC_len, wC_len, List.length_append, List.length_cons, List.length_nil, List.length_set]; first | done | omega)) only [gC_len, Edg.len, ixC_len, wC_len, amSide, Int.reduceToNat, Nat.reducePow, Nat.reduceMul]; first | done | omega)) only  [↓amPre, amPost, ↓s_lit', Nat.reduceAdd, Nat.reduceSub, List.replicate, retA, resultsA, resultA, toC, toCL, Nat.reduceEqDiff, he, (fa26_0 S.p), (fa28_0 S.p), (fa28_1 S.p), iaddr_sl (un22 S.p) (sz28 S.p), len_sl (un22 S.p), len_nils (un22 S.p), part_sc (ag22 S.p), part_sc (ag3 S.p), hp, g0, idx_ok, hc, p0, p1, beqI_t, beqI_f, Int.toNat_natCast, Nat.add_zero, wrap_i64]
        refine hag ⟨i + 1⟩ ⟨by simp only; omega, hsn⟩ (by simp only; omega) _ ?_
        simp (maxSteps := 1000000) (disch := first | omega | (simp (disch := first | omega | (simp only [gC_len, Edg.len, ixC_len, wC_len, List.length_append, List.length_cons, List.length_nil, List.length_set]; first | done | omega)) only [gC_len, Edg.len, ixC_len, wC_len, amSide, Int.reduceToNat, Nat.reducePow, Nat.reduceMul]; first | done | omega)) only [↓amPre, amPost, ↓s_lit', Nat.reduceAdd, Nat.reduceSub, List.replicate, retA, resultsA, resultA, toC, toCL, Nat.reduceEqDiff, Int.natCast_add, Int.cast_ofNat_Int, dec_t, dec_f]
    · have hn : eqE a b y = false := by simp [eqE, c1]
      rw [hn] at hsn
      simp (maxSteps := 1000000) (disch := first | omega | (simp (disch := first | omega | (simp only [gC_len, Edg.len, ixC_len, wC_len, List.length_append, List.length_cons, List.length_nil, List.length_set]; first | done | omega)) only [gC_len, Edg.len, ixC_len, wC_len, amSide, Int.reduceToNat, Nat.reducePow, Nat.reduceMul]; first | done | omega)) only  [↓amPre, amPost, ↓s_lit', Nat.reduceAdd, Nat.reduceSub, List.replicate, retA, resultsA, resultA, toC, toCL, Nat.reduceEqDiff, he, (fa26_0 S.p), (fa28_0 S.p), (fa28_1 S.p), iaddr_sl (un22 S.p) (sz28 S.p), len_sl (un22 S.p), len_nils (un22 S.p), part_sc (ag22 S.p), part_sc (ag3 S.p), hp, g0, idx_ok, hc, p0, p1, beqI_f, Int.toNat_natCast, Nat.add_zero, wrap_i64]
      refine hag ⟨i + 1⟩ ⟨by simp only; omega, hsn⟩ (by simp only; omega) _ ?_
      simp (maxSteps := 1000000) (disch := first | omega | (simp (disch := first | omega | (simp only [gC_len, Edg.len, ixC_len, wC_len, List.length_append, List.length_cons, List.length_nil, List.length_set]; first | done | omega)) only [gC_len, Edg.len, ixC_len, wC_len, amSide, Int.reduceToNat, Nat.reducePow, Nat.reduceMul]; first | done | omega)) only [↓amPre, amPost, ↓s_lit', Nat.reduceAdd, Nat.reduceSub, List.replicate, retA, resultsA, resultA, toC, toCL, Nat.reduceEqDiff, Int.natCast_add, Int.cast_ofNat_Int, dec_t, dec_f]
  · simp only [decide_eq_false_iff_not] at hc1
    obtain rfl : i = L.length := by omega
    rw [List.take_length] at hno
    rw [hno]
    simp (maxSteps := 1000000) (disch := first | omega | (simp (disch := first | omega | (simp only [gC_len, Edg.len, ixC_len, wC_len, List.length_append, List.length_cons, List.length_nil, List.length_set]; first | done | omega)) only [gC_len, Edg.len, ixC_len, wC_len, amSide, Int.reduceToNat, Nat.reducePow, Nat.reduceMul]; first | done | omega)) only  [↓amPre, amPost, ↓s_lit', Nat.reduceAdd, Nat.reduceSub, List.replicate, retA, resultsA, resultA, toC, toCL, Nat.reduceEqDiff, he, (fa26_0 S.p), (fa28_0 S.p), (fa28_1 S.p), iaddr_sl (un22 S.p) (sz28 S.p), len_sl (un22 S.p), len_nils (un22 S.p), part_sc (ag22 S.p), part_sc (ag3 S.p)]
    exact Ends.some rfl
def nxL (L : List Edg) (a : Int) (n : Nat) : List Nat := (List.range n).filter fun k => decide ((⟨a, (k : Int)⟩ : Edg) ∈ L)
theorem nxL_succ (L : List Edg) (a : Int) (n : Nat) : nxL L a (n + 1) = if (⟨a, (n : Int)⟩ : Edg) ∈ L then nxL L a n ++ [n] else nxL L a n := by
  unfold nxL
  rw [List.range_succ, List.filter_append]
  by_cases h : (⟨a, (n : Int)⟩ : Edg) ∈ L
  · rw [if_pos h]; simp [h]
  · rw [if_neg h]; simp [h]
theorem nxL_le (L : List Edg) (a : Int) (n : Nat) : (nxL L a n).length ≤ n := by
  unfold nxL
  exact Nat.le_trans (List.length_filter_le _ _) (by simp)
structure ThQ where
  i : Nat
  q : SV
  h : List AO
set_option maxHeartbeats 4000000 in
theorem s19 {P : Program} {T : Tab} {K d : Nat} (S : Sd P T K) (hd : 2 ≤ d) {p : Nat} {q : SV} {L : List Edg} (hL : L.length ≤ 200) (a : Int) (lk : Nat) (h : List AO) (hlk : lk ≤ h.length) (hpl : p < h.length) (hp : cellsAt h p = some [q]) (hq : Rs Edg.cells 2 h q L) :
    Ends (fun v h' => Ext1 h h' ∧ ∃ q', v = .v (.sc q') ∧ Rs ixC 1 h' q' (nxL L a 64)) (ev P T K d 19 [.sc (.ptr p 0), .sc (.int .i64 a)] lk h) := by
  obtain ⟨d, rfl⟩ : ∃ k, d = k + 1 := ⟨d - 1, by omega⟩
  rw [ev_run (at19 S.t)]
  unfold i19 Tryd.f19
  simp (maxSteps := 1000000) (disch := first | omega | (simp (disch := first | omega | (simp only [gC_len, Edg.len, ixC_len, wC_len, List.length_append, List.length_cons, List.length_nil, List.length_set]; first | done | omega)) only [gC_len, Edg.len, ixC_len, wC_len, amSide, Int.reduceToNat, Nat.reducePow, Nat.reduceMul]; first | done | omega)) only  [↓amPre, amPost, ↓s_lit', Nat.reduceAdd, Nat.reduceSub, List.replicate, retA, resultsA, resultA, toC, toCL, Nat.reduceEqDiff, append_at (un35 S.p) (sz3 S.p) (by3 S.p) (ze3 S.p) (by decide) (by decide) rfl, copy_at (un35 S.p) (sz3 S.p) (by3 S.p) (ze3 S.p) (by decide) (by decide) rfl, sl_cells (sz3 S.p), lit_fill (un35 S.p) (sz3 S.p) (ze3 S.p)]
  refine ends_loop (X := ThQ) ⟨0, .nils, h⟩ [7, 8, 9, 10, 11, 12, 13, 14, 15, 16, 17, 18] (fun x => x.i ≤ 64 ∧ Ext1 h x.h ∧ Own 3 1 h.length x.h x.q (recs ixC (nxL L a x.i))) (fun x => 64 - x.i)
    (fun x e => (e.set 5 (.v (.sc x.q))).set 6 (.v (.sc (.int .i64 x.i)))) (fun x => x.h)
    (by have := S.k; show _ < K; simp only; omega) ⟨by simp only; omega, Ext1.refl h, Own.nil _ _ _ _⟩ rfl rfl ?_
  rintro ⟨i, qi, hj⟩ ⟨hi, hx, ho⟩ again hag e he
  simp only at hi hx ho hag he
  simp only [↓amPre, amPost, ↓s_lit', Nat.reduceAdd, Nat.reduceSub, List.replicate, retA, resultsA, resultA, toC, toCL, Nat.reduceEqDiff] at he
  simp only [↓amPre, amPost, ↓s_lit', Nat.reduceAdd, Nat.reduceSub, List.replicate, retA, resultsA, resultA, toC, toCL, Nat.reduceEqDiff, he]
  have hle := hx.len
  refine ends_cond (fun hc1 => ?_) (fun hc1 => ?_)
  · simp only [decide_eq_true_eq] at hc1
    have hpj : cellsAt hj p = some [q] := by rw [hx.cells hpl]; exact hp
    have f17 := fun lk => s17 S (show 1 ≤ d by omega) hL a (i : Int) lk hj hpj (hq.ext hx)
    have hsu := nxL_succ L a i
    have hnl := nxL_le L a i
    by_cases hm : (⟨a, (i : Int)⟩ : Edg) ∈ L
    · rw [if_pos hm] at hsu
      rw [dec_t hm] at f17
      obtain ⟨q2, h2, happ, hown, hl2, _, hx2, _⟩ := grow_own (b := 8) (lk := lk) (ho.push (.rw 3 [.int .i64 (i : Nat)])) [.int .i64 (i : Nat)] (by omega) (by simp) (by simp) (by omega) (by simp; omega) (by rw [recs_len ixC_len]; simp; omega)
      have hx3 := hx2 h (hx.push _) (Nat.le_refl _)
      have hcs : ([.int .i64 (i : Nat)] : List SV) = ixC i := rfl
      rw [hcs, recs_snoc, ← hsu] at hown
      simp (maxSteps := 1000000) (disch := first | omega | (simp (disch := first | omega | (simp only [gC_len, Edg.len, ixC_len, wC_len, List.length_append, List.length_cons, List.length_nil, List.length_set]; first | done | omega)) only [gC_len, Edg.len, ixC_len, wC_len, amSide, Int.reduceToNat, Nat.reducePow, Nat.reduceMul]; first | done | omega)) only  [↓amPre, amPost, ↓s_lit', Nat.reduceAdd, Nat.reduceSub, List.replicate, retA, resultsA, resultA, toC, toCL, Nat.reduceEqDiff, he, append_at (un35 S.p) (sz3 S.p) (by3 S.p) (ze3 S.p) (by decide) (by decide) rfl, copy_at (un35 S.p) (sz3 S.p) (by3 S.p) (ze3 S.p) (by decide) (by decide) rfl, sl_cells (sz3 S.p), lit_fill (un35 S.p) (sz3 S.p) (ze3 S.p), f17, happ, cells_self, List.flatten_cons, List.flatten_nil, List.append_nil, Nat.one_mul, Nat.zero_mul, splice_one, Nat.zero_add, wrap_i64]
      refine hag ⟨i + 1, q2, h2⟩ ⟨by simp only; omega, hx3, hown⟩ (by simp only; omega) _ ?_
      simp (maxSteps := 1000000) (disch := first | omega | (simp (disch := first | omega | (simp only [gC_len, Edg.len, ixC_len, wC_len, List.length_append, List.length_cons, List.length_nil, List.length_set]; first | done | omega)) only [gC_len, Edg.len, ixC_len, wC_len, amSide, Int.reduceToNat, Nat.reducePow, Nat.reduceMul]; first | done | omega)) only [↓amPre, amPost, ↓s_lit', Nat.reduceAdd, Nat.reduceSub, List.replicate, retA, resultsA, resultA, toC, toCL, Nat.reduceEqDiff, Int.natCast_add, Int.cast_ofNat_Int, dec_t, dec_f]
    · rw [if_neg hm] at hsu
      rw [dec_f hm] at f17
      simp (maxSteps := 1000000) (disch := first | omega | (simp (disch := first | omega | (simp only [gC_len, Edg.len, ixC_len, wC_len, List.length_append, List.length_cons, List.length_nil, List.length_set]; first | done | omega)) only [gC_len, Edg.len, ixC_len, wC_len, amSide, Int.reduceToNat, Nat.reducePow, Nat.reduceMul]; first | done | omega)) only  [↓amPre, amPost, ↓s_lit', Nat.reduceAdd, Nat.reduceSub, List.replicate, retA, resultsA, resultA, toC, toCL, Nat.reduceEqDiff, he, append_at (un35 S.p) (sz3 S.p) (by3 S.p) (ze3 S.p) (by decide) (by decide) rfl, copy_at (un35 S.p) (sz3 S.p) (by3 S.p) (ze3 S.p) (by decide) (by decide) rfl, sl_cells (sz3 S.p), lit_fill (un35 S.p) (sz3 S.p) (ze3 S.p), f17, wrap_i64]
      refine hag ⟨i + 1, qi, hj⟩ ⟨by simp only; omega, hx, by simp only [hsu]; exact ho⟩ (by simp only; omega) _ ?_
      simp (maxSteps := 1000000) (disch := first | omega | (simp (disch := first | omega | (simp only [gC_len, Edg.len, ixC_len, wC_len, List.length_append, List.length_cons, List.length_nil, List.length_set]; first | done | omega)) only [gC_len, Edg.len, ixC_len, wC_len, amSide, Int.reduceToNat, Nat.reducePow, Nat.reduceMul]; first | done | omega)) only [↓amPre, amPost, ↓s_lit', Nat.reduceAdd, Nat.reduceSub, List.replicate, retA, resultsA, resultA, toC, toCL, Nat.reduceEqDiff, Int.natCast_add, Int.cast_ofNat_Int, dec_t, dec_f]
  · simp only [decide_eq_false_iff_not] at hc1
    obtain rfl : i = 64 := by omega
    simp (maxSteps := 1000000) (disch := first | omega | (simp (disch := first | omega | (simp only [gC_len, Edg.len, ixC_len, wC_len, List.length_append, List.length_cons, List.length_nil, List.length_set]; first | done | omega)) only [gC_len, Edg.len, ixC_len, wC_len, amSide, Int.reduceToNat, Nat.reducePow, Nat.reduceMul]; first | done | omega)) only  [↓amPre, amPost, ↓s_lit', Nat.reduceAdd, Nat.reduceSub, List.replicate, retA, resultsA, resultA, toC, toCL, Nat.reduceEqDiff, he, append_at (un35 S.p) (sz3 S.p) (by3 S.p) (ze3 S.p) (by decide) (by decide) rfl, copy_at (un35 S.p) (sz3 S.p) (by3 S.p) (ze3 S.p) (by decide) (by decide) rfl, sl_cells (sz3 S.p), lit_fill (un35 S.p) (sz3 S.p) (ze3 S.p)]
    exact Ends.some ⟨hx, _, rfl, ho.rs (by omega) ixC_len⟩
theorem same_at {a b : List Nat} (h : a.length = b.length) : ∀ i, i ≤ a.length → (∀ j, j < i → a[j]? = b[j]?) → (∀ j x y, a[j]? = some x → b[j]? = some y → j < i → x = y) := fun i _ h2 j x y h3 h4 hj => by
  have := h2 j hj
  rw [h3, h4] at this
  exact Option.some.inj this
set_option maxHeartbeats 4000000 in
theorem s12 {P : Program} {T : Tab} {K d : Nat} (S : Sd P T K) (hd : 1 ≤ d) {q1 q2 : SV} {a b : List Nat} (ha : a.length ≤ 200) (hb : b.length ≤ 200) (lk : Nat) (h : List AO) (h1 : Rs ixC 1 h q1 a) (h2 : Rs ixC 1 h q2 b) :
    ev P T K d 12 [.sc q1, .sc q2] lk h = some (.v (.sc (.bool (decide (a = b)))), h) := by
  obtain ⟨d, rfl⟩ : ∃ k, d = k + 1 := ⟨d - 1, by omega⟩
  refine ev_pure (at12 S.t) rfl ?_
  unfold i12 Tryd.f12
  have n1 := h1.len (un35 S.p)
  have n2 := h2.len (un35 S.p)
  by_cases hn : a.length = b.length
  · simp (maxSteps := 1000000) (disch := first | omega | (simp (disch := first | omega | (simp only [gC_len, Edg.len, ixC_len, wC_len, List.length_append, List.length_cons, List.length_nil, List.length_set]; first | done | omega)) only [gC_len, Edg.len, ixC_len, wC_len, amSide, Int.reduceToNat, Nat.reducePow, Nat.reduceMul]; first | done | omega)) only  [↓amPre, amPost, ↓s_lit', Nat.reduceAdd, Nat.reduceSub, List.replicate, retA, resultsA, resultA, toC, toCL, Nat.reduceEqDiff, iaddr_sl (un35 S.p) (sz3 S.p), len_sl (un35 S.p), len_nils (un35 S.p), part_sc (ag3 S.p), n1, n2, bneI_f]
    refine ends_loop (X := ThN) ⟨0⟩ [4, 5, 14, 15, 16, 17, 18, 19, 20, 21, 22, 23, 24, 25] (fun x => x.i ≤ a.length ∧ a.take x.i = b.take x.i) (fun x => a.length - x.i)
      (fun x e => e.set 13 (.v (.sc (.int .i64 x.i)))) (fun x => h)
      (by have := S.k; show _ < K; simp only; omega) ⟨by simp only; omega, rfl⟩ rfl rfl ?_
    rintro ⟨i⟩ ⟨hi, hst⟩ again hag e he
    simp only at hi hst hag he
    simp only [↓amPre, amPost, ↓s_lit', Nat.reduceAdd, Nat.reduceSub, List.replicate, retA, resultsA, resultA, toC, toCL, Nat.reduceEqDiff] at he
    simp only [↓amPre, amPost, ↓s_lit', Nat.reduceAdd, Nat.reduceSub, List.replicate, retA, resultsA, resultA, toC, toCL, Nat.reduceEqDiff, he]
    refine ends_cond (fun hc1 => ?_) (fun hc1 => ?_)
    · simp only [decide_eq_true_eq] at hc1
      obtain ⟨b1, rfl, hb1, hc1'⟩ := h1.at (by omega)
      obtain ⟨b2, rfl, hb2, hc2'⟩ := h2.at (by omega)
      obtain ⟨x, hxi⟩ : ∃ x, a[i]? = some x := ⟨_, List.getElem?_eq_getElem (by omega)⟩
      obtain ⟨y, hyi⟩ : ∃ y, b[i]? = some y := ⟨_, List.getElem?_eq_getElem (by omega)⟩
      have g1 := recs_get0 ixC_len hxi (by omega)
      have g2 := recs_get0 ixC_len hyi (by omega)
      rw [Nat.mul_one, show (ixC x)[0]? = some (.int .i64 (x : Nat)) from rfl] at g1
      rw [Nat.mul_one, show (ixC y)[0]? = some (.int .i64 (y : Nat)) from rfl] at g2
      by_cases hxy : x = y
      · have hsn : a.take (i + 1) = b.take (i + 1) := by rw [List.take_add_one, List.take_add_one, hst, hxi, hyi, hxy]
        simp (maxSteps := 1000000) (disch := first | omega | (simp (disch := first | omega | (simp only [gC_len, Edg.len, ixC_len, wC_len, List.length_append, List.length_cons, List.length_nil, List.length_set]; first | done | omega)) only [gC_len, Edg.len, ixC_len, wC_len, amSide, Int.reduceToNat, Nat.reducePow, Nat.reduceMul]; first | done | omega)) only  [↓amPre, amPost, ↓s_lit', Nat.reduceAdd, Nat.reduceSub, List.replicate, retA, resultsA, resultA, toC, toCL, Nat.reduceEqDiff, he, iaddr_sl (un35 S.p) (sz3 S.p), len_sl (un35 S.p), len_nils (un35 S.p), part_sc (ag3 S.p), idx_ok, hc1', hc2', g1, g2, bneI_f, Nat.mul_one, Int.toNat_natCast, Nat.zero_add, wrap_i64]
        refine hag ⟨i + 1⟩ ⟨by simp only; omega, hsn⟩ (by simp only; omega) _ ?_
        simp (maxSteps := 1000000) (disch := first | omega | (simp (disch := first | omega | (simp only [gC_len, Edg.len, ixC_len, wC_len, List.length_append, List.length_cons, List.length_nil, List.length_set]; first | done | omega)) only [gC_len, Edg.len, ixC_len, wC_len, amSide, Int.reduceToNat, Nat.reducePow, Nat.reduceMul]; first | done | omega)) only [↓amPre, amPost, ↓s_lit', Nat.reduceAdd, Nat.reduceSub, List.replicate, retA, resultsA, resultA, toC, toCL, Nat.reduceEqDiff, Int.natCast_add, Int.cast_ofNat_Int, dec_t, dec_f]
      · have hne : ¬ a = b := fun z => by rw [z, hyi] at hxi; exact hxy (Option.some.inj hxi).symm
        rw [dec_f hne]
        simp (maxSteps := 1000000) (disch := first | omega | (simp (disch := first | omega | (simp only [gC_len, Edg.len, ixC_len, wC_len, List.length_append, List.length_cons, List.length_nil, List.length_set]; first | done | omega)) only [gC_len, Edg.len, ixC_len, wC_len, amSide, Int.reduceToNat, Nat.reducePow, Nat.reduceMul]; first | done | omega)) only  [↓amPre, amPost, ↓s_lit', Nat.reduceAdd, Nat.reduceSub, List.replicate, retA, resultsA, resultA, toC, toCL, Nat.reduceEqDiff, he, iaddr_sl (un35 S.p) (sz3 S.p), len_sl (un35 S.p), len_nils (un35 S.p), part_sc (ag3 S.p), idx_ok, hc1', hc2', g1, g2, bneI_t, Nat.mul_one, Int.toNat_natCast, Nat.zero_add, wrap_i64]
        exact Ends.some rfl
    · simp only [decide_eq_false_iff_not] at hc1
      obtain rfl : i = a.length := by omega
      have hab : a = b := by rw [List.take_length, hn, List.take_length] at hst; exact hst
      rw [dec_t hab]
      simp (maxSteps := 1000000) (disch := first | omega | (simp (disch := first | omega | (simp only [gC_len, Edg.len, ixC_len, wC_len, List.length_append, List.length_cons, List.length_nil, List.length_set]; first | done | omega)) only [gC_len, Edg.len, ixC_len, wC_len, amSide, Int.reduceToNat, Nat.reducePow, Nat.reduceMul]; first | done | omega)) only  [↓amPre, amPost, ↓s_lit', Nat.reduceAdd, Nat.reduceSub, List.replicate, retA, resultsA, resultA, toC, toCL, Nat.reduceEqDiff, he, iaddr_sl (un35 S.p) (sz3 S.p), len_sl (un35 S.p), len_nils (un35 S.p), part_sc (ag3 S.p)]
      exact Ends.some rfl
  · have hne : ¬ a = b := fun z => hn (by rw [z])
    rw [dec_f hne]
    simp (maxSteps := 1000000) (disch := first | omega | (simp (disch := first | omega | (simp only [gC_len, Edg.len, ixC_len, wC_len, List.length_append, List.length_cons, List.length_nil, List.length_set]; first | done | omega)) only [gC_len, Edg.len, ixC_len, wC_len, amSide, Int.reduceToNat, Nat.reducePow, Nat.reduceMul]; first | done | omega)) only  [↓amPre, amPost, ↓s_lit', Nat.reduceAdd, Nat.reduceSub, List.replicate, retA, resultsA, resultA, toC, toCL, Nat.reduceEqDiff, iaddr_sl (un35 S.p) (sz3 S.p), len_sl (un35 S.p), len_nils (un35 S.p), part_sc (ag3 S.p), n1, n2, bneI_t]
    exact Ends.some rfl
end Go.AM
/- Waiting graphs: the document's Add and Reach. Conditions: none. -/
set_option linter.unusedVariables false
set_option linter.unusedSimpArgs false
set_option maxRecDepth 100000
namespace Go.AM
open Go.Proofs Go.Lib
-- LENS: gC_len, Edg.len, ixC_len, wC_len
def addL (L : List Edg) (a b : Int) : List Edg := if (isN a && isN b) = true ∧ (⟨a, b⟩ : Edg) ∉ L then L ++ [⟨a, b⟩] else L
def AddR (p lo : Nat) (L : List Edg) (a b : Int) (h : List AO) (v : AV) (h' : List AO) : Prop := v = .v (.sc (.int .i64 (addC a b))) ∧ h.length ≤ h'.length ∧ (∀ g, Ext1 g h → g.length ≤ p → Ext1 g h') ∧ (∀ j, j < h.length → j ≠ p → h'[j]? = h[j]?) ∧
  ∃ q', h'[p]? = some (.rw 26 [q']) ∧ Rs Edg.cells 2 h' q' (addL L a b)
theorem spl2 (a b : SV) : splice [.int .i64 0, .int .i64 0] 0 [a, b] = [a, b] := nrfl rfl
theorem sliceCells_rs {P : Program} {e : TypeId} {h : List AO} {q : SV} {L : List Edg} (hq : Rs Edg.cells 2 h q L) (hs : szT P e = some 2) : sliceCells P h e (.v (.sc q)) = some (recs Edg.cells L) := by
  rcases hq with ⟨rfl, rfl⟩ | ⟨b, rfl, hb, hc⟩
  · rfl
  · have hl := recs_len Edg.len L
    simp only [sliceCells, hc, Option.bind_some, hs]
    rw [if_pos ⟨trivial, by omega⟩, List.drop_zero, List.take_of_length_le (by omega)]
set_option maxHeartbeats 8000000 in
theorem s8 {P : Program} {T : Tab} {K d : Nat} (S : Sd P T K) (hd : 2 ≤ d) {p : Nat} {q : SV} {L : List Edg} (hL : L.length ≤ 200) (a b : Int) (lk : Nat) (h : List AO) (hlk : lk ≤ p) (hpl : p < h.length) (hp : h[p]? = some (.rw 26 [q])) (hq : Rs Edg.cells 2 h q L) :
    Ends (AddR p lk L a b h) (ev P T K d 8 [.sc (.ptr p 0), .sc (.int .i64 a), .sc (.int .i64 b)] lk h) := by
  obtain ⟨d, rfl⟩ : ∃ k, d = k + 1 := ⟨d - 1, by omega⟩
  rw [ev_run (at8 S.t)]
  unfold i8 Tryd.f8
  have hpc : cellsAt h p = some [q] := by unfold cellsAt; rw [hp]
  have f17 := fun lk => s17 S (show 1 ≤ d by omega) hL a b lk h hpc hq
  have hbad : (isN a && isN b) = false → AddR p lk L a b h (.v (.sc (.int .i64 1))) h := fun hb => by
    refine ⟨by unfold addC; rw [if_neg (by simp [hb])], Nat.le_refl _, fun g z _ => z, fun j _ _ => rfl, q, hp, ?_⟩
    unfold addL
    rw [if_neg (by simp [hb])]; exact hq
  by_cases a0 : a < 0
  · have hb : (isN a && isN b) = false := by unfold isN; simp; omega
    simp (maxSteps := 1000000) (disch := first | omega | (simp (disch := first | omega | (simp only [gC_len, Edg.len, ixC_len, wC_len, List.length_append, List.length_cons, List.length_nil, List.length_set]; first | done | omega)) only [gC_len, Edg.len, ixC_len, wC_len, amSide, Int.reduceToNat, Nat.reducePow, Nat.reduceMul]; first | done | omega)) only  [↓amPre, amPost, ↓s_lit', Nat.reduceAdd, Nat.reduceSub, List.replicate, retA, resultsA, resultA, toC, toCL, Nat.reduceEqDiff, append_at (un22 S.p) (sz28 S.p) (by28 S.p) (ze28 S.p) (by decide) (by decide) rfl, copy_at (un22 S.p) (sz28 S.p) (by28 S.p) (ze28 S.p) (by decide) (by decide) rfl, sl_cells (sz28 S.p), (bu28 S.p), lit_fill (un22 S.p) (sz28 S.p) (ze28 S.p), (fa26_0 S.p), part_sc (ag22 S.p), store_last (sz22 S.p), (sz22 S.p), dec_t]
    exact Ends.some (hbad hb)
  · by_cases a1 : 64 ≤ a
    · have hb : (isN a && isN b) = false := by unfold isN; simp; omega
      simp (maxSteps := 1000000) (disch := first | omega | (simp (disch := first | omega | (simp only [gC_len, Edg.len, ixC_len, wC_len, List.length_append, List.length_cons, List.length_nil, List.length_set]; first | done | omega)) only [gC_len, Edg.len, ixC_len, wC_len, amSide, Int.reduceToNat, Nat.reducePow, Nat.reduceMul]; first | done | omega)) only  [↓amPre, amPost, ↓s_lit', Nat.reduceAdd, Nat.reduceSub, List.replicate, retA, resultsA, resultA, toC, toCL, Nat.reduceEqDiff, append_at (un22 S.p) (sz28 S.p) (by28 S.p) (ze28 S.p) (by decide) (by decide) rfl, copy_at (un22 S.p) (sz28 S.p) (by28 S.p) (ze28 S.p) (by decide) (by decide) rfl, sl_cells (sz28 S.p), (bu28 S.p), lit_fill (un22 S.p) (sz28 S.p) (ze28 S.p), (fa26_0 S.p), part_sc (ag22 S.p), store_last (sz22 S.p), (sz22 S.p), dec_t, dec_f]
      exact Ends.some (hbad hb)
    · by_cases b0 : b < 0
      · have hb : (isN a && isN b) = false := by unfold isN; simp; omega
        simp (maxSteps := 1000000) (disch := first | omega | (simp (disch := first | omega | (simp only [gC_len, Edg.len, ixC_len, wC_len, List.length_append, List.length_cons, List.length_nil, List.length_set]; first | done | omega)) only [gC_len, Edg.len, ixC_len, wC_len, amSide, Int.reduceToNat, Nat.reducePow, Nat.reduceMul]; first | done | omega)) only  [↓amPre, amPost, ↓s_lit', Nat.reduceAdd, Nat.reduceSub, List.replicate, retA, resultsA, resultA, toC, toCL, Nat.reduceEqDiff, append_at (un22 S.p) (sz28 S.p) (by28 S.p) (ze28 S.p) (by decide) (by decide) rfl, copy_at (un22 S.p) (sz28 S.p) (by28 S.p) (ze28 S.p) (by decide) (by decide) rfl, sl_cells (sz28 S.p), (bu28 S.p), lit_fill (un22 S.p) (sz28 S.p) (ze28 S.p), (fa26_0 S.p), part_sc (ag22 S.p), store_last (sz22 S.p), (sz22 S.p), dec_t, dec_f]
        exact Ends.some (hbad hb)
      · by_cases b1 : 64 ≤ b
        · have hb : (isN a && isN b) = false := by unfold isN; simp; omega
          simp (maxSteps := 1000000) (disch := first | omega | (simp (disch := first | omega | (simp only [gC_len, Edg.len, ixC_len, wC_len, List.length_append, List.length_cons, List.length_nil, List.length_set]; first | done | omega)) only [gC_len, Edg.len, ixC_len, wC_len, amSide, Int.reduceToNat, Nat.reducePow, Nat.reduceMul]; first | done | omega)) only  [↓amPre, amPost, ↓s_lit', Nat.reduceAdd, Nat.reduceSub, List.replicate, retA, resultsA, resultA, toC, toCL, Nat.reduceEqDiff, append_at (un22 S.p) (sz28 S.p) (by28 S.p) (ze28 S.p) (by decide) (by decide) rfl, copy_at (un22 S.p) (sz28 S.p) (by28 S.p) (ze28 S.p) (by decide) (by decide) rfl, sl_cells (sz28 S.p), (bu28 S.p), lit_fill (un22 S.p) (sz28 S.p) (ze28 S.p), (fa26_0 S.p), part_sc (ag22 S.p), store_last (sz22 S.p), (sz22 S.p), dec_t, dec_f]
          exact Ends.some (hbad hb)
        · have hok : (isN a && isN b) = true := by unfold isN; simp; omega
          have hc0 : addC a b = 0 := by unfold addC; rw [if_pos hok]
          by_cases hm : (⟨a, b⟩ : Edg) ∈ L
          · rw [dec_t hm] at f17
            have hR : AddR p lk L a b h (.v (.sc (.int .i64 0))) h := by
              refine ⟨by rw [hc0], Nat.le_refl _, fun g z _ => z, fun j _ _ => rfl, q, hp, ?_⟩
              unfold addL
              rw [if_neg (fun z => z.2 hm)]; exact hq
            simp (maxSteps := 1000000) (disch := first | omega | (simp (disch := first | omega | (simp only [gC_len, Edg.len, ixC_len, wC_len, List.length_append, List.length_cons, List.length_nil, List.length_set]; first | done | omega)) only [gC_len, Edg.len, ixC_len, wC_len, amSide, Int.reduceToNat, Nat.reducePow, Nat.reduceMul]; first | done | omega)) only  [↓amPre, amPost, ↓s_lit', Nat.reduceAdd, Nat.reduceSub, List.replicate, retA, resultsA, resultA, toC, toCL, Nat.reduceEqDiff, append_at (un22 S.p) (sz28 S.p) (by28 S.p) (ze28 S.p) (by decide) (by decide) rfl, copy_at (un22 S.p) (sz28 S.p) (by28 S.p) (ze28 S.p) (by decide) (by decide) rfl, sl_cells (sz28 S.p), (bu28 S.p), lit_fill (un22 S.p) (sz28 S.p) (ze28 S.p), (fa26_0 S.p), part_sc (ag22 S.p), store_last (sz22 S.p), (sz22 S.p), dec_f, f17]
            exact Ends.some hR
          · rw [dec_f hm] at f17
            have haL : addL L a b = L ++ [⟨a, b⟩] := by unfold addL; rw [if_pos ⟨hok, hm⟩]
            have g0 : ([q] : List SV)[0]? = some q := rfl
            have hsc := sliceCells_rs hq (sz28 S.p)
            have hrl := recs_len Edg.len L
            obtain ⟨q2, h2, happ, hown, hx2⟩ : ∃ q2 h2, (∀ k, appB 28 2 16 lk h (.v (.sc .nils)) (some (recs Edg.cells L)) k = k (.v (.sc q2)) h2) ∧ Own 28 2 h.length h2 q2 (recs Edg.cells L) ∧ Ext1 h h2 := by
              by_cases hL0 : L = []
              · subst hL0
                exact ⟨.nils, h, fun k => appB_nilnil 28 2 16 k, Own.nil _ _ _ _, Ext1.refl h⟩
              · have hpos := List.length_pos_iff.2 hL0
                obtain ⟨q2, h2, r1, r2, r3, r4, r5, _⟩ := grow_own (b := 16) (lk := lk) (Own.nil 28 2 h.length h) (recs Edg.cells L) (by omega) (by omega) (by omega) (by omega) (Nat.le_refl _) (by rw [List.length_nil]; omega)
                exact ⟨q2, h2, r1, by rw [List.nil_append] at r2; exact r2, r5 h (Ext1.refl h) (Nat.le_refl _)⟩
            have hle2 := hx2.len
            obtain ⟨q3, h3, happ3, hown3, hl3, hlow3, hx3, _⟩ := grow_own (b := 16) (lk := lk) (hown.push (.rw 28 [.int .i64 a, .int .i64 b])) [.int .i64 a, .int .i64 b] (by omega) (by simp) (by simp) (by omega) (by simp; omega) (by simp; omega)
            have hx3' := hx3 h (hx2.push _) (Nat.le_refl _)
            have hcs : ([.int .i64 a, .int .i64 b] : List SV) = Edg.cells ⟨a, b⟩ := rfl
            rw [hcs, recs_snoc] at hown3
            have hle3 := hx3'.len
            have gp3 : h3[p]? = some (.rw 26 [q]) := by rw [hx3'.get hpl]; exact hp
            have st := store_cell (sz22 S.p) (lk := lk) gp3 hlk 0 (by simp) q3
            rw [List.set_cons_zero] at st
            have hR : AddR p lk L a b h (.v (.sc (.int .i64 0))) (h3.set p (.rw 26 [q3])) := by
              refine ⟨by rw [hc0], by rw [List.length_set]; exact hle3, fun g z1 z2 => (z1.trans hx3').set z2 _, fun j z1 z2 => by rw [List.getElem?_set_ne (Ne.symm z2)]; exact hx3'.get z1, q3, List.getElem?_set_self (by omega), ?_⟩
              rw [haL]
              exact (hown3.set hpl _).rs (by omega) Edg.len
            clear hbad hx3 hlow3
            simp (maxSteps := 1000000) (disch := first | omega | (simp (disch := first | omega | (simp only [gC_len, Edg.len, ixC_len, wC_len, List.length_append, List.length_cons, List.length_nil, List.length_set]; first | done | omega)) only [gC_len, Edg.len, ixC_len, wC_len, amSide, Int.reduceToNat, Nat.reducePow, Nat.reduceMul]; first | done | omega)) only  [↓amPre, amPost, ↓s_lit', Nat.reduceAdd, Nat.reduceSub, List.replicate, retA, resultsA, resultA, toC, toCL, Nat.reduceEqDiff, append_at (un22 S.p) (sz28 S.p) (by28 S.p) (ze28 S.p) (by decide) (by decide) rfl, copy_at (un22 S.p) (sz28 S.p) (by28 S.p) (ze28 S.p) (by decide) (by decide) rfl, sl_cells (sz28 S.p), (bu28 S.p), lit_fill (un22 S.p) (sz28 S.p) (ze28 S.p), (fa26_0 S.p), part_sc (ag22 S.p), store_last (sz22 S.p), (sz22 S.p), dec_f, f17, hpc, g0, hsc, happ, happ3, st, cells_self, spl2, List.flatten_cons, List.flatten_nil, List.append_nil, Nat.one_mul, Nat.zero_mul, Nat.add_zero, Nat.zero_add]
            exact Ends.some hR
end Go.AM
