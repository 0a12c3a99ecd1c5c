/- Orders: the first one; the order of a rank, of the document. Conditions: none. -/
import Derived.Test.YtdokijbheholdaaIn10
set_option linter.unusedVariables false
set_option linter.unusedSimpArgs false
set_option maxRecDepth 100000
namespace Go.AM
open Go.Proofs
-- LENS: cells_len, ints_len, killq_len
theorem multi_pos : ∀ (l : List Nat) (a : Nat), 0 < multi a l
  | [], _ => Nat.zero_lt_one
  | c :: l, a => by
    show 0 < ch (a + c) c * multi (a + c) l
    refine Nat.mul_pos ?_ (multi_pos l _)
    have := ch_fac c a
    have h1 := fac_pos (a + c)
    rcases Nat.eq_zero_or_pos (ch (a + c) c) with h | h
    · rw [h, Nat.zero_mul] at this; omega
    · exact h
theorem s24 {P : Program} {T : Tab} {K d : Nat} (S : Sd P T K) (hd : 5 ≤ d) (q : SV) (cnt : List Int) (lk : Nat) (h : List AO) (hlk : lk ≤ h.length) (hS : Sl h q cnt) :
    (totB cnt = false → ev P T K d 24 [.sc q] lk h = some (.tup [.sc .nils, .sc (.int .i64 1)], h)) ∧
    ∀ l, cnt = ints l → totB cnt = true → ∃ q' h', ev P T K d 24 [.sc q] lk h = some (.tup [.sc q', .sc (.int .i64 0)], h') ∧ Ext1 h h' ∧ Sl h' q' (ints (nthL (sumN l) 0 l)) := by
  obtain ⟨d, rfl⟩ : ∃ k, d = k + 1 := ⟨d - 1, by omega⟩
  obtain ⟨h1, h2⟩ := s23 S (show 4 ≤ d by omega) 0 q cnt lk h hlk hS
  rw [ev_run (at24 S.t)]
  unfold i24 Try.f24
  simp only [Int.cast_ofNat_Int] at h1 h2
  refine ⟨fun ht => ?_, fun l hl ht => ?_⟩
  · have h3 := h1 ht
    simp (disch := first | omega | (simp (disch := first | omega | (simp only [cells_len, ints_len, killq_len, List.length_append, List.length_cons, List.length_nil, List.length_set]; first | done | omega)) only [cells_len, ints_len, killq_len, amSide, Int.reduceToNat, Nat.reducePow, Nat.reduceMul]; first | done | omega)) only  [↓amPre, amPost, ↓s_lit', Nat.reduceAdd, Nat.reduceSub, List.replicate, retA, resultsA, resultA, toC, toCL, Nat.reduceEqDiff, if_true, h3]
  · obtain ⟨q', h', h3, h4, h5⟩ := (h2 l hl ht).2 (multi_pos l 0)
    refine ⟨q', h', ?_, h4, h5⟩
    simp (disch := first | omega | (simp (disch := first | omega | (simp only [cells_len, ints_len, killq_len, List.length_append, List.length_cons, List.length_nil, List.length_set]; first | done | omega)) only [cells_len, ints_len, killq_len, amSide, Int.reduceToNat, Nat.reducePow, Nat.reduceMul]; first | done | omega)) only  [↓amPre, amPost, ↓s_lit', Nat.reduceAdd, Nat.reduceSub, List.replicate, retA, resultsA, resultA, toC, toCL, Nat.reduceEqDiff, if_true, h3]
structure RefSt where
  i : Nat
  n : Nat
  left : List Nat
  outs : List Nat
  b : Nat
  q : SV
  h : List AO
structure RefIn where
  t : Nat
  n : Nat
  found : Bool
  left : List Nat
  outs : List Nat
  b : Nat
  q : SV
  h : List AO
theorem whoT_spec {n : Nat} {l : List Nat} {t : Nat} (ht : t < l.length) (h0 : l.getD t 0 ≠ 0) (h1 : sumT 0 l t ≤ n) (h2 : n - sumT 0 l t < multi 0 (l.set t (l.getD t 0 - 1))) :
    whoT n l = t ∧ restT n l = n - sumT 0 l t ∧ leftT n l = l.set t (l.getD t 0 - 1) ∧ restT n l < multi 0 (leftT n l) ∧ sumN (leftT n l) + 1 = sumN l := by
  have ti : sumT 0 l (t + 1) = sumT 0 l t + multi 0 (l.set t (l.getD t 0 - 1)) := by show sumT 0 l t + term 0 l t = _; unfold term; rw [if_neg h0]
  have hw : whoT n l = t := whoT_eq ht h1 (by omega)
  have := leftT_sum (n := n) (l := l) (by rw [hw]; exact ht) (by rw [hw]; exact h0)
  refine ⟨hw, by unfold restT; rw [hw], by unfold leftT; rw [hw], ?_, this⟩
  unfold restT leftT; rw [hw]; exact h2
theorem s26 {P : Program} {T : Tab} {K d : Nat} (S : Sd P T K) (hd : 4 ≤ d) (n0 : Nat) (hn0 : n0 < 18446744073709551616) (q : SV) (l : List Nat) (hl0 : 0 < l.length) (hl8 : l.length ≤ 8) (hs20 : sumN l ≤ 20) (lk : Nat) (h : List AO) (hlk : lk ≤ h.length) (hS : Sl h q (ints l)) :
    (multi 0 l ≤ n0 → ev P T K d 26 [.sc (.int .u64 (n0 : Nat)), .sc q] lk h = some (.tup [.sc .nils, .sc (.bool false)], h)) ∧
    (n0 < multi 0 l → ∃ q' h', ev P T K d 26 [.sc (.int .u64 (n0 : Nat)), .sc q] lk h = some (.tup [.sc q', .sc (.bool true)], h') ∧ Ext1 h h' ∧ Sl h' q' (ints (nthL (sumN l) n0 l))) := by
  obtain ⟨d, rfl⟩ : ∃ k, d = k + 1 := ⟨d - 1, by omega⟩
  have h27 : ∀ lk, ev P T K d 27 [.sc q] lk h = some (.v (.sc (.int .u64 ((multi 0 l : Nat) : Int))), h) := fun lk => s27 S (by omega) q l hl8 hs20 lk h hS
  rw [ev_run (at26 S.t)]
  refine ⟨fun hn => ?_, fun hn => ?_⟩
  · unfold i26 Try.f26
    simp (disch := first | omega | (simp (disch := first | omega | (simp only [cells_len, ints_len, killq_len, List.length_append, List.length_cons, List.length_nil, List.length_set]; first | done | omega)) only [cells_len, ints_len, killq_len, amSide, Int.reduceToNat, Nat.reducePow, Nat.reduceMul]; first | done | omega)) only  [↓amPre, amPost, ↓s_lit', Nat.reduceAdd, Nat.reduceSub, List.replicate, retA, resultsA, resultA, toC, toCL, Nat.reduceEqDiff, append_at (un35 S.p) (sz3 S.p) (by3 S.p) (ze3 S.p) (by decide) (by decide) rfl, sl_cells (sz3 S.p), lit_fill (un35 S.p) (sz3 S.p) (ze3 S.p), iaddr_sl (un35 S.p) (sz3 S.p), len_sl (un35 S.p), len_nils (un35 S.p), part_sc (ag3 S.p), h27, dec_t]
  suffices H : Ends (fun v h' => ∃ q', v = .tup [.sc q', .sc (.bool true)] ∧ Ext1 h h' ∧ Sl h' q' (ints (nthL (sumN l) n0 l)))
      (runA ⟨P, ev P T K d, lk, K, i26.er, i26.dr⟩ i26.fn i26.c [.sc (.int .u64 (n0 : Nat)), .sc q] h) by
    obtain ⟨v, h', e, q', rfl, h1, h2⟩ := H
    exact ⟨q', h', e, h1, h2⟩
  obtain ⟨b, rfl, hb, hc⟩ := hS.at (by rw [ints_len]; omega)
  rw [ints_len] at *
  have hcc : cellsAt h b = some (cellsI l) := hc
  have hlen : ∀ hh b, lenA P hh 35 (.v (.sc (.sl b 0 l.length 1))) = some (.v (.sc (.int .i64 (l.length : Int)))) := fun hh b => len_sl (un35 S.p) _ _ _ _
  unfold i26 Try.f26
  simp (disch := first | omega | (simp (disch := first | omega | (simp only [cells_len, ints_len, killq_len, List.length_append, List.length_cons, List.length_nil, List.length_set]; first | done | omega)) only [cells_len, ints_len, killq_len, amSide, Int.reduceToNat, Nat.reducePow, Nat.reduceMul]; first | done | omega)) only  [↓amPre, amPost, ↓s_lit', Nat.reduceAdd, Nat.reduceSub, List.replicate, retA, resultsA, resultA, toC, toCL, Nat.reduceEqDiff, append_at (un35 S.p) (sz3 S.p) (by3 S.p) (ze3 S.p) (by decide) (by decide) rfl, sl_cells (sz3 S.p), lit_fill (un35 S.p) (sz3 S.p) (ze3 S.p), iaddr_sl (un35 S.p) (sz3 S.p), len_sl (un35 S.p), len_nils (un35 S.p), part_sc (ag3 S.p), h27, dec_f]
  refine ends_loop (X := Nat) 0 [15, 16, 17, 18, 19, 20, 21, 22, 23, 24, 25, 26] (fun i => i ≤ l.length) (fun i => l.length - i) (fun i e => (e.set 6 (.v (.sc (.int .i64 ((sumN (l.take i) : Nat) : Int))))).set 7 (.v (.sc (.int .i64 i)))) (fun _ => h)
    (by have := S.k; show _ < K; omega) (by omega) (by simp only [List.take_zero, sumN]; rfl) rfl ?_
  rintro i hi again hag e he
  simp only [↓amPre, amPost, ↓s_lit', Nat.reduceAdd, Nat.reduceSub, List.replicate, retA, resultsA, resultA, toC, toCL, Nat.reduceEqDiff] at he
  simp only [↓amPre, amPost, ↓s_lit', Nat.reduceAdd, Nat.reduceSub, List.replicate, retA, resultsA, resultA, toC, toCL, Nat.reduceEqDiff, he]
  simp (disch := first | omega | (simp (disch := first | omega | (simp only [cells_len, ints_len, killq_len, List.length_append, List.length_cons, List.length_nil, List.length_set]; first | done | omega)) only [cells_len, ints_len, killq_len, amSide, Int.reduceToNat, Nat.reducePow, Nat.reduceMul]; first | done | omega)) only  [↓amPre, amPost, ↓s_lit', Nat.reduceAdd, Nat.reduceSub, List.replicate, retA, resultsA, resultA, toC, toCL, Nat.reduceEqDiff, he, append_at (un35 S.p) (sz3 S.p) (by3 S.p) (ze3 S.p) (by decide) (by decide) rfl, sl_cells (sz3 S.p), lit_fill (un35 S.p) (sz3 S.p) (ze3 S.p), iaddr_sl (un35 S.p) (sz3 S.p), len_sl (un35 S.p), len_nils (un35 S.p), part_sc (ag3 S.p), hlen]
  refine ends_cond (fun hc1 => ?_) (fun hc1 => ?_)
  · simp only [decide_eq_true_eq] at hc1
    have hi' : i < l.length := by omega
    have hA : sumN (l.take i) + l.getD i 0 ≤ 20 := by
      have := sumN_take l (i + 1)
      rw [take_snoc l i hi', sumN_snoc] at this; omega
    have w1 : IntKind.i64.wrap (((sumN (l.take i) : Nat) : Int) + ((l.getD i 0 : Nat) : Int)) = ((sumN (l.take (i + 1)) : Nat) : Int) := by
      rw [take_snoc l i hi', sumN_snoc, wrap_i64 (by omega) (by omega)]; omega
    simp (disch := first | omega | (simp (disch := first | omega | (simp only [cells_len, ints_len, killq_len, List.length_append, List.length_cons, List.length_nil, List.length_set]; first | done | omega)) only [cells_len, ints_len, killq_len, amSide, Int.reduceToNat, Nat.reducePow, Nat.reduceMul]; first | done | omega)) only  [↓amPre, amPost, ↓s_lit', Nat.reduceAdd, Nat.reduceSub, List.replicate, retA, resultsA, resultA, toC, toCL, Nat.reduceEqDiff, he, append_at (un35 S.p) (sz3 S.p) (by3 S.p) (ze3 S.p) (by decide) (by decide) rfl, sl_cells (sz3 S.p), lit_fill (un35 S.p) (sz3 S.p) (ze3 S.p), iaddr_sl (un35 S.p) (sz3 S.p), len_sl (un35 S.p), len_nils (un35 S.p), part_sc (ag3 S.p), idx_ok, hcc, cellsI_at, w1, Int.toNat_natCast, Nat.mul_one, Nat.zero_add, wrap_i64]
    refine hag (i + 1) (by omega) (by omega) _ ?_
    simp (disch := first | omega | (simp (disch := first | omega | (simp only [cells_len, ints_len, killq_len, List.length_append, List.length_cons, List.length_nil, List.length_set]; first | done | omega)) only [cells_len, ints_len, killq_len, amSide, Int.reduceToNat, Nat.reducePow, Nat.reduceMul]; first | done | omega)) only [↓amPre, amPost, ↓s_lit', Nat.reduceAdd, Nat.reduceSub, List.replicate, retA, resultsA, resultA, toC, toCL, Nat.reduceEqDiff, Int.natCast_add, Int.cast_ofNat_Int, dec_t, dec_f]
  simp only [decide_eq_false_iff_not] at hc1
  obtain rfl : i = l.length := by omega
  clear hag hc1
  rw [List.take_length] at *
  simp (disch := first | omega | (simp (disch := first | omega | (simp only [cells_len, ints_len, killq_len, List.length_append, List.length_cons, List.length_nil, List.length_set]; first | done | omega)) only [cells_len, ints_len, killq_len, amSide, Int.reduceToNat, Nat.reducePow, Nat.reduceMul]; first | done | omega)) only  [↓amPre, amPost, ↓s_lit', Nat.reduceAdd, Nat.reduceSub, List.replicate, retA, resultsA, resultA, toC, toCL, Nat.reduceEqDiff, he, append_at (un35 S.p) (sz3 S.p) (by3 S.p) (ze3 S.p) (by decide) (by decide) rfl, sl_cells (sz3 S.p), lit_fill (un35 S.p) (sz3 S.p) (ze3 S.p), iaddr_sl (un35 S.p) (sz3 S.p), len_sl (un35 S.p), len_nils (un35 S.p), part_sc (ag3 S.p)]
  refine ends_loop (X := RefSt) ⟨0, n0, l, [], b, .nils, h⟩ [9, 10, 27, 28, 29, 30, 31, 32, 33, 34, 35, 36, 37, 38, 39, 40, 41, 42, 43, 44, 45, 46, 47, 48, 49, 50, 51, 52, 53, 54, 55, 56, 57, 58, 59]
    (fun x => x.i ≤ sumN l ∧ x.n < multi 0 x.left ∧ sumN x.left + x.i = sumN l ∧ x.left.length = l.length ∧ x.outs.length = x.i ∧ x.outs ++ nthL (sumN l - x.i) x.n x.left = nthL (sumN l) n0 l ∧
      x.b < x.h.length ∧ cellsAt x.h x.b = some (cellsI x.left) ∧ Own 3 1 h.length x.h x.q (cellsI x.outs) ∧ Apart (.sl x.b 0 l.length 1) x.q ∧ Ext1 h x.h) (fun x => sumN l - x.i)
    (fun x e => ((e.set 0 (.v (.sc (.int .u64 (x.n : Nat))))).set 1 (.v (.sc (.sl x.b 0 l.length 1)))).set 8 (.v (.sc x.q))) (fun x => x.h)
    (by have := S.k; show _ < K; simp only; omega) ⟨by simp only; omega, hn, rfl, rfl, rfl, rfl, hb, hcc, Own.nil _ _ _ _, Apart.nil _, Ext1.refl h⟩ rfl rfl ?_
  rintro ⟨i, n, left, outs, b, qo, hh⟩ ⟨hi, hn', hs', hl', ho, hnth, hbb, hcb, hO, hap, hx⟩ again hag e he
  simp only at hi hn' hs' hl' ho hnth hbb hcb hO hap hx hag he
  simp only [↓amPre, amPost, ↓s_lit', Nat.reduceAdd, Nat.reduceSub, List.replicate, retA, resultsA, resultA, toC, toCL, Nat.reduceEqDiff] at he
  simp only [↓amPre, amPost, ↓s_lit', Nat.reduceAdd, Nat.reduceSub, List.replicate, retA, resultsA, resultA, toC, toCL, Nat.reduceEqDiff, he]
  have hlq : lenA P hh 35 (.v (.sc qo)) = some (.v (.sc (.int .i64 (i : Int)))) := by
    rw [hO.sl.len S, ints_len, ho]
  simp (disch := first | omega | (simp (disch := first | omega | (simp only [cells_len, ints_len, killq_len, List.length_append, List.length_cons, List.length_nil, List.length_set]; first | done | omega)) only [cells_len, ints_len, killq_len, amSide, Int.reduceToNat, Nat.reducePow, Nat.reduceMul]; first | done | omega)) only  [↓amPre, amPost, ↓s_lit', Nat.reduceAdd, Nat.reduceSub, List.replicate, retA, resultsA, resultA, toC, toCL, Nat.reduceEqDiff, he, append_at (un35 S.p) (sz3 S.p) (by3 S.p) (ze3 S.p) (by decide) (by decide) rfl, sl_cells (sz3 S.p), lit_fill (un35 S.p) (sz3 S.p) (ze3 S.p), iaddr_sl (un35 S.p) (sz3 S.p), len_sl (un35 S.p), len_nils (un35 S.p), part_sc (ag3 S.p), hlq]
  refine ends_cond (fun hc1 => ?_) (fun hc1 => ?_)
  · simp only [decide_eq_true_eq] at hc1
    have hlt : n < sumT 0 left left.length := by rw [← total_law left (by omega)]; exact hn'
    have hmx : multi 0 left ≤ 2432902008176640000 := multi_lt left (by omega)
    simp (disch := first | omega | (simp (disch := first | omega | (simp only [cells_len, ints_len, killq_len, List.length_append, List.length_cons, List.length_nil, List.length_set]; first | done | omega)) only [cells_len, ints_len, killq_len, amSide, Int.reduceToNat, Nat.reducePow, Nat.reduceMul]; first | done | omega)) only  [↓amPre, amPost, ↓s_lit', Nat.reduceAdd, Nat.reduceSub, List.replicate, retA, resultsA, resultA, toC, toCL, Nat.reduceEqDiff, he, append_at (un35 S.p) (sz3 S.p) (by3 S.p) (ze3 S.p) (by decide) (by decide) rfl, sl_cells (sz3 S.p), lit_fill (un35 S.p) (sz3 S.p) (ze3 S.p), iaddr_sl (un35 S.p) (sz3 S.p), len_sl (un35 S.p), len_nils (un35 S.p), part_sc (ag3 S.p)]
    refine ends_loop (X := RefIn) ⟨0, n, false, left, outs, b, qo, hh⟩ [10, 31, 32, 33, 34, 35, 36, 37, 38, 39, 40, 41, 42, 43, 44, 45, 46, 47, 48, 49, 50, 51, 52, 53, 54, 55, 56, 57, 58, 59]
      (fun x => (x.found = false → x.t ≤ l.length ∧ sumT 0 left x.t ≤ n ∧ x.n = n - sumT 0 left x.t ∧ x.left = left ∧ x.outs = outs ∧ x.b = b ∧ x.q = qo ∧ Ext1 hh x.h) ∧
        (x.found = true → x.t = l.length + 1 ∧ x.n = restT n left ∧ x.left = leftT n left ∧ x.outs = outs ++ [whoT n left] ∧ restT n left < multi 0 (leftT n left) ∧ sumN (leftT n left) + 1 = sumN left ∧
          x.b < x.h.length ∧ cellsAt x.h x.b = some (cellsI x.left) ∧ Own 3 1 h.length x.h x.q (cellsI x.outs) ∧ Apart (.sl x.b 0 l.length 1) x.q ∧ Ext1 h x.h)) (fun x => l.length + 1 - x.t)
      (fun x e => (((e.set 0 (.v (.sc (.int .u64 (x.n : Nat))))).set 1 (.v (.sc (.sl x.b 0 l.length 1)))).set 8 (.v (.sc x.q))).set 9 (.v (.sc (.int .i64 x.t)))) (fun x => x.h)
      (by have := S.k; show _ < K; simp only; omega) ⟨fun _ => ⟨by simp only; omega, by simp [sumT], by simp [sumT], rfl, rfl, rfl, rfl, Ext1.refl _⟩, fun h => by cases h⟩ rfl rfl ?_
    rintro ⟨t, m, found, left', outs', b', qo', hj⟩ ⟨hF, hT⟩ again2 hag2 e2 he2
    simp only at hF hT hag2 he2
    simp only [↓amPre, amPost, ↓s_lit', Nat.reduceAdd, Nat.reduceSub, List.replicate, retA, resultsA, resultA, toC, toCL, Nat.reduceEqDiff] at he2
    simp only [↓amPre, amPost, ↓s_lit', Nat.reduceAdd, Nat.reduceSub, List.replicate, retA, resultsA, resultA, toC, toCL, Nat.reduceEqDiff, he2]
    cases found with
    | true =>
      obtain ⟨rfl, rfl, rfl, rfl, k1, k2, k3, k4, k5, k6, k7⟩ := hT rfl
      simp (disch := first | omega | (simp (disch := first | omega | (simp only [cells_len, ints_len, killq_len, List.length_append, List.length_cons, List.length_nil, List.length_set]; first | done | omega)) only [cells_len, ints_len, killq_len, amSide, Int.reduceToNat, Nat.reducePow, Nat.reduceMul]; first | done | omega)) only  [↓amPre, amPost, ↓s_lit', Nat.reduceAdd, Nat.reduceSub, List.replicate, retA, resultsA, resultA, toC, toCL, Nat.reduceEqDiff, he2, append_at (un35 S.p) (sz3 S.p) (by3 S.p) (ze3 S.p) (by decide) (by decide) rfl, sl_cells (sz3 S.p), lit_fill (un35 S.p) (sz3 S.p) (ze3 S.p), iaddr_sl (un35 S.p) (sz3 S.p), len_sl (un35 S.p), len_nils (un35 S.p), part_sc (ag3 S.p), hlen, dec_f]
      refine hag ⟨i + 1, restT n left, leftT n left, outs ++ [whoT n left], b', qo', hj⟩ ⟨by simp only; omega, k1, by simp only; omega, by simp only [leftT_len]; exact hl', by simp [ho], nth_one hnth (by omega), k3, k4, k5, k6, k7⟩ (by simp only; omega) _ ?_
      simp (disch := first | omega | (simp (disch := first | omega | (simp only [cells_len, ints_len, killq_len, List.length_append, List.length_cons, List.length_nil, List.length_set]; first | done | omega)) only [cells_len, ints_len, killq_len, amSide, Int.reduceToNat, Nat.reducePow, Nat.reduceMul]; first | done | omega)) only [↓amPre, amPost, ↓s_lit', Nat.reduceAdd, Nat.reduceSub, List.replicate, retA, resultsA, resultA, toC, toCL, Nat.reduceEqDiff, Int.natCast_add, Int.cast_ofNat_Int, dec_t, dec_f]
    | false =>
      obtain ⟨ht, hsm, rfl, rfl, rfl, rfl, rfl, hxj⟩ := hF rfl
      have ht' : t < l.length := by
        rcases Nat.eq_or_lt_of_le ht with h1 | h1
        · rw [h1, ← hl'] at hsm; omega
        · exact h1
      have hcj : cellsAt hj b' = some (cellsI left') := by rw [hxj.cells hbb]; exact hcb
      have hbj : b' < hj.length := by have := hxj.len; omega
      by_cases hz : left'.getD t 0 = 0
      · have tz : sumT 0 left' (t + 1) = sumT 0 left' t := by show sumT 0 left' t + term 0 left' t = _; unfold term; rw [if_pos hz]; rfl
        simp (disch := first | omega | (simp (disch := first | omega | (simp only [cells_len, ints_len, killq_len, List.length_append, List.length_cons, List.length_nil, List.length_set]; first | done | omega)) only [cells_len, ints_len, killq_len, amSide, Int.reduceToNat, Nat.reducePow, Nat.reduceMul]; first | done | omega)) only  [↓amPre, amPost, ↓s_lit', Nat.reduceAdd, Nat.reduceSub, List.replicate, retA, resultsA, resultA, toC, toCL, Nat.reduceEqDiff, he2, append_at (un35 S.p) (sz3 S.p) (by3 S.p) (ze3 S.p) (by decide) (by decide) rfl, sl_cells (sz3 S.p), lit_fill (un35 S.p) (sz3 S.p) (ze3 S.p), iaddr_sl (un35 S.p) (sz3 S.p), len_sl (un35 S.p), len_nils (un35 S.p), part_sc (ag3 S.p), hlen, dec_t, idx_ok, hcj, cellsI_at, beqI_t, Int.toNat_natCast, Nat.mul_one, Nat.zero_add, wrap_i64]
        refine hag2 ⟨t + 1, _, false, left', outs', b', qo', hj⟩ ⟨fun _ => ⟨ht', by simp only; rw [tz]; exact hsm, by simp only; rw [tz], rfl, rfl, rfl, rfl, hxj⟩, fun h => by cases h⟩ (by simp only; omega) _ ?_
        simp (disch := first | omega | (simp (disch := first | omega | (simp only [cells_len, ints_len, killq_len, List.length_append, List.length_cons, List.length_nil, List.length_set]; first | done | omega)) only [cells_len, ints_len, killq_len, amSide, Int.reduceToNat, Nat.reducePow, Nat.reduceMul]; first | done | omega)) only [↓amPre, amPost, ↓s_lit', Nat.reduceAdd, Nat.reduceSub, List.replicate, retA, resultsA, resultA, toC, toCL, Nat.reduceEqDiff, Int.natCast_add, Int.cast_ofNat_Int, dec_t, dec_f]
      · have hge := sumN_ge left' t
        have h49 := s49 S (show 1 ≤ d by omega) (.sl b' 0 l.length 1) left' (by omega) t (by omega) hz (by omega) lk hj (by have := hx.len; have := hxj.len; omega) (.inr ⟨b', by rw [ints_len, hl'], hbj, hcj⟩)
        rw [hl'] at h49
        have hx1 := hxj.push (.rw 3 (cellsI (left'.set t (left'.getD t 0 - 1))))
        have hss := sumN_set left' t (left'.getD t 0 - 1) (by omega)
        have f27 : ∀ lk, ev P T K d 27 [.sc (.sl hj.length 0 l.length 1)] lk (hj ++ [.rw 3 (cellsI (left'.set t (left'.getD t 0 - 1)))]) = some (.v (.sc (.int .u64 ((multi 0 (left'.set t (left'.getD t 0 - 1)) : Nat) : Int))), hj ++ [.rw 3 (cellsI (left'.set t (left'.getD t 0 - 1)))]) := fun lk =>
          s27 S (by omega) _ (left'.set t (left'.getD t 0 - 1)) (by simp; omega) (by omega) lk _ (.inr ⟨hj.length, by simp [ints_len, hl'], by simp, by rw [cells_self _ _ _ rfl]; rfl⟩)
        by_cases hlt2 : n - sumT 0 left' t < multi 0 (left'.set t (left'.getD t 0 - 1))
        · obtain ⟨w1, w2, w3, w4, w5⟩ := whoT_spec (by omega) hz hsm hlt2
          have hO1 := ((hO.ext hxj).push (.rw 3 (cellsI (left'.set t (left'.getD t 0 - 1))))).push (.rw 3 [.int .i64 ((t : Nat) : Int)])
          obtain ⟨q2, h2, happ, hown, hl2, hg2, hx2, _, hap2⟩ := grow_own (b := 8) (lk := lk) hO1 [.int .i64 ((t : Nat) : Int)] (by omega) (by simp) (by simp) (by omega) (by simp; have := hx.len; have := hxj.len; omega) (by rw [cells_len]; simp only [List.length_singleton]; omega)
          have hx3 := hx2 h (((hx.trans hxj).push _).push _) (by omega)
          rw [cellsI_snoc] at hown
          have hqo : Apart (.sl hj.length 0 l.length 1) qo' := fun l1 o n s o' n' s' e1 e2 => by
            simp only [SV.sl.injEq] at e1
            rcases hO.ext hxj with ⟨e3, _⟩ | ⟨l3, _, k2, e3, _⟩
            · rw [e3] at e2; cases e2
            · rw [e3] at e2; simp only [SV.sl.injEq] at e2; omega
          obtain ⟨g1, g2⟩ := hap2 hj.length 0 l.length 1 hqo (by simp)
          have hc2 : cellsAt h2 hj.length = some (cellsI (left'.set t (left'.getD t 0 - 1))) := by
            refine cells_at (el := 3) ?_
            rw [g1, List.getElem?_append_left (by simp), List.getElem?_append_right (by simp)]; simp
          simp only [List.length_append, List.length_singleton] at hl2
          clear hnth hO1 hO hap2
          simp (disch := first | omega | (simp (disch := first | omega | (simp only [cells_len, ints_len, killq_len, List.length_append, List.length_cons, List.length_nil, List.length_set]; first | done | omega)) only [cells_len, ints_len, killq_len, amSide, Int.reduceToNat, Nat.reducePow, Nat.reduceMul]; first | done | omega)) only  [↓amPre, amPost, ↓s_lit', Nat.reduceAdd, Nat.reduceSub, List.replicate, retA, resultsA, resultA, toC, toCL, Nat.reduceEqDiff, he2, append_at (un35 S.p) (sz3 S.p) (by3 S.p) (ze3 S.p) (by decide) (by decide) rfl, sl_cells (sz3 S.p), lit_fill (un35 S.p) (sz3 S.p) (ze3 S.p), iaddr_sl (un35 S.p) (sz3 S.p), len_sl (un35 S.p), len_nils (un35 S.p), part_sc (ag3 S.p), hlen, dec_t, idx_ok, hcj, cellsI_at, beqI_f, h49, f27, happ, cells_self, List.flatten_cons, List.flatten_nil, List.append_nil, splice_def, Int.toNat_natCast, Nat.mul_one, Nat.zero_add, wrap_i64]
          refine hag2 ⟨l.length + 1, n - sumT 0 left' t, true, left'.set t (left'.getD t 0 - 1), outs' ++ [t], hj.length, q2, h2⟩ ⟨fun h => (by cases h), fun _ => ⟨rfl, w2.symm, w3.symm, by rw [w1], w4, w5, by simp only; omega, hc2, hown, g2, hx3⟩⟩ (by simp only; omega) _ ?_
          simp (disch := first | omega | (simp (disch := first | omega | (simp only [cells_len, ints_len, killq_len, List.length_append, List.length_cons, List.length_nil, List.length_set]; first | done | omega)) only [cells_len, ints_len, killq_len, amSide, Int.reduceToNat, Nat.reducePow, Nat.reduceMul]; first | done | omega)) only [↓amPre, amPost, ↓s_lit', Nat.reduceAdd, Nat.reduceSub, List.replicate, retA, resultsA, resultA, toC, toCL, Nat.reduceEqDiff, Int.natCast_add, Int.cast_ofNat_Int, dec_t, dec_f]
        · have ti : sumT 0 left' (t + 1) = sumT 0 left' t + multi 0 (left'.set t (left'.getD t 0 - 1)) := by show sumT 0 left' t + term 0 left' t = _; unfold term; rw [if_neg hz]
          have w4 : IntKind.u64.wrap (((n - sumT 0 left' t : Nat) : Int) - ((multi 0 (left'.set t (left'.getD t 0 - 1)) : Nat) : Int)) = ((n - sumT 0 left' (t + 1) : Nat) : Int) := by rw [wrap_u64 (by omega) (by omega)]; omega
          simp (disch := first | omega | (simp (disch := first | omega | (simp only [cells_len, ints_len, killq_len, List.length_append, List.length_cons, List.length_nil, List.length_set]; first | done | omega)) only [cells_len, ints_len, killq_len, amSide, Int.reduceToNat, Nat.reducePow, Nat.reduceMul]; first | done | omega)) only  [↓amPre, amPost, ↓s_lit', Nat.reduceAdd, Nat.reduceSub, List.replicate, retA, resultsA, resultA, toC, toCL, Nat.reduceEqDiff, he2, append_at (un35 S.p) (sz3 S.p) (by3 S.p) (ze3 S.p) (by decide) (by decide) rfl, sl_cells (sz3 S.p), lit_fill (un35 S.p) (sz3 S.p) (ze3 S.p), iaddr_sl (un35 S.p) (sz3 S.p), len_sl (un35 S.p), len_nils (un35 S.p), part_sc (ag3 S.p), hlen, dec_t, dec_f, idx_ok, hcj, cellsI_at, beqI_f, h49, f27, w4, Int.toNat_natCast, Nat.mul_one, Nat.zero_add, wrap_i64]
          refine hag2 ⟨t + 1, n - sumT 0 left' (t + 1), false, left', outs', b', qo', _⟩ ⟨fun _ => ⟨ht', by simp only; omega, rfl, rfl, rfl, rfl, rfl, hx1⟩, fun h => by cases h⟩ (by simp only; omega) _ ?_
          simp (disch := first | omega | (simp (disch := first | omega | (simp only [cells_len, ints_len, killq_len, List.length_append, List.length_cons, List.length_nil, List.length_set]; first | done | omega)) only [cells_len, ints_len, killq_len, amSide, Int.reduceToNat, Nat.reducePow, Nat.reduceMul]; first | done | omega)) only [↓amPre, amPost, ↓s_lit', Nat.reduceAdd, Nat.reduceSub, List.replicate, retA, resultsA, resultA, toC, toCL, Nat.reduceEqDiff, Int.natCast_add, Int.cast_ofNat_Int, dec_t, dec_f]
  · simp only [decide_eq_false_iff_not] at hc1
    obtain rfl : i = sumN l := by omega
    rw [Nat.sub_self] at hnth
    simp only [nthL, List.append_nil] at hnth
    simp (disch := first | omega | (simp (disch := first | omega | (simp only [cells_len, ints_len, killq_len, List.length_append, List.length_cons, List.length_nil, List.length_set]; first | done | omega)) only [cells_len, ints_len, killq_len, amSide, Int.reduceToNat, Nat.reducePow, Nat.reduceMul]; first | done | omega)) only  [↓amPre, amPost, ↓s_lit', Nat.reduceAdd, Nat.reduceSub, List.replicate, retA, resultsA, resultA, toC, toCL, Nat.reduceEqDiff, he, append_at (un35 S.p) (sz3 S.p) (by3 S.p) (ze3 S.p) (by decide) (by decide) rfl, sl_cells (sz3 S.p), lit_fill (un35 S.p) (sz3 S.p) (ze3 S.p), iaddr_sl (un35 S.p) (sz3 S.p), len_sl (un35 S.p), len_nils (un35 S.p), part_sc (ag3 S.p)]
    exact Ends.some ⟨qo, rfl, hx, by rw [← hnth]; exact hO.sl⟩
end Go.AM
