/- Orders: the order of a rank, of the program. Conditions: none. -/
import Derived.Test.YtdokijbheholdaaIn9
import Derived.Test.YtdokijbheholdaaAmOwn
import Derived.Test.YtdokijbheholdaaInRank
set_option linter.unusedVariables false
set_option linter.unusedSimpArgs false
set_option maxRecDepth 100000
namespace Go.AM
open Go.Proofs
-- LENS: cells_len, ints_len, killq_len
theorem Own.sl {lo : Nat} {h : List AO} {q : SV} {l : List Nat} (H : Own 3 1 lo h q (cellsI l)) : Sl h q (ints l) := by
  rcases H with ⟨rfl, h2⟩ | ⟨b, h1, h2, h3, h4, h5⟩
  · refine .inl ⟨rfl, ?_⟩
    have := cells_len l
    rw [h2] at this
    have : l = [] := List.eq_nil_of_length_eq_zero this.symm
    rw [this]; rfl
  · exact .inr ⟨b, by rw [h3, cells_len, Nat.div_one, ints_len], h2, cells_at h4⟩
theorem Sl.ext {h h' : List AO} {q : SV} {cnt : List Int} (H : Sl h q cnt) (hx : Ext1 h h') : Sl h' q cnt := by
  rcases H with ⟨h1, h2⟩ | ⟨l, h1, h2, h3⟩
  · exact .inl ⟨h1, h2⟩
  · exact .inr ⟨l, h1, Nat.lt_of_lt_of_le h2 hx.len, by rw [hx.cells h2]; exact h3⟩
theorem cellsI_snoc (l : List Nat) (x : Nat) : cellsI l ++ [.int .i64 ((x : Nat) : Int)] = cellsI (l ++ [x]) := by simp [cellsI, ints]
theorem ints_inj : ∀ {l l' : List Nat}, ints l = ints l' → l = l'
  | [], [], _ => rfl
  | a :: l, b :: l', h => by
    simp only [ints, List.map_cons, List.cons.injEq] at h
    rw [ints_inj (l := l) (l' := l') h.2]
    have := h.1
    congr 1; omega
  | [], _ :: _, h => by simp [ints] at h
  | _ :: _, [], h => by simp [ints] at h
theorem nthL_len : ∀ (k n : Nat) (l : List Nat), (nthL k n l).length = k
  | 0, _, _ => rfl
  | k + 1, n, l => by simp [nthL, nthL_len k]
theorem nth_one {all i n : Nat} {left outs l : List Nat} {n0 : Nat} (h : outs ++ nthL (all - i) n left = nthL all n0 l) (hi : i < all) :
    (outs ++ [whoT n left]) ++ nthL (all - (i + 1)) (restT n left) (leftT n left) = nthL all n0 l := by
  rw [← h]
  obtain ⟨k, hk⟩ : ∃ k, all - i = k + 1 := ⟨all - i - 1, by omega⟩
  rw [hk, show all - (i + 1) = k by omega]
  simp [nthL]
structure NthSt where
  i : Nat
  n : Nat
  left : List Nat
  outs : List Nat
  q : SV
  h : List AO
theorem s23 {P : Program} {T : Tab} {K d : Nat} (S : Sd P T K) (hd : 4 ≤ d) (n0 : Nat) (q : SV) (cnt : List Int) (lk : Nat) (h : List AO) (hlk : lk ≤ h.length) (hS : Sl h q cnt) :
    (totB cnt = false → ev P T K d 23 [.sc (.int .u64 (n0 : Nat)), .sc q] lk h = some (.tup [.sc .nils, .sc (.int .i64 1)], h)) ∧
    ∀ l, cnt = ints l → totB cnt = true →
      (multi 0 l ≤ n0 → ev P T K d 23 [.sc (.int .u64 (n0 : Nat)), .sc q] lk h = some (.tup [.sc .nils, .sc (.int .i64 6)], h)) ∧
      (n0 < multi 0 l → ∃ q' h', ev P T K d 23 [.sc (.int .u64 (n0 : Nat)), .sc q] lk h = some (.tup [.sc q', .sc (.int .i64 0)], h') ∧ Ext1 h h' ∧ Sl h' q' (ints (nthL (sumN l) n0 l))) := by
  obtain ⟨d, rfl⟩ : ∃ k, d = k + 1 := ⟨d - 1, by omega⟩
  have h45 : ∀ lk, ev P T K d 45 [.sc q] lk h = some (.tup [.sc (.int .i64 (totN cnt)), .sc (.bool (totB cnt))], h) := fun lk => s45 S (by omega) q cnt lk h hS
  rw [ev_run (at23 S.t)]
  unfold i23 Try.f23
  refine ⟨fun ht => ?_, fun l hl ht => ⟨fun hn => ?_, fun hn => ?_⟩⟩
  · simp (disch := first | omega | (simp (disch := first | omega | (simp only [cells_len, ints_len, killq_len, List.length_append, List.length_cons, List.length_nil, List.length_set]; first | done | omega)) only [cells_len, ints_len, killq_len, amSide, Int.reduceToNat, Nat.reducePow, Nat.reduceMul]; first | done | omega)) only  [↓amPre, amPost, ↓s_lit', Nat.reduceAdd, Nat.reduceSub, List.replicate, retA, resultsA, resultA, toC, toCL, Nat.reduceEqDiff, append_at (un35 S.p) (sz3 S.p) (by3 S.p) (ze3 S.p) (by decide) (by decide) rfl, sl_cells (sz3 S.p), lit_fill (un35 S.p) (sz3 S.p) (ze3 S.p), h45, ht]
  · obtain ⟨l', hl', l1, l8, ls⟩ := totB_nat ht
    subst hl
    have h46 : ∀ lk, ev P T K d 46 [.sc q] lk h = some (.v (.sc (.int .u64 ((multi 0 l : Nat) : Int))), h) := fun lk => by
      obtain rfl : l = l' := ints_inj hl'
      exact s46 S (by omega) q l l8 ls lk h hS
    simp (disch := first | omega | (simp (disch := first | omega | (simp only [cells_len, ints_len, killq_len, List.length_append, List.length_cons, List.length_nil, List.length_set]; first | done | omega)) only [cells_len, ints_len, killq_len, amSide, Int.reduceToNat, Nat.reducePow, Nat.reduceMul]; first | done | omega)) only  [↓amPre, amPost, ↓s_lit', Nat.reduceAdd, Nat.reduceSub, List.replicate, retA, resultsA, resultA, toC, toCL, Nat.reduceEqDiff, append_at (un35 S.p) (sz3 S.p) (by3 S.p) (ze3 S.p) (by decide) (by decide) rfl, sl_cells (sz3 S.p), lit_fill (un35 S.p) (sz3 S.p) (ze3 S.p), h45, ht, h46, dec_t]
  · obtain ⟨l', hl', l1, l8, ls⟩ := totB_nat ht
    subst hl
    obtain rfl : l = l' := ints_inj hl'
    have h46 : ∀ lk, ev P T K d 46 [.sc q] lk h = some (.v (.sc (.int .u64 ((multi 0 l : Nat) : Int))), h) := fun lk => s46 S (by omega) q l l8 ls lk h hS
    have h47 := s47 S (show 1 ≤ d by omega) q l (by omega) l8 lk h hlk hS
    have hN : totN (ints l) = ((sumN l : Nat) : Int) := by
      have : totOk (ints l) = true := by unfold totB at ht; simp only [Bool.and_eq_true] at ht; exact ht.1
      unfold totN; rw [if_pos this, ints_sum]
    suffices H : Ends (fun v h' => ∃ q', v = .tup [.sc q', .sc (.int .i64 0)] ∧ Ext1 h h' ∧ Sl h' q' (ints (nthL (sumN l) n0 l)))
        (runA ⟨P, ev P T K d, lk, K, i23.er, i23.dr⟩ i23.fn i23.c [.sc (.int .u64 (n0 : Nat)), .sc q] h) by
      obtain ⟨v, h', e, q', rfl, h1, h2⟩ := H
      exact ⟨q', h', e, h1, h2⟩
    unfold i23 Try.f23
    simp (disch := first | omega | (simp (disch := first | omega | (simp only [cells_len, ints_len, killq_len, List.length_append, List.length_cons, List.length_nil, List.length_set]; first | done | omega)) only [cells_len, ints_len, killq_len, amSide, Int.reduceToNat, Nat.reducePow, Nat.reduceMul]; first | done | omega)) only  [↓amPre, amPost, ↓s_lit', Nat.reduceAdd, Nat.reduceSub, List.replicate, retA, resultsA, resultA, toC, toCL, Nat.reduceEqDiff, append_at (un35 S.p) (sz3 S.p) (by3 S.p) (ze3 S.p) (by decide) (by decide) rfl, sl_cells (sz3 S.p), lit_fill (un35 S.p) (sz3 S.p) (ze3 S.p), h45, ht, hN, h46, h47, dec_t, dec_f]
    have x0 : Ext1 h (h ++ [.dead] ++ [.rw 3 (cellsI l)]) := ((Ext1.refl h).push _).push _
    refine ends_loop (X := NthSt) ⟨0, n0, l, [], .nils, h ++ [.dead] ++ [.rw 3 (cellsI l)]⟩ [10, 11, 29, 30, 31, 32, 33, 34, 35, 36, 37, 38, 39, 40, 41]
      (fun x => x.i ≤ sumN l ∧ x.n < multi 0 x.left ∧ sumN x.left + x.i = sumN l ∧ x.left.length = l.length ∧ x.outs.length = x.i ∧ x.outs ++ nthL (sumN l - x.i) x.n x.left = nthL (sumN l) n0 l ∧
        x.h[h.length + 1]? = some (.rw 3 (cellsI x.left)) ∧ Own 3 1 (h.length + 2) x.h x.q (cellsI x.outs) ∧ Ext1 h x.h ∧ h.length + 2 ≤ x.h.length) (fun x => sumN l - x.i)
      (fun x e => ((e.set 0 (.v (.sc (.int .u64 (x.n : Nat))))).set 9 (.v (.sc x.q))).set 28 (.v (.sc (.int .i64 x.i)))) (fun x => x.h)
      (by have := S.k; show _ < K; simp only; omega) ⟨by simp only; omega, hn, rfl, rfl, rfl, rfl, by simp, Own.nil _ _ _ _, x0, by simp⟩ rfl rfl ?_
    rintro ⟨i, n, left, outs, qo, hh⟩ ⟨hi, hn', hs', hl', ho, hnth, hB, hO, hx, hlen⟩ again hag e he
    simp only at hi hn' hs' hl' ho hnth hB hO hx hlen hag he
    simp only [↓amPre, amPost, ↓s_lit', Nat.reduceAdd, Nat.reduceSub, List.replicate, retA, resultsA, resultA, toC, toCL, Nat.reduceEqDiff] at he
    simp only [↓amPre, amPost, ↓s_lit', Nat.reduceAdd, Nat.reduceSub, List.replicate, retA, resultsA, resultA, toC, toCL, Nat.reduceEqDiff, he]
    refine ends_cond (fun hc1 => ?_) (fun hc1 => ?_)
    · simp only [decide_eq_true_eq] at hc1
      have hlt : n < sumT 0 left left.length := by rw [← total_law left (by omega)]; exact hn'
      obtain ⟨k1, k2, k3, k4⟩ := s48' S (show 2 ≤ d by omega) n left (by omega) (by omega) hlt (h.length + 1) lk hh (by omega) hB
      rw [hl'] at k4
      have hsum := leftT_sum k1 k2
      have hnew := nth_one hnth (show i < sumN l by omega)
      have hB2 : (hh.set (h.length + 1) (.rw 3 (cellsI (leftT n left))))[h.length + 1]? = some (.rw 3 (cellsI (leftT n left))) := List.getElem?_set_self (by omega)
      have hO2 := (hO.set (j := h.length + 1) (by omega) (.rw 3 (cellsI (leftT n left)))).push (.rw 3 [.int .i64 ((whoT n left : Nat) : Int)])
      obtain ⟨q2, h2, happ, hown, hl2, hg2, hx2, _⟩ := grow_own (b := 8) (lk := lk) hO2 [.int .i64 ((whoT n left : Nat) : Int)] (by omega) (by simp) (by simp) (by omega) (by simp; omega) (by rw [cells_len]; simp only [List.length_singleton]; omega)
      have hx3 := hx2 h (((hx.set (l := h.length + 1) (by omega) (.rw 3 (cellsI (leftT n left))))).push (.rw 3 [.int .i64 ((whoT n left : Nat) : Int)])) (by omega)
      have hB3 := hg2 (h.length + 1) (by omega)
      rw [List.getElem?_append_left (by simp; omega), hB2] at hB3
      rw [cellsI_snoc] at hown
      simp only [List.length_append, List.length_set, List.length_singleton] at hl2
      clear hnth hO2 hO k1 k2
      simp (disch := first | omega | (simp (disch := first | omega | (simp only [cells_len, ints_len, killq_len, List.length_append, List.length_cons, List.length_nil, List.length_set]; first | done | omega)) only [cells_len, ints_len, killq_len, amSide, Int.reduceToNat, Nat.reducePow, Nat.reduceMul]; first | done | omega)) only  [↓amPre, amPost, ↓s_lit', Nat.reduceAdd, Nat.reduceSub, List.replicate, retA, resultsA, resultA, toC, toCL, Nat.reduceEqDiff, he, append_at (un35 S.p) (sz3 S.p) (by3 S.p) (ze3 S.p) (by decide) (by decide) rfl, sl_cells (sz3 S.p), lit_fill (un35 S.p) (sz3 S.p) (ze3 S.p), k4, happ, cells_self, List.flatten_cons, List.flatten_nil, List.append_nil, splice_def, Nat.mul_one, List.take_succ_cons, List.take_zero, wrap_i64]
      refine hag ⟨i + 1, restT n left, leftT n left, outs ++ [whoT n left], q2, h2⟩ ⟨by simp only; omega, k3, by simp only; omega, by simp only [leftT_len]; exact hl', by simp [ho], hnew, hB3, hown, hx3, by simp only; omega⟩ (by simp only; omega) _ ?_
      simp only [↓amPre, amPost, ↓s_lit', Nat.reduceAdd, Nat.reduceSub, List.replicate, retA, resultsA, resultA, toC, toCL, Nat.reduceEqDiff, Int.natCast_add, Int.cast_ofNat_Int]
    · simp only [decide_eq_false_iff_not] at hc1
      obtain rfl : i = sumN l := by omega
      rw [Nat.sub_self] at hnth
      simp only [nthL, List.append_nil] at hnth
      simp (disch := first | omega | (simp (disch := first | omega | (simp only [cells_len, ints_len, killq_len, List.length_append, List.length_cons, List.length_nil, List.length_set]; first | done | omega)) only [cells_len, ints_len, killq_len, amSide, Int.reduceToNat, Nat.reducePow, Nat.reduceMul]; first | done | omega)) only  [↓amPre, amPost, ↓s_lit', Nat.reduceAdd, Nat.reduceSub, List.replicate, retA, resultsA, resultA, toC, toCL, Nat.reduceEqDiff, he, append_at (un35 S.p) (sz3 S.p) (by3 S.p) (ze3 S.p) (by decide) (by decide) rfl, sl_cells (sz3 S.p), lit_fill (un35 S.p) (sz3 S.p) (ze3 S.p)]
      exact Ends.some ⟨qo, rfl, hx, by rw [← hnth]; exact hO.sl⟩
end Go.AM
