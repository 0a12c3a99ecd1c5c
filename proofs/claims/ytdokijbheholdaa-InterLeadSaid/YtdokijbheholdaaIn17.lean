/- Orders: the next one, of the document. Conditions: none. -/
import Derived.Test.YtdokijbheholdaaIn16
set_option linter.unusedVariables false
set_option linter.unusedSimpArgs false
set_option maxRecDepth 100000
namespace Go.AM
open Go.Proofs
-- LENS: cells_len, ints_len, killq_len, cellsZ_len
structure NxIn where
  k : Nat
  best : Int
/-- The exchange sort's places. -/
def SortIn (ys xs : List Int) (a b : Nat) : Prop := ys.length = xs.length ∧ xs.Perm ys ∧ (∀ p q, p < a → p < q → q < xs.length → ys.getD p 0 ≤ ys.getD q 0) ∧ ∀ q, a < q → q < b → ys.getD a 0 ≤ ys.getD q 0
theorem sort_swap {ys xs : List Int} {a b : Nat} (H : SortIn ys xs a b) (hab : a < b) (hb : b < xs.length) (hlt : ys.getD b 0 < ys.getD a 0) :
    SortIn ((ys.set a (ys.getD b 0)).set b (ys.getD a 0)) xs a (b + 1) := by
  obtain ⟨h1, h2, h3, h4⟩ := H
  have hg : ∀ p, p < xs.length → ((ys.set a (ys.getD b 0)).set b (ys.getD a 0)).getD p 0 = if p = b then ys.getD a 0 else if p = a then ys.getD b 0 else ys.getD p 0 := fun p hp => by
    rw [getD_setI _ _ _ _ (by simp; omega), getD_setI _ _ _ _ (by omega)]
  refine ⟨by simp [h1], h2.trans (swap_perm ys a b hab (by omega)), fun p q hp hq hql => ?_, fun q h5 h6 => ?_⟩
  · rw [hg p (by omega), hg q hql, if_neg (by omega), if_neg (by omega)]
    by_cases e1 : q = b
    · rw [if_pos e1]; exact h3 p a hp hp (by omega)
    · rw [if_neg e1]
      by_cases e2 : q = a
      · rw [if_pos e2]; exact h3 p b hp (by omega) hb
      · rw [if_neg e2]; exact h3 p q hp hq hql
  · rw [hg a (by omega), hg q (by omega), if_neg (by omega), if_pos rfl]
    by_cases e1 : q = b
    · rw [if_pos e1]; omega
    · rw [if_neg e1, if_neg (by omega)]
      have := h4 q h5 (by omega); omega
theorem sort_keep {ys xs : List Int} {a b : Nat} (H : SortIn ys xs a b) (hge : ys.getD a 0 ≤ ys.getD b 0) : SortIn ys xs a (b + 1) := by
  obtain ⟨h1, h2, h3, h4⟩ := H
  refine ⟨h1, h2, h3, fun q h5 h6 => ?_⟩
  rcases Nat.eq_or_lt_of_le (show q ≤ b by omega) with rfl | h7
  · exact hge
  · exact h4 q h5 h7
theorem sort_next {ys xs : List Int} {a : Nat} (H : SortIn ys xs a xs.length) : SortIn ys xs (a + 1) (a + 2) := by
  obtain ⟨h1, h2, h3, h4⟩ := H
  refine ⟨h1, h2, fun p q hp hq hql => ?_, fun q h5 h6 => by omega⟩
  rcases Nat.eq_or_lt_of_le (show p ≤ a by omega) with rfl | h7
  · exact h4 q hq hql
  · exact h3 p q h7 hq hql
theorem sort_done {ys xs : List Int} {a b : Nat} (H : SortIn ys xs a b) (ha : xs.length ≤ a) : Asc ys := by
  obtain ⟨h1, h2, h3, h4⟩ := H
  refine List.pairwise_iff_getElem.2 fun i j hi hj hij => ?_
  have := h3 i j (by omega) hij (by omega)
  simpa [List.getD_eq_getElem?_getD, hi, hj] using this
theorem rev_asc {l : List Int} {i k : Nat} (hik : i < k) (hk : k < l.length) (hd : Desc (l.drop (i + 1))) (h1 : l.getD i 0 < l.getD k 0) (h2 : ∀ m, k < m → m < l.length → l.getD m 0 ≤ l.getD i 0) :
    Asc ((l.drop (i + 1)).take (k - (i + 1)) ++ l.getD i 0 :: l.drop (k + 1)).reverse := by
  have h3 : l.drop (i + 1) = (l.drop (i + 1)).take (k - (i + 1)) ++ l.getD k 0 :: l.drop (k + 1) := by
    have := (List.take_append_drop (k - (i + 1)) (l.drop (i + 1))).symm
    rw [List.drop_drop, show i + 1 + (k - (i + 1)) = k by omega, drop_cons l k hk] at this
    exact this
  unfold Asc
  rw [List.pairwise_reverse]
  rw [h3] at hd
  obtain ⟨p1, p2, p3⟩ := List.pairwise_append.1 hd
  obtain ⟨p4, p5⟩ := List.pairwise_cons.1 p2
  refine List.pairwise_append.2 ⟨p1, List.pairwise_cons.2 ⟨fun y hy => ?_, p5⟩, fun a ha b hb => ?_⟩
  · obtain ⟨m, k1, k2, rfl⟩ := mem_drop hy
    exact h2 m (by omega) k2
  · have hau := p3 a ha _ List.mem_cons_self
    rcases List.mem_cons.1 hb with rfl | hb
    · omega
    · exact p3 a ha b (List.mem_cons_of_mem _ hb)
structure SoSt where
  a : Nat
  ys : List Int
set_option maxHeartbeats 4000000 in
theorem s34 {P : Program} {T : Tab} {K d : Nat} (S : Sd P T K) (hd : 3 ≤ d) (q : SV) (l : List Int) (hl : l.length ≤ 100000) (lk : Nat) (h : List AO) (hlk : lk ≤ h.length) (hS : Sl h q l) :
    Ends (NextR l h) (ev P T K d 34 [.sc q] lk h) := by
  obtain ⟨d, rfl⟩ : ∃ k, d = k + 1 := ⟨d - 1, by omega⟩
  rw [ev_run (at34 S.t)]
  unfold i34 Try.f34
  have hlen : ∀ hh, lenA P hh 35 (.v (.sc q)) = some (.v (.sc (.int .i64 (l.length : Int)))) := hS.len S
  simp (disch := first | omega | (simp (disch := first | omega | (simp only [cells_len, ints_len, killq_len, cellsZ_len, List.length_append, List.length_cons, List.length_nil, List.length_set]; first | done | omega)) only [cells_len, ints_len, killq_len, cellsZ_len, amSide, Int.reduceToNat, Nat.reducePow, Nat.reduceMul]; first | done | omega)) only  [↓amPre, amPost, ↓s_lit', Nat.reduceAdd, Nat.reduceSub, List.replicate, retA, resultsA, resultA, toC, toCL, Nat.reduceEqDiff, append_at (un35 S.p) (sz3 S.p) (by3 S.p) (ze3 S.p) (by decide) (by decide) rfl, sl_cells (sz3 S.p), iaddr_sl (un35 S.p) (sz3 S.p), len_sl (un35 S.p), len_nils (un35 S.p), part_sc (ag3 S.p), store_last (sz3 S.p), (sz3 S.p), hlen, wrap_i64]
  rcases Nat.eq_zero_or_pos l.length with hz | hl0
  · obtain rfl := List.eq_nil_of_length_eq_zero hz
    refine ends_loop (X := Unit) () [2, 3, 5, 6, 7, 8, 9, 13, 14, 15, 16, 17, 18, 19, 20, 21, 22, 23, 24, 25, 26, 27, 28, 29, 30, 31, 32, 33, 34, 35, 36, 37, 38, 39, 40, 41, 42, 43, 44, 45, 46, 47, 48, 49, 50, 51, 52, 53, 54, 55, 56, 57, 58, 59, 60, 61, 62, 63, 64, 65, 66, 67, 68, 69, 70, 71, 72, 73, 74, 75, 76, 77, 78, 79, 80, 81, 82, 83, 84, 85, 86, 87, 88, 89, 90, 91, 92, 93, 94, 95, 96, 97, 98, 99, 100, 101, 102, 103, 104, 105, 106, 107] (fun _ => True) (fun _ => 0) (fun _ e => e) (fun _ => h) (by have := S.k; show 0 < K; omega) trivial rfl rfl ?_
    rintro _ _ again hag e he
    simp only [↓amPre, amPost, ↓s_lit', Nat.reduceAdd, Nat.reduceSub, List.replicate, retA, resultsA, resultA, toC, toCL, Nat.reduceEqDiff] at he
    simp only [↓amPre, amPost, ↓s_lit', Nat.reduceAdd, Nat.reduceSub, List.replicate, retA, resultsA, resultA, toC, toCL, Nat.reduceEqDiff, he]
    simp (disch := first | omega | (simp (disch := first | omega | (simp only [cells_len, ints_len, killq_len, cellsZ_len, List.length_append, List.length_cons, List.length_nil, List.length_set]; first | done | omega)) only [cells_len, ints_len, killq_len, cellsZ_len, amSide, Int.reduceToNat, Nat.reducePow, Nat.reduceMul]; first | done | omega)) only  [↓amPre, amPost, ↓s_lit', Nat.reduceAdd, Nat.reduceSub, List.replicate, retA, resultsA, resultA, toC, toCL, Nat.reduceEqDiff, he, append_at (un35 S.p) (sz3 S.p) (by3 S.p) (ze3 S.p) (by decide) (by decide) rfl, sl_cells (sz3 S.p), iaddr_sl (un35 S.p) (sz3 S.p), len_sl (un35 S.p), len_nils (un35 S.p), part_sc (ag3 S.p), store_last (sz3 S.p), (sz3 S.p), dec_f, dec_t]
    exact Ends.some ⟨Ext1.refl h, .inl ⟨rfl, rfl⟩⟩
  obtain ⟨b, rfl, hb, hc⟩ := hS.at hl0
  have hcc : cellsAt h b = some (cellsZ l) := hc
  refine ends_loop (X := Nat) (l.length - 1) [2, 3, 5, 6, 7, 8, 9, 13, 14, 15, 16, 17, 18, 19, 20, 21, 22, 23, 24, 25, 26, 27, 28, 29, 30, 31, 32, 33, 34, 35, 36, 37, 38, 39, 40, 41, 42, 43, 44, 45, 46, 47, 48, 49, 50, 51, 52, 53, 54, 55, 56, 57, 58, 59, 60, 61, 62, 63, 64, 65, 66, 67, 68, 69, 70, 71, 72, 73, 74, 75, 76, 77, 78, 79, 80, 81, 82, 83, 84, 85, 86, 87, 88, 89, 90, 91, 92, 93, 94, 95, 96, 97, 98, 99, 100, 101, 102, 103, 104, 105, 106, 107] (fun j => j + 1 ≤ l.length ∧ Desc (l.drop j)) (fun j => j) (fun j e => e.set 4 (.v (.sc (.int .i64 ((j : Int) - 1))))) (fun _ => h)
    (by have := S.k; show _ < K; omega) ⟨by omega, by
      have : l.drop (l.length - 1) = [l.getD (l.length - 1) 0] := by rw [drop_cons l _ (by omega), show l.length - 1 + 1 = l.length by omega, List.drop_length]
      rw [this]; exact List.pairwise_singleton ..⟩ (by rw [show ((l.length - 1 : Nat) : Int) - 1 = (l.length : Int) - 2 by omega]; simp (disch := first | omega | (simp (disch := first | omega | (simp only [cells_len, ints_len, killq_len, cellsZ_len, List.length_append, List.length_cons, List.length_nil, List.length_set]; first | done | omega)) only [cells_len, ints_len, killq_len, cellsZ_len, amSide, Int.reduceToNat, Nat.reducePow, Nat.reduceMul]; first | done | omega)) only [↓amPre, amPost, ↓s_lit', Nat.reduceAdd, Nat.reduceSub, List.replicate, retA, resultsA, resultA, toC, toCL, Nat.reduceEqDiff, Int.natCast_add, Int.cast_ofNat_Int, dec_t, dec_f]) rfl ?_
  rintro j ⟨hj, hdj⟩ again hag e he
  simp only [↓amPre, amPost, ↓s_lit', Nat.reduceAdd, Nat.reduceSub, List.replicate, retA, resultsA, resultA, toC, toCL, Nat.reduceEqDiff] at he
  simp only [↓amPre, amPost, ↓s_lit', Nat.reduceAdd, Nat.reduceSub, List.replicate, retA, resultsA, resultA, toC, toCL, Nat.reduceEqDiff, he]
  cases j with
  | zero =>
    simp (disch := first | omega | (simp (disch := first | omega | (simp only [cells_len, ints_len, killq_len, cellsZ_len, List.length_append, List.length_cons, List.length_nil, List.length_set]; first | done | omega)) only [cells_len, ints_len, killq_len, cellsZ_len, amSide, Int.reduceToNat, Nat.reducePow, Nat.reduceMul]; first | done | omega)) only  [↓amPre, amPost, ↓s_lit', Nat.reduceAdd, Nat.reduceSub, List.replicate, retA, resultsA, resultA, toC, toCL, Nat.reduceEqDiff, he, append_at (un35 S.p) (sz3 S.p) (by3 S.p) (ze3 S.p) (by decide) (by decide) rfl, sl_cells (sz3 S.p), iaddr_sl (un35 S.p) (sz3 S.p), len_sl (un35 S.p), len_nils (un35 S.p), part_sc (ag3 S.p), store_last (sz3 S.p), (sz3 S.p), dec_f, dec_t]
    exact Ends.some ⟨Ext1.refl h, .inl ⟨nextI_desc (by simpa using hdj), rfl⟩⟩
  | succ i =>
    have hji : ((i + 1 : Nat) : Int) - 1 = (i : Int) := by omega
    have hji2 : ((i : Nat) : Int) + 1 = ((i + 1 : Nat) : Int) := by omega
    rw [hji] at he
    have hgi := cellsZ_at l i (by omega)
    simp (disch := first | omega | (simp (disch := first | omega | (simp only [cells_len, ints_len, killq_len, cellsZ_len, List.length_append, List.length_cons, List.length_nil, List.length_set]; first | done | omega)) only [cells_len, ints_len, killq_len, cellsZ_len, amSide, Int.reduceToNat, Nat.reducePow, Nat.reduceMul]; first | done | omega)) only  [↓amPre, amPost, ↓s_lit', Nat.reduceAdd, Nat.reduceSub, List.replicate, retA, resultsA, resultA, toC, toCL, Nat.reduceEqDiff, he, hji, hji2, append_at (un35 S.p) (sz3 S.p) (by3 S.p) (ze3 S.p) (by decide) (by decide) rfl, sl_cells (sz3 S.p), iaddr_sl (un35 S.p) (sz3 S.p), len_sl (un35 S.p), len_nils (un35 S.p), part_sc (ag3 S.p), store_last (sz3 S.p), (sz3 S.p), dec_t, wrap_i64]
    refine ends_loop (X := NxIn) ⟨i + 1, -1⟩ [19, 20, 21, 22, 23, 24, 25, 26, 27, 28, 29, 30, 31, 32, 33, 34, 35, 36, 37, 38, 39, 40, 41, 42, 43, 44, 45, 46, 47, 48, 49] (fun x => i < x.k ∧ x.k ≤ l.length ∧ ((x.best = -1 ∧ ∀ m, i < m → m < x.k → l.getD m 0 ≤ l.getD i 0) ∨ ∃ p : Nat, x.best = (p : Int) ∧ i < p ∧ p < x.k ∧ l.getD i 0 < l.getD p 0 ∧ ∀ m, p < m → m < x.k → l.getD m 0 ≤ l.getD i 0)) (fun x => l.length - x.k)
      (fun x e => (e.set 5 (.v (.sc (.int .i64 x.best)))).set 6 (.v (.sc (.int .i64 (x.k : Int))))) (fun _ => h)
      (by have := S.k; show _ < K; simp only; omega) ⟨by simp only; omega, by simp only; omega, .inl ⟨rfl, fun m h1 h2 => by simp only at h2; omega⟩⟩ rfl rfl ?_
    rintro ⟨k, best⟩ ⟨hik, hkl, hbest⟩ again2 hag2 e2 he2
    simp only at hik hkl hbest hag2 he2
    simp only [↓amPre, amPost, ↓s_lit', Nat.reduceAdd, Nat.reduceSub, List.replicate, retA, resultsA, resultA, toC, toCL, Nat.reduceEqDiff] at he2
    simp only [↓amPre, amPost, ↓s_lit', Nat.reduceAdd, Nat.reduceSub, List.replicate, retA, resultsA, resultA, toC, toCL, Nat.reduceEqDiff, he2]
    simp (disch := first | omega | (simp (disch := first | omega | (simp only [cells_len, ints_len, killq_len, cellsZ_len, List.length_append, List.length_cons, List.length_nil, List.length_set]; first | done | omega)) only [cells_len, ints_len, killq_len, cellsZ_len, amSide, Int.reduceToNat, Nat.reducePow, Nat.reduceMul]; first | done | omega)) only  [↓amPre, amPost, ↓s_lit', Nat.reduceAdd, Nat.reduceSub, List.replicate, retA, resultsA, resultA, toC, toCL, Nat.reduceEqDiff, he2, append_at (un35 S.p) (sz3 S.p) (by3 S.p) (ze3 S.p) (by decide) (by decide) rfl, sl_cells (sz3 S.p), iaddr_sl (un35 S.p) (sz3 S.p), len_sl (un35 S.p), len_nils (un35 S.p), part_sc (ag3 S.p), store_last (sz3 S.p), (sz3 S.p), hlen]
    refine ends_cond (fun hc2 => ?_) (fun hc2 => ?_)
    · simp only [decide_eq_true_eq] at hc2
      have hk' : k < l.length := by omega
      have hgk := cellsZ_at l k hk'
      by_cases hle : l.getD k 0 ≤ l.getD i 0
      · simp (disch := first | omega | (simp (disch := first | omega | (simp only [cells_len, ints_len, killq_len, cellsZ_len, List.length_append, List.length_cons, List.length_nil, List.length_set]; first | done | omega)) only [cells_len, ints_len, killq_len, cellsZ_len, amSide, Int.reduceToNat, Nat.reducePow, Nat.reduceMul]; first | done | omega)) only  [↓amPre, amPost, ↓s_lit', Nat.reduceAdd, Nat.reduceSub, List.replicate, retA, resultsA, resultA, toC, toCL, Nat.reduceEqDiff, he2, append_at (un35 S.p) (sz3 S.p) (by3 S.p) (ze3 S.p) (by decide) (by decide) rfl, sl_cells (sz3 S.p), iaddr_sl (un35 S.p) (sz3 S.p), len_sl (un35 S.p), len_nils (un35 S.p), part_sc (ag3 S.p), store_last (sz3 S.p), (sz3 S.p), dec_f, idx_ok, hcc, hgi, hgk, Int.toNat_natCast, Nat.mul_one, Nat.zero_add, wrap_i64]
        refine hag2 ⟨k + 1, best⟩ ⟨by simp only; omega, hk', ?_⟩ (by simp only; omega) _ ?_
        · rcases hbest with ⟨k1, k2⟩ | ⟨p, k1, k2, k3, k4, k5⟩
          · refine .inl ⟨k1, fun m h1 h2 => ?_⟩
            simp only at h2
            rcases Nat.eq_or_lt_of_le (show m ≤ k by omega) with rfl | h3
            · exact hle
            · exact k2 m h1 h3
          · refine .inr ⟨p, k1, k2, by simp only; omega, k4, fun m h1 h2 => ?_⟩
            simp only at h2
            rcases Nat.eq_or_lt_of_le (show m ≤ k by omega) with rfl | h3
            · exact hle
            · exact k5 m h1 h3
        · simp (disch := first | omega | (simp (disch := first | omega | (simp only [cells_len, ints_len, killq_len, cellsZ_len, List.length_append, List.length_cons, List.length_nil, List.length_set]; first | done | omega)) only [cells_len, ints_len, killq_len, cellsZ_len, amSide, Int.reduceToNat, Nat.reducePow, Nat.reduceMul]; first | done | omega)) only [↓amPre, amPost, ↓s_lit', Nat.reduceAdd, Nat.reduceSub, List.replicate, retA, resultsA, resultA, toC, toCL, Nat.reduceEqDiff, Int.natCast_add, Int.cast_ofNat_Int, dec_t, dec_f]
      · rcases hbest with ⟨k1, k2⟩ | ⟨p, k1, k2, k3, k4, k5⟩
        · subst k1
          simp (disch := first | omega | (simp (disch := first | omega | (simp only [cells_len, ints_len, killq_len, cellsZ_len, List.length_append, List.length_cons, List.length_nil, List.length_set]; first | done | omega)) only [cells_len, ints_len, killq_len, cellsZ_len, amSide, Int.reduceToNat, Nat.reducePow, Nat.reduceMul]; first | done | omega)) only  [↓amPre, amPost, ↓s_lit', Nat.reduceAdd, Nat.reduceSub, List.replicate, retA, resultsA, resultA, toC, toCL, Nat.reduceEqDiff, he2, append_at (un35 S.p) (sz3 S.p) (by3 S.p) (ze3 S.p) (by decide) (by decide) rfl, sl_cells (sz3 S.p), iaddr_sl (un35 S.p) (sz3 S.p), len_sl (un35 S.p), len_nils (un35 S.p), part_sc (ag3 S.p), store_last (sz3 S.p), (sz3 S.p), dec_t, idx_ok, hcc, hgi, hgk, Int.toNat_natCast, Nat.mul_one, Nat.zero_add, wrap_i64]
          refine hag2 ⟨k + 1, (k : Int)⟩ ⟨by simp only; omega, hk', .inr ⟨k, rfl, hik, by simp only; omega, by omega, fun m h1 h2 => by simp only at h2; omega⟩⟩ (by simp only; omega) _ ?_
          simp (disch := first | omega | (simp (disch := first | omega | (simp only [cells_len, ints_len, killq_len, cellsZ_len, List.length_append, List.length_cons, List.length_nil, List.length_set]; first | done | omega)) only [cells_len, ints_len, killq_len, cellsZ_len, amSide, Int.reduceToNat, Nat.reducePow, Nat.reduceMul]; first | done | omega)) only [↓amPre, amPost, ↓s_lit', Nat.reduceAdd, Nat.reduceSub, List.replicate, retA, resultsA, resultA, toC, toCL, Nat.reduceEqDiff, Int.natCast_add, Int.cast_ofNat_Int, dec_t, dec_f]
        · subst k1
          have hgp := cellsZ_at l p (by omega)
          have hkp : l.getD k 0 ≤ l.getD p 0 := desc_get hdj (by omega) k3 hk'
          simp (disch := first | omega | (simp (disch := first | omega | (simp only [cells_len, ints_len, killq_len, cellsZ_len, List.length_append, List.length_cons, List.length_nil, List.length_set]; first | done | omega)) only [cells_len, ints_len, killq_len, cellsZ_len, amSide, Int.reduceToNat, Nat.reducePow, Nat.reduceMul]; first | done | omega)) only  [↓amPre, amPost, ↓s_lit', Nat.reduceAdd, Nat.reduceSub, List.replicate, retA, resultsA, resultA, toC, toCL, Nat.reduceEqDiff, he2, append_at (un35 S.p) (sz3 S.p) (by3 S.p) (ze3 S.p) (by decide) (by decide) rfl, sl_cells (sz3 S.p), iaddr_sl (un35 S.p) (sz3 S.p), len_sl (un35 S.p), len_nils (un35 S.p), part_sc (ag3 S.p), store_last (sz3 S.p), (sz3 S.p), dec_t, dec_f, idx_ok, hcc, hgi, hgk, hgp, Int.toNat_natCast, Nat.mul_one, Nat.zero_add, wrap_i64]
          refine hag2 ⟨k + 1, (k : Int)⟩ ⟨by simp only; omega, hk', .inr ⟨k, rfl, hik, by simp only; omega, by omega, fun m h1 h2 => by simp only at h2; omega⟩⟩ (by simp only; omega) _ ?_
          simp (disch := first | omega | (simp (disch := first | omega | (simp only [cells_len, ints_len, killq_len, cellsZ_len, List.length_append, List.length_cons, List.length_nil, List.length_set]; first | done | omega)) only [cells_len, ints_len, killq_len, cellsZ_len, amSide, Int.reduceToNat, Nat.reducePow, Nat.reduceMul]; first | done | omega)) only [↓amPre, amPost, ↓s_lit', Nat.reduceAdd, Nat.reduceSub, List.replicate, retA, resultsA, resultA, toC, toCL, Nat.reduceEqDiff, Int.natCast_add, Int.cast_ofNat_Int, dec_t, dec_f]
    · simp only [decide_eq_false_iff_not] at hc2
      obtain rfl : k = l.length := by omega
      clear hag2
      rcases hbest with ⟨k1, k2⟩ | ⟨k, k1, k2, k3, k4, k5⟩
      · subst k1
        simp (disch := first | omega | (simp (disch := first | omega | (simp only [cells_len, ints_len, killq_len, cellsZ_len, List.length_append, List.length_cons, List.length_nil, List.length_set]; first | done | omega)) only [cells_len, ints_len, killq_len, cellsZ_len, amSide, Int.reduceToNat, Nat.reducePow, Nat.reduceMul]; first | done | omega)) only  [↓amPre, amPost, ↓s_lit', Nat.reduceAdd, Nat.reduceSub, List.replicate, retA, resultsA, resultA, toC, toCL, Nat.reduceEqDiff, he2, append_at (un35 S.p) (sz3 S.p) (by3 S.p) (ze3 S.p) (by decide) (by decide) rfl, sl_cells (sz3 S.p), iaddr_sl (un35 S.p) (sz3 S.p), len_sl (un35 S.p), len_nils (un35 S.p), part_sc (ag3 S.p), store_last (sz3 S.p), (sz3 S.p), dec_t, wrap_i64]
        refine hag i ⟨by omega, desc_cons (by omega) hdj fun y hy => ?_⟩ (by omega) _ ?_
        · obtain ⟨m, m1, m2, rfl⟩ := mem_drop hy
          exact k2 m (by omega) m2
        · simp (disch := first | omega | (simp (disch := first | omega | (simp only [cells_len, ints_len, killq_len, cellsZ_len, List.length_append, List.length_cons, List.length_nil, List.length_set]; first | done | omega)) only [cells_len, ints_len, killq_len, cellsZ_len, amSide, Int.reduceToNat, Nat.reducePow, Nat.reduceMul]; first | done | omega)) only [↓amPre, amPost, ↓s_lit', Nat.reduceAdd, Nat.reduceSub, List.replicate, retA, resultsA, resultA, toC, toCL, Nat.reduceEqDiff, Int.natCast_add, Int.cast_ofNat_Int, dec_t, dec_f]
      · subst k1
        clear hag
        obtain ⟨n1, n2⟩ := nextI_at k2 k3 hdj k4 k5
        have hra := rev_asc k2 k3 hdj k4 k5
        have hgk := cellsZ_at l k k3
        have hne : (cellsZ l).isEmpty = false := by
          have := cellsZ_len l
          cases hq : cellsZ l with
          | nil => rw [hq] at this; simp at this; omega
          | cons _ _ => rfl
        have htk : (cellsZ l).take l.length = cellsZ l := List.take_of_length_le (by rw [cellsZ_len]; omega)
        have hB : (h ++ [.rw 3 (cellsZ l)])[h.length]? = some (.rw 3 (cellsZ l)) := by simp
        have hB2 : cellsAt (h ++ [.rw 3 (cellsZ l)]) h.length = some (cellsZ l) := cells_self _ _ _ rfl
        have hal : (l.take i ++ [l.getD k 0]).length = i + 1 := by simp; omega
        have hxl : ((l.drop (i + 1)).take (k - (i + 1)) ++ l.getD i 0 :: l.drop (k + 1)).length = l.length - (i + 1) := by simp; omega
        generalize hpe : l.take i ++ [l.getD k 0] = pre at *
        generalize hxe : (l.drop (i + 1)).take (k - (i + 1)) ++ l.getD i 0 :: l.drop (k + 1) = xs at *
        clear hpe hxe
        have hle2 : ∀ hh, lenA P hh 35 (.v (.sc (.sl h.length 0 l.length 1))) = some (.v (.sc (.int .i64 (l.length : Int)))) := fun hh => len_sl (un35 S.p) _ _ _ _
        simp (disch := first | omega | (simp (disch := first | omega | (simp only [cells_len, ints_len, killq_len, cellsZ_len, List.length_append, List.length_cons, List.length_nil, List.length_set]; first | done | omega)) only [cells_len, ints_len, killq_len, cellsZ_len, amSide, Int.reduceToNat, Nat.reducePow, Nat.reduceMul]; first | done | omega)) only  [↓amPre, amPost, ↓s_lit', Nat.reduceAdd, Nat.reduceSub, List.replicate, retA, resultsA, resultA, toC, toCL, Nat.reduceEqDiff, he2, append_at (un35 S.p) (sz3 S.p) (by3 S.p) (ze3 S.p) (by decide) (by decide) rfl, sl_cells (sz3 S.p), iaddr_sl (un35 S.p) (sz3 S.p), len_sl (un35 S.p), len_nils (un35 S.p), part_sc (ag3 S.p), store_last (sz3 S.p), (sz3 S.p), dec_t, dec_f, idx_ok, hcc, hgi, hgk, cells_self, htk, appB_nilsA, hne, cellsZ_len, Nat.div_one, Nat.mod_one, cellsZ_set, n2, List.drop_zero, Int.toNat_natCast, Nat.mul_one, Nat.zero_add, wrap_i64]
        refine ends_loop (X := SoSt) ⟨i + 1, xs⟩ [9, 70, 71, 72, 73, 74, 75, 76, 77, 78, 79, 80, 81, 82, 83, 84, 85, 86, 87, 88, 89, 90, 91, 92, 93, 94, 95, 96, 97, 98, 99, 100, 101, 102, 103, 104, 105, 106] (fun x => i < x.a ∧ x.a ≤ l.length ∧ SortIn x.ys xs (x.a - (i + 1)) (x.a - i)) (fun x => l.length - x.a)
          (fun x e => e.set 8 (.v (.sc (.int .i64 (x.a : Int))))) (fun x => h ++ [.rw 3 (cellsZ (pre ++ x.ys))])
          (by have := S.k; show _ < K; simp only; omega) ⟨by simp only; omega, by simp only; omega, rfl, List.Perm.refl _, fun p q h1 => by simp only at h1; omega, fun q h1 h2 => by simp only at h1 h2; omega⟩ (by simp (disch := first | omega | (simp (disch := first | omega | (simp only [cells_len, ints_len, killq_len, cellsZ_len, List.length_append, List.length_cons, List.length_nil, List.length_set]; first | done | omega)) only [cells_len, ints_len, killq_len, cellsZ_len, amSide, Int.reduceToNat, Nat.reducePow, Nat.reduceMul]; first | done | omega)) only [↓amPre, amPost, ↓s_lit', Nat.reduceAdd, Nat.reduceSub, List.replicate, retA, resultsA, resultA, toC, toCL, Nat.reduceEqDiff, Int.natCast_add, Int.cast_ofNat_Int, dec_t, dec_f]) rfl ?_
        rintro ⟨a, ys⟩ ⟨ha, hal2, hso⟩ again3 hag3 e3 he3
        simp only at ha hal2 hso hag3 he3
        simp only [↓amPre, amPost, ↓s_lit', Nat.reduceAdd, Nat.reduceSub, List.replicate, retA, resultsA, resultA, toC, toCL, Nat.reduceEqDiff] at he3
        simp only [↓amPre, amPost, ↓s_lit', Nat.reduceAdd, Nat.reduceSub, List.replicate, retA, resultsA, resultA, toC, toCL, Nat.reduceEqDiff, he3]
        simp (disch := first | omega | (simp (disch := first | omega | (simp only [cells_len, ints_len, killq_len, cellsZ_len, List.length_append, List.length_cons, List.length_nil, List.length_set]; first | done | omega)) only [cells_len, ints_len, killq_len, cellsZ_len, amSide, Int.reduceToNat, Nat.reducePow, Nat.reduceMul]; first | done | omega)) only  [↓amPre, amPost, ↓s_lit', Nat.reduceAdd, Nat.reduceSub, List.replicate, retA, resultsA, resultA, toC, toCL, Nat.reduceEqDiff, he3, append_at (un35 S.p) (sz3 S.p) (by3 S.p) (ze3 S.p) (by decide) (by decide) rfl, sl_cells (sz3 S.p), iaddr_sl (un35 S.p) (sz3 S.p), len_sl (un35 S.p), len_nils (un35 S.p), part_sc (ag3 S.p), store_last (sz3 S.p), (sz3 S.p), hle2]
        refine ends_cond (fun hc3 => ?_) (fun hc3 => ?_)
        · simp only [decide_eq_true_eq] at hc3
          simp (disch := first | omega | (simp (disch := first | omega | (simp only [cells_len, ints_len, killq_len, cellsZ_len, List.length_append, List.length_cons, List.length_nil, List.length_set]; first | done | omega)) only [cells_len, ints_len, killq_len, cellsZ_len, amSide, Int.reduceToNat, Nat.reducePow, Nat.reduceMul]; first | done | omega)) only  [↓amPre, amPost, ↓s_lit', Nat.reduceAdd, Nat.reduceSub, List.replicate, retA, resultsA, resultA, toC, toCL, Nat.reduceEqDiff, he3, append_at (un35 S.p) (sz3 S.p) (by3 S.p) (ze3 S.p) (by decide) (by decide) rfl, sl_cells (sz3 S.p), iaddr_sl (un35 S.p) (sz3 S.p), len_sl (un35 S.p), len_nils (un35 S.p), part_sc (ag3 S.p), store_last (sz3 S.p), (sz3 S.p), wrap_i64]
          refine ends_loop (X := SoSt) ⟨a + 1, ys⟩ [78, 79, 80, 81, 82, 83, 84, 85, 86, 87, 88, 89, 90, 91, 92, 93, 94, 95, 96, 97, 98, 99, 100, 101, 102, 103, 104, 105, 106] (fun x => a < x.a ∧ x.a ≤ l.length ∧ SortIn x.ys xs (a - (i + 1)) (x.a - (i + 1))) (fun x => l.length - x.a)
            (fun x e => e.set 9 (.v (.sc (.int .i64 (x.a : Int))))) (fun x => h ++ [.rw 3 (cellsZ (pre ++ x.ys))])
            (by have := S.k; show _ < K; simp only; omega) ⟨by simp only; omega, by simp only; omega, by simp only; rw [show a + 1 - (i + 1) = a - i by omega]; exact hso⟩ (by simp (disch := first | omega | (simp (disch := first | omega | (simp only [cells_len, ints_len, killq_len, cellsZ_len, List.length_append, List.length_cons, List.length_nil, List.length_set]; first | done | omega)) only [cells_len, ints_len, killq_len, cellsZ_len, amSide, Int.reduceToNat, Nat.reducePow, Nat.reduceMul]; first | done | omega)) only [↓amPre, amPost, ↓s_lit', Nat.reduceAdd, Nat.reduceSub, List.replicate, retA, resultsA, resultA, toC, toCL, Nat.reduceEqDiff, Int.natCast_add, Int.cast_ofNat_Int, dec_t, dec_f]) rfl ?_
          rintro ⟨c, zs⟩ ⟨hac, hcl, hsi⟩ again4 hag4 e4 he4
          simp only at hac hcl hsi hag4 he4
          simp only [↓amPre, amPost, ↓s_lit', Nat.reduceAdd, Nat.reduceSub, List.replicate, retA, resultsA, resultA, toC, toCL, Nat.reduceEqDiff] at he4
          simp only [↓amPre, amPost, ↓s_lit', Nat.reduceAdd, Nat.reduceSub, List.replicate, retA, resultsA, resultA, toC, toCL, Nat.reduceEqDiff, he4]
          simp (disch := first | omega | (simp (disch := first | omega | (simp only [cells_len, ints_len, killq_len, cellsZ_len, List.length_append, List.length_cons, List.length_nil, List.length_set]; first | done | omega)) only [cells_len, ints_len, killq_len, cellsZ_len, amSide, Int.reduceToNat, Nat.reducePow, Nat.reduceMul]; first | done | omega)) only  [↓amPre, amPost, ↓s_lit', Nat.reduceAdd, Nat.reduceSub, List.replicate, retA, resultsA, resultA, toC, toCL, Nat.reduceEqDiff, he4, append_at (un35 S.p) (sz3 S.p) (by3 S.p) (ze3 S.p) (by decide) (by decide) rfl, sl_cells (sz3 S.p), iaddr_sl (un35 S.p) (sz3 S.p), len_sl (un35 S.p), len_nils (un35 S.p), part_sc (ag3 S.p), store_last (sz3 S.p), (sz3 S.p), hle2]
          refine ends_cond (fun hc4 => ?_) (fun hc4 => ?_)
          · simp only [decide_eq_true_eq] at hc4
            have hzl := hsi.1
            obtain ⟨α, rfl⟩ : ∃ α, a = i + 1 + α := ⟨a - (i + 1), by omega⟩
            obtain ⟨β, rfl⟩ : ∃ β, c = i + 1 + β := ⟨c - (i + 1), by omega⟩
            rw [show i + 1 + α - (i + 1) = α by omega] at *
            rw [show i + 1 + β - (i + 1) = β by omega] at *
            have hgα : (cellsZ (pre ++ zs))[i + 1 + α]? = some (.int .i64 (zs.getD α 0)) := by rw [cellsZ_at _ _ (by simp; omega), ← hal, getD_app]
            have hgβ : (cellsZ (pre ++ zs))[i + 1 + β]? = some (.int .i64 (zs.getD β 0)) := by rw [cellsZ_at _ _ (by simp; omega), ← hal, getD_app]
            by_cases hlt : zs.getD β 0 < zs.getD α 0
            · have sw := sort_swap hsi (by omega) (by omega) hlt
              have hs1 : ∀ (w : List Int) x, (pre ++ w).set (i + 1 + α) x = pre ++ w.set α x := fun w x => by rw [← hal, set_app]
              have hs2 : ∀ (w : List Int) x, (pre ++ w).set (i + 1 + β) x = pre ++ w.set β x := fun w x => by rw [← hal, set_app]
              have hpz : (pre ++ zs).length = l.length := by simp; omega
              simp (disch := first | omega | (simp (disch := first | omega | (simp only [cells_len, ints_len, killq_len, cellsZ_len, List.length_append, List.length_cons, List.length_nil, List.length_set]; first | done | omega)) only [cells_len, ints_len, killq_len, cellsZ_len, amSide, Int.reduceToNat, Nat.reducePow, Nat.reduceMul]; first | done | omega)) only  [↓amPre, amPost, ↓s_lit', Nat.reduceAdd, Nat.reduceSub, List.replicate, retA, resultsA, resultA, toC, toCL, Nat.reduceEqDiff, he4, append_at (un35 S.p) (sz3 S.p) (by3 S.p) (ze3 S.p) (by decide) (by decide) rfl, sl_cells (sz3 S.p), iaddr_sl (un35 S.p) (sz3 S.p), len_sl (un35 S.p), len_nils (un35 S.p), part_sc (ag3 S.p), store_last (sz3 S.p), (sz3 S.p), dec_t, idx_ok, cells_self, hgα, hgβ, cellsZ_set, hs1, hs2, hpz, Int.toNat_natCast, Nat.mul_one, Nat.zero_add, wrap_i64]
              refine hag4 ⟨i + 1 + β + 1, (zs.set α (zs.getD β 0)).set β (zs.getD α 0)⟩ ⟨by simp only; omega, by simp only; omega, by simp only; rw [show i + 1 + β + 1 - (i + 1) = β + 1 by omega]; exact sw⟩ (by simp only; omega) _ ?_
              simp (disch := first | omega | (simp (disch := first | omega | (simp only [cells_len, ints_len, killq_len, cellsZ_len, List.length_append, List.length_cons, List.length_nil, List.length_set]; first | done | omega)) only [cells_len, ints_len, killq_len, cellsZ_len, amSide, Int.reduceToNat, Nat.reducePow, Nat.reduceMul]; first | done | omega)) only [↓amPre, amPost, ↓s_lit', Nat.reduceAdd, Nat.reduceSub, List.replicate, retA, resultsA, resultA, toC, toCL, Nat.reduceEqDiff, Int.natCast_add, Int.cast_ofNat_Int, dec_t, dec_f]
            · have sw := sort_keep hsi (by omega)
              simp (disch := first | omega | (simp (disch := first | omega | (simp only [cells_len, ints_len, killq_len, cellsZ_len, List.length_append, List.length_cons, List.length_nil, List.length_set]; first | done | omega)) only [cells_len, ints_len, killq_len, cellsZ_len, amSide, Int.reduceToNat, Nat.reducePow, Nat.reduceMul]; first | done | omega)) only  [↓amPre, amPost, ↓s_lit', Nat.reduceAdd, Nat.reduceSub, List.replicate, retA, resultsA, resultA, toC, toCL, Nat.reduceEqDiff, he4, append_at (un35 S.p) (sz3 S.p) (by3 S.p) (ze3 S.p) (by decide) (by decide) rfl, sl_cells (sz3 S.p), iaddr_sl (un35 S.p) (sz3 S.p), len_sl (un35 S.p), len_nils (un35 S.p), part_sc (ag3 S.p), store_last (sz3 S.p), (sz3 S.p), dec_f, idx_ok, cells_self, hgα, hgβ, Int.toNat_natCast, Nat.mul_one, Nat.zero_add, wrap_i64]
              refine hag4 ⟨i + 1 + β + 1, zs⟩ ⟨by simp only; omega, by simp only; omega, by simp only; rw [show i + 1 + β + 1 - (i + 1) = β + 1 by omega]; exact sw⟩ (by simp only; omega) _ ?_
              simp (disch := first | omega | (simp (disch := first | omega | (simp only [cells_len, ints_len, killq_len, cellsZ_len, List.length_append, List.length_cons, List.length_nil, List.length_set]; first | done | omega)) only [cells_len, ints_len, killq_len, cellsZ_len, amSide, Int.reduceToNat, Nat.reducePow, Nat.reduceMul]; first | done | omega)) only [↓amPre, amPost, ↓s_lit', Nat.reduceAdd, Nat.reduceSub, List.replicate, retA, resultsA, resultA, toC, toCL, Nat.reduceEqDiff, Int.natCast_add, Int.cast_ofNat_Int, dec_t, dec_f]
          · simp only [decide_eq_false_iff_not] at hc4
            obtain rfl : c = l.length := by omega
            have hnx := sort_next (show SortIn zs xs (a - (i + 1)) xs.length by rw [hxl]; exact hsi)
            simp (disch := first | omega | (simp (disch := first | omega | (simp only [cells_len, ints_len, killq_len, cellsZ_len, List.length_append, List.length_cons, List.length_nil, List.length_set]; first | done | omega)) only [cells_len, ints_len, killq_len, cellsZ_len, amSide, Int.reduceToNat, Nat.reducePow, Nat.reduceMul]; first | done | omega)) only  [↓amPre, amPost, ↓s_lit', Nat.reduceAdd, Nat.reduceSub, List.replicate, retA, resultsA, resultA, toC, toCL, Nat.reduceEqDiff, he4, append_at (un35 S.p) (sz3 S.p) (by3 S.p) (ze3 S.p) (by decide) (by decide) rfl, sl_cells (sz3 S.p), iaddr_sl (un35 S.p) (sz3 S.p), len_sl (un35 S.p), len_nils (un35 S.p), part_sc (ag3 S.p), store_last (sz3 S.p), (sz3 S.p), wrap_i64]
            refine hag3 ⟨a + 1, zs⟩ ⟨by simp only; omega, by simp only; omega, by simp only; rw [show a + 1 - (i + 1) = a - (i + 1) + 1 by omega, show a + 1 - i = a - (i + 1) + 2 by omega]; exact hnx⟩ (by simp only; omega) _ ?_
            simp (disch := first | omega | (simp (disch := first | omega | (simp only [cells_len, ints_len, killq_len, cellsZ_len, List.length_append, List.length_cons, List.length_nil, List.length_set]; first | done | omega)) only [cells_len, ints_len, killq_len, cellsZ_len, amSide, Int.reduceToNat, Nat.reducePow, Nat.reduceMul]; first | done | omega)) only [↓amPre, amPost, ↓s_lit', Nat.reduceAdd, Nat.reduceSub, List.replicate, retA, resultsA, resultA, toC, toCL, Nat.reduceEqDiff, Int.natCast_add, Int.cast_ofNat_Int, dec_t, dec_f]
        · simp only [decide_eq_false_iff_not] at hc3
          obtain rfl : a = l.length := by omega
          have hys : ys = xs.reverse := asc_unique (hso.2.1.symm.trans (List.reverse_perm xs).symm) (sort_done hso (by omega)) hra
          subst hys
          have hlx : (pre ++ xs.reverse).length = l.length := by rw [List.length_append, List.length_reverse, hal, hxl]; omega
          have hsl : Sl (h ++ [.rw 3 (cellsZ (pre ++ xs.reverse))]) (.sl h.length 0 l.length 1) (pre ++ xs.reverse) := .inr ⟨h.length, by rw [hlx], by simp, cells_self _ _ _ rfl⟩
          have hx2 : Ext1 h (h ++ [.rw 3 (cellsZ (pre ++ xs.reverse))]) := (Ext1.refl h).push _
          have hfin : NextR l h (.tup [.sc (.sl h.length 0 l.length 1), .sc (.bool true)]) (h ++ [.rw 3 (cellsZ (pre ++ xs.reverse))]) := ⟨hx2, .inr ⟨pre ++ xs.reverse, _, n1, rfl, hsl⟩⟩
          clear hsl hx2 n1 hra hdj k4 k5
          simp (disch := first | omega | (simp (disch := first | omega | (simp only [cells_len, ints_len, killq_len, cellsZ_len, List.length_append, List.length_cons, List.length_nil, List.length_set]; first | done | omega)) only [cells_len, ints_len, killq_len, cellsZ_len, amSide, Int.reduceToNat, Nat.reducePow, Nat.reduceMul]; first | done | omega)) only  [↓amPre, amPost, ↓s_lit', Nat.reduceAdd, Nat.reduceSub, List.replicate, retA, resultsA, resultA, toC, toCL, Nat.reduceEqDiff, he3, append_at (un35 S.p) (sz3 S.p) (by3 S.p) (ze3 S.p) (by decide) (by decide) rfl, sl_cells (sz3 S.p), iaddr_sl (un35 S.p) (sz3 S.p), len_sl (un35 S.p), len_nils (un35 S.p), part_sc (ag3 S.p), store_last (sz3 S.p), (sz3 S.p)]
          exact Ends.some hfin
end Go.AM
