/- Orders: the next one, of the program. Conditions: none. -/
import Derived.Test.YtdokijbheholdaaIn15
set_option linter.unusedVariables false
set_option linter.unusedSimpArgs false
set_option maxRecDepth 100000
namespace Go.AM
open Go.Proofs
-- LENS: cells_len, ints_len, killq_len, cellsZ_len
def NextR (l : List Int) (h : List AO) (v : AV) (h' : List AO) : Prop := Ext1 h h' ∧ ((nextI l = none ∧ v = .tup [.sc .nils, .sc (.bool false)]) ∨ ∃ x q', nextI l = some x ∧ v = .tup [.sc q', .sc (.bool true)] ∧ Sl h' q' x)
theorem desc_cons {l : List Int} {i : Nat} (hi : i < l.length) (hd : Desc (l.drop (i + 1))) (h : ∀ y ∈ l.drop (i + 1), y ≤ l.getD i 0) : Desc (l.drop i) := by
  rw [drop_cons l i hi]; exact List.pairwise_cons.2 ⟨h, hd⟩
theorem mem_drop {l : List Int} {i : Nat} {y : Int} (h : y ∈ l.drop i) : ∃ m, i ≤ m ∧ m < l.length ∧ l.getD m 0 = y := by
  obtain ⟨m, hm, rfl⟩ := List.getElem_of_mem h
  rw [List.length_drop] at hm
  refine ⟨i + m, by omega, by omega, ?_⟩
  rw [List.getElem_drop, List.getD_eq_getElem?_getD, List.getElem?_eq_getElem (by omega)]; rfl
theorem drop_mem {l : List Int} {i m : Nat} (h1 : i ≤ m) (h2 : m < l.length) : l.getD m 0 ∈ l.drop i := by
  rw [List.getD_eq_getElem?_getD, List.getElem?_eq_getElem h2]
  have : (l.drop i)[m - i]? = some l[m] := by rw [List.getElem?_drop, show i + (m - i) = m by omega, List.getElem?_eq_getElem h2]
  exact List.mem_of_getElem? this
theorem desc_get {l : List Int} {i a b : Nat} (hd : Desc (l.drop i)) (h1 : i ≤ a) (h2 : a < b) (h3 : b < l.length) : l.getD b 0 ≤ l.getD a 0 := by
  have := List.pairwise_iff_getElem.1 hd (a - i) (b - i) (by simp; omega) (by simp; omega) (by omega)
  rw [List.getElem_drop, List.getElem_drop] at this
  simp only [List.getD_eq_getElem?_getD, List.getElem?_eq_getElem h3, List.getElem?_eq_getElem (show a < l.length by omega), Option.getD_some]
  have e1 : i + (a - i) = a := by omega
  have e2 : i + (b - i) = b := by omega
  simp only [e1, e2] at this
  exact this
theorem desc_step {l : List Int} {i : Nat} (hi : i + 1 < l.length) (hd : Desc (l.drop (i + 1))) (h : l.getD (i + 1) 0 ≤ l.getD i 0) : Desc (l.drop i) :=
  desc_cons (by omega) hd fun y hy => by
    obtain ⟨m, h1, h2, rfl⟩ := mem_drop hy
    rcases Nat.eq_or_lt_of_le h1 with rfl | h1
    · exact h
    · have := desc_get hd (Nat.le_refl _) h1 h2; omega
/-- The next one, where its places are found. -/
theorem nextI_at {l : List Int} {i k : Nat} (hik : i < k) (hk : k < l.length) (hd : Desc (l.drop (i + 1))) (h1 : l.getD i 0 < l.getD k 0) (h2 : ∀ m, k < m → m < l.length → l.getD m 0 ≤ l.getD i 0) :
    nextI l = some ((l.take i ++ [l.getD k 0]) ++ ((l.drop (i + 1)).take (k - (i + 1)) ++ l.getD i 0 :: l.drop (k + 1)).reverse) ∧
    (l.set i (l.getD k 0)).set k (l.getD i 0) = (l.take i ++ [l.getD k 0]) ++ ((l.drop (i + 1)).take (k - (i + 1)) ++ l.getD i 0 :: l.drop (k + 1)) := by
  have h3 : l.drop (i + 1) = (l.drop (i + 1)).take (k - (i + 1)) ++ l.getD k 0 :: l.drop (k + 1) := by
    have := (List.take_append_drop (k - (i + 1)) (l.drop (i + 1))).symm
    rw [List.drop_drop, show i + 1 + (k - (i + 1)) = k by omega, drop_cons l k hk] at this
    exact this
  refine ⟨?_, by rw [swap_two l i k hik hk]; simp⟩
  have := nextI_some (l.getD i 0) (l.getD k 0) ((l.drop (i + 1)).take (k - (i + 1))) (l.drop (k + 1)) (by rw [← h3]; exact hd) h1 (fun y hy => by
    obtain ⟨m, k1, k2, rfl⟩ := mem_drop hy
    exact h2 m (by omega) k2) (l.take i)
  rw [← two_split l i k hik hk] at this
  rw [this]; simp
theorem s33 {P : Program} {T : Tab} {K d : Nat} (S : Sd P T K) (hd : 3 ≤ d) (q : SV) (l : List Int) (hl : l.length ≤ 100000) (lk : Nat) (h : List AO) (hlk : lk ≤ h.length) (hS : Sl h q l) :
    Ends (NextR l h) (ev P T K d 33 [.sc q] lk h) := by
  obtain ⟨d, rfl⟩ : ∃ k, d = k + 1 := ⟨d - 1, by omega⟩
  rw [ev_run (at33 S.t)]
  unfold i33 Try.f33
  obtain ⟨v, h1, e47, ⟨rfl, q', rfl, hq', hx⟩ | ⟨hne, rfl, hh⟩⟩ := s47c S (show 1 ≤ d by omega) q l hl lk h hlk hS
  · have hlq := hq'.len S
    simp (disch := first | omega | (simp (disch := first | omega | (simp only [cells_len, ints_len, killq_len, cellsZ_len, List.length_append, List.length_cons, List.length_nil, List.length_set]; first | done | omega)) only [cells_len, ints_len, killq_len, cellsZ_len, amSide, Int.reduceToNat, Nat.reducePow, Nat.reduceMul]; first | done | omega)) only  [↓amPre, amPost, ↓s_lit', Nat.reduceAdd, Nat.reduceSub, List.replicate, retA, resultsA, resultA, toC, toCL, Nat.reduceEqDiff, iaddr_sl (un35 S.p) (sz3 S.p), len_sl (un35 S.p), len_nils (un35 S.p), part_sc (ag3 S.p), slice_lo (un35 S.p) (sz3 S.p), slice_hi (un35 S.p) (sz3 S.p), slice_lohi (un35 S.p) (sz3 S.p), slice_nil (un35 S.p) (sz3 S.p), store_last (sz3 S.p), (sz3 S.p), e47, hlq, List.length_nil, wrap_i64]
    refine ends_loop (X := Unit) () [12, 13, 14, 15, 16, 17, 18, 19, 20, 21, 22, 23, 24, 25, 26, 27] (fun _ => True) (fun _ => 0) (fun _ e => e) (fun _ => h1) (by have := S.k; show 0 < K; omega) trivial rfl rfl ?_
    rintro _ _ again hag e he
    simp only [↓amPre, amPost, ↓s_lit', Nat.reduceAdd, Nat.reduceSub, List.replicate, retA, resultsA, resultA, toC, toCL, Nat.reduceEqDiff] at he
    simp only [↓amPre, amPost, ↓s_lit', Nat.reduceAdd, Nat.reduceSub, List.replicate, retA, resultsA, resultA, toC, toCL, Nat.reduceEqDiff, he]
    simp (disch := first | omega | (simp (disch := first | omega | (simp only [cells_len, ints_len, killq_len, cellsZ_len, List.length_append, List.length_cons, List.length_nil, List.length_set]; first | done | omega)) only [cells_len, ints_len, killq_len, cellsZ_len, amSide, Int.reduceToNat, Nat.reducePow, Nat.reduceMul]; first | done | omega)) only  [↓amPre, amPost, ↓s_lit', Nat.reduceAdd, Nat.reduceSub, List.replicate, retA, resultsA, resultA, toC, toCL, Nat.reduceEqDiff, he, iaddr_sl (un35 S.p) (sz3 S.p), len_sl (un35 S.p), len_nils (un35 S.p), part_sc (ag3 S.p), slice_lo (un35 S.p) (sz3 S.p), slice_hi (un35 S.p) (sz3 S.p), slice_lohi (un35 S.p) (sz3 S.p), slice_nil (un35 S.p) (sz3 S.p), store_last (sz3 S.p), (sz3 S.p), dec_f, dec_t]
    exact Ends.some ⟨hx, .inl ⟨rfl, rfl⟩⟩
  have hl0 : 0 < l.length := by cases l with | nil => exact absurd rfl hne | cons _ _ => simp
  have hx : Ext1 h h1 := by rw [hh]; exact ((Ext1.refl h).push _).push _
  have hB : h1[h.length + 1]? = some (.rw 3 (cellsZ l)) := by rw [hh]; simp
  have hc : cellsAt h1 (h.length + 1) = some (cellsZ l) := cells_at hB
  generalize hb : h.length + 1 = b at *
  clear hh
  simp (disch := first | omega | (simp (disch := first | omega | (simp only [cells_len, ints_len, killq_len, cellsZ_len, List.length_append, List.length_cons, List.length_nil, List.length_set]; first | done | omega)) only [cells_len, ints_len, killq_len, cellsZ_len, amSide, Int.reduceToNat, Nat.reducePow, Nat.reduceMul]; first | done | omega)) only  [↓amPre, amPost, ↓s_lit', Nat.reduceAdd, Nat.reduceSub, List.replicate, retA, resultsA, resultA, toC, toCL, Nat.reduceEqDiff, iaddr_sl (un35 S.p) (sz3 S.p), len_sl (un35 S.p), len_nils (un35 S.p), part_sc (ag3 S.p), slice_lo (un35 S.p) (sz3 S.p), slice_hi (un35 S.p) (sz3 S.p), slice_lohi (un35 S.p) (sz3 S.p), slice_nil (un35 S.p) (sz3 S.p), store_last (sz3 S.p), (sz3 S.p), e47, wrap_i64]
  refine ends_loop (X := Nat) (l.length - 1) [12, 13, 14, 15, 16, 17, 18, 19, 20, 21, 22, 23, 24, 25, 26, 27] (fun j => j + 1 ≤ l.length ∧ Desc (l.drop j)) (fun j => j) (fun j e => e.set 5 (.v (.sc (.int .i64 ((j : Int) - 1))))) (fun _ => h1)
    (by have := S.k; show _ < K; omega) ⟨by omega, by
      have : l.drop (l.length - 1) = [l.getD (l.length - 1) 0] := by rw [drop_cons l _ (by omega), show l.length - 1 + 1 = l.length by omega, List.drop_length]
      rw [this]; exact List.pairwise_singleton ..⟩ (by rw [show ((l.length - 1 : Nat) : Int) - 1 = (l.length : Int) - 2 by omega]; simp (disch := first | omega | (simp (disch := first | omega | (simp only [cells_len, ints_len, killq_len, cellsZ_len, List.length_append, List.length_cons, List.length_nil, List.length_set]; first | done | omega)) only [cells_len, ints_len, killq_len, cellsZ_len, amSide, Int.reduceToNat, Nat.reducePow, Nat.reduceMul]; first | done | omega)) only [↓amPre, amPost, ↓s_lit', Nat.reduceAdd, Nat.reduceSub, List.replicate, retA, resultsA, resultA, toC, toCL, Nat.reduceEqDiff, Int.natCast_add, Int.cast_ofNat_Int, dec_t, dec_f]) rfl ?_
  rintro j ⟨hj, hdj⟩ again hag e he
  simp only [↓amPre, amPost, ↓s_lit', Nat.reduceAdd, Nat.reduceSub, List.replicate, retA, resultsA, resultA, toC, toCL, Nat.reduceEqDiff] at he
  simp only [↓amPre, amPost, ↓s_lit', Nat.reduceAdd, Nat.reduceSub, List.replicate, retA, resultsA, resultA, toC, toCL, Nat.reduceEqDiff, he]
  cases j with
  | zero =>
    simp (disch := first | omega | (simp (disch := first | omega | (simp only [cells_len, ints_len, killq_len, cellsZ_len, List.length_append, List.length_cons, List.length_nil, List.length_set]; first | done | omega)) only [cells_len, ints_len, killq_len, cellsZ_len, amSide, Int.reduceToNat, Nat.reducePow, Nat.reduceMul]; first | done | omega)) only  [↓amPre, amPost, ↓s_lit', Nat.reduceAdd, Nat.reduceSub, List.replicate, retA, resultsA, resultA, toC, toCL, Nat.reduceEqDiff, he, iaddr_sl (un35 S.p) (sz3 S.p), len_sl (un35 S.p), len_nils (un35 S.p), part_sc (ag3 S.p), slice_lo (un35 S.p) (sz3 S.p), slice_hi (un35 S.p) (sz3 S.p), slice_lohi (un35 S.p) (sz3 S.p), slice_nil (un35 S.p) (sz3 S.p), store_last (sz3 S.p), (sz3 S.p), dec_f, dec_t]
    exact Ends.some ⟨hx, .inl ⟨nextI_desc (by simpa using hdj), rfl⟩⟩
  | succ i =>
    have hji : ((i + 1 : Nat) : Int) - 1 = (i : Int) := by omega
    have hji2 : ((i : Nat) : Int) + 1 = ((i + 1 : Nat) : Int) := by omega
    rw [hji] at he
    have hgi := cellsZ_at l i (by omega)
    have hgj := cellsZ_at l (i + 1) (by omega)
    by_cases hge : l.getD i 0 ≥ l.getD (i + 1) 0
    · simp (disch := first | omega | (simp (disch := first | omega | (simp only [cells_len, ints_len, killq_len, cellsZ_len, List.length_append, List.length_cons, List.length_nil, List.length_set]; first | done | omega)) only [cells_len, ints_len, killq_len, cellsZ_len, amSide, Int.reduceToNat, Nat.reducePow, Nat.reduceMul]; first | done | omega)) only  [↓amPre, amPost, ↓s_lit', Nat.reduceAdd, Nat.reduceSub, List.replicate, retA, resultsA, resultA, toC, toCL, Nat.reduceEqDiff, he, hji, iaddr_sl (un35 S.p) (sz3 S.p), len_sl (un35 S.p), len_nils (un35 S.p), part_sc (ag3 S.p), slice_lo (un35 S.p) (sz3 S.p), slice_hi (un35 S.p) (sz3 S.p), slice_lohi (un35 S.p) (sz3 S.p), slice_nil (un35 S.p) (sz3 S.p), store_last (sz3 S.p), (sz3 S.p), dec_t, idx_ok, hc, hgi, hgj, hji2, Int.toNat_natCast, Nat.mul_one, Nat.zero_add, wrap_i64]
      refine hag i ⟨by omega, desc_step (by omega) hdj hge⟩ (by omega) _ ?_
      simp (disch := first | omega | (simp (disch := first | omega | (simp only [cells_len, ints_len, killq_len, cellsZ_len, List.length_append, List.length_cons, List.length_nil, List.length_set]; first | done | omega)) only [cells_len, ints_len, killq_len, cellsZ_len, amSide, Int.reduceToNat, Nat.reducePow, Nat.reduceMul]; first | done | omega)) only [↓amPre, amPost, ↓s_lit', Nat.reduceAdd, Nat.reduceSub, List.replicate, retA, resultsA, resultA, toC, toCL, Nat.reduceEqDiff, Int.natCast_add, Int.cast_ofNat_Int, dec_t, dec_f]
    · simp (disch := first | omega | (simp (disch := first | omega | (simp only [cells_len, ints_len, killq_len, cellsZ_len, List.length_append, List.length_cons, List.length_nil, List.length_set]; first | done | omega)) only [cells_len, ints_len, killq_len, cellsZ_len, amSide, Int.reduceToNat, Nat.reducePow, Nat.reduceMul]; first | done | omega)) only  [↓amPre, amPost, ↓s_lit', Nat.reduceAdd, Nat.reduceSub, List.replicate, retA, resultsA, resultA, toC, toCL, Nat.reduceEqDiff, he, hji, iaddr_sl (un35 S.p) (sz3 S.p), len_sl (un35 S.p), len_nils (un35 S.p), part_sc (ag3 S.p), slice_lo (un35 S.p) (sz3 S.p), slice_hi (un35 S.p) (sz3 S.p), slice_lohi (un35 S.p) (sz3 S.p), slice_nil (un35 S.p) (sz3 S.p), store_last (sz3 S.p), (sz3 S.p), dec_t, dec_f, idx_ok, hc, hgi, hgj, hji2, Int.toNat_natCast, Nat.mul_one, Nat.zero_add, wrap_i64]
      clear hag
      refine ends_loop (X := Nat) (l.length - 1) [33, 34, 35, 36, 37, 38, 39, 40, 41, 42, 43] (fun k => i < k ∧ k < l.length ∧ ∀ m, k < m → m < l.length → l.getD m 0 ≤ l.getD i 0) (fun k => k) (fun k e => e.set 6 (.v (.sc (.int .i64 (k : Int))))) (fun _ => h1)
        (by have := S.k; show _ < K; omega) ⟨by omega, by omega, fun m h1 h2 => by omega⟩ (by rw [show ((l.length - 1 : Nat) : Int) = (l.length : Int) - 1 by omega]; simp (disch := first | omega | (simp (disch := first | omega | (simp only [cells_len, ints_len, killq_len, cellsZ_len, List.length_append, List.length_cons, List.length_nil, List.length_set]; first | done | omega)) only [cells_len, ints_len, killq_len, cellsZ_len, amSide, Int.reduceToNat, Nat.reducePow, Nat.reduceMul]; first | done | omega)) only [↓amPre, amPost, ↓s_lit', Nat.reduceAdd, Nat.reduceSub, List.replicate, retA, resultsA, resultA, toC, toCL, Nat.reduceEqDiff, Int.natCast_add, Int.cast_ofNat_Int, dec_t, dec_f]) rfl ?_
      rintro k ⟨hik, hk, hm⟩ again hag e he
      simp only [↓amPre, amPost, ↓s_lit', Nat.reduceAdd, Nat.reduceSub, List.replicate, retA, resultsA, resultA, toC, toCL, Nat.reduceEqDiff] at he
      simp only [↓amPre, amPost, ↓s_lit', Nat.reduceAdd, Nat.reduceSub, List.replicate, retA, resultsA, resultA, toC, toCL, Nat.reduceEqDiff, he]
      have hgk := cellsZ_at l k hk
      by_cases hle : l.getD k 0 ≤ l.getD i 0
      · have hk1 : k ≠ i + 1 := fun q => by subst q; omega
        simp (disch := first | omega | (simp (disch := first | omega | (simp only [cells_len, ints_len, killq_len, cellsZ_len, List.length_append, List.length_cons, List.length_nil, List.length_set]; first | done | omega)) only [cells_len, ints_len, killq_len, cellsZ_len, amSide, Int.reduceToNat, Nat.reducePow, Nat.reduceMul]; first | done | omega)) only  [↓amPre, amPost, ↓s_lit', Nat.reduceAdd, Nat.reduceSub, List.replicate, retA, resultsA, resultA, toC, toCL, Nat.reduceEqDiff, he, iaddr_sl (un35 S.p) (sz3 S.p), len_sl (un35 S.p), len_nils (un35 S.p), part_sc (ag3 S.p), slice_lo (un35 S.p) (sz3 S.p), slice_hi (un35 S.p) (sz3 S.p), slice_lohi (un35 S.p) (sz3 S.p), slice_nil (un35 S.p) (sz3 S.p), store_last (sz3 S.p), (sz3 S.p), dec_t, idx_ok, hc, hgi, hgk, Int.toNat_natCast, Nat.mul_one, Nat.zero_add, wrap_i64]
        refine hag (k - 1) ⟨by omega, by omega, fun m h1 h2 => ?_⟩ (by omega) _ ?_
        · rcases Nat.eq_or_lt_of_le (show k ≤ m by omega) with rfl | h3
          · exact hle
          · exact hm m h3 h2
        · rw [show ((k - 1 : Nat) : Int) = (k : Int) - 1 by omega]; simp (disch := first | omega | (simp (disch := first | omega | (simp only [cells_len, ints_len, killq_len, cellsZ_len, List.length_append, List.length_cons, List.length_nil, List.length_set]; first | done | omega)) only [cells_len, ints_len, killq_len, cellsZ_len, amSide, Int.reduceToNat, Nat.reducePow, Nat.reduceMul]; first | done | omega)) only [↓amPre, amPost, ↓s_lit', Nat.reduceAdd, Nat.reduceSub, List.replicate, retA, resultsA, resultA, toC, toCL, Nat.reduceEqDiff, Int.natCast_add, Int.cast_ofNat_Int, dec_t, dec_f]
      · obtain ⟨n1, n2⟩ := nextI_at hik hk hdj (by omega) hm
        have hcs : cellsAt h1 b = some (cellsZ l) := hc
        have hblt : b < h1.length := (List.getElem?_eq_some_iff.1 hB).1
        have st1 : ∀ x, storeA P h1 lk 3 (.v (.sc (.ptr b i))) (.v (.sc (.int .i64 x))) = some (h1.set b (.rw 3 (cellsZ (l.set i x)))) := fun x => st_oneZ S hB (by omega) (by omega) x
        have st2 : ∀ x y, storeA P (h1.set b (.rw 3 (cellsZ (l.set i x)))) lk 3 (.v (.sc (.ptr b k))) (.v (.sc (.int .i64 y))) = some (h1.set b (.rw 3 (cellsZ ((l.set i x).set k y)))) := fun x y => by
          rw [st_oneZ S (get_set_self hB) (by omega) (by simp; omega), List.set_set]
        have hal : (l.take i ++ [l.getD k 0]).length = i + 1 := by simp; omega
        have hxl : ((l.drop (i + 1)).take (k - (i + 1)) ++ l.getD i 0 :: l.drop (k + 1)).length = l.length - (i + 1) := by simp; omega
        have h51 := s51 S (show 1 ≤ d by omega) (l.take i ++ [l.getD k 0]) ((l.drop (i + 1)).take (k - (i + 1)) ++ l.getD i 0 :: l.drop (k + 1)) (by rw [hal]; omega) (by rw [hxl]; omega) b lk (h1.set b (.rw 3 (cellsZ ((l.set i (l.getD k 0)).set k (l.getD i 0))))) (by omega) (by rw [n2]; exact List.getElem?_set_self hblt)
        rw [hal, hxl, List.set_set] at h51
        have hfl : nextI l = some ((l.take i ++ [l.getD k 0]) ++ ((l.drop (i + 1)).take (k - (i + 1)) ++ l.getD i 0 :: l.drop (k + 1)).reverse) := n1
        have hxlen : ((l.take i ++ [l.getD k 0]) ++ ((l.drop (i + 1)).take (k - (i + 1)) ++ l.getD i 0 :: l.drop (k + 1)).reverse).length = l.length := by rw [List.length_append, List.length_reverse, hal, hxl]; omega
        have hx2 : Ext1 h (h1.set b (.rw 3 (cellsZ ((l.take i ++ [l.getD k 0]) ++ ((l.drop (i + 1)).take (k - (i + 1)) ++ l.getD i 0 :: l.drop (k + 1)).reverse)))) := hx.set (by omega) _
        have hsl : Sl (h1.set b (.rw 3 (cellsZ ((l.take i ++ [l.getD k 0]) ++ ((l.drop (i + 1)).take (k - (i + 1)) ++ l.getD i 0 :: l.drop (k + 1)).reverse)))) (.sl b 0 l.length 1) ((l.take i ++ [l.getD k 0]) ++ ((l.drop (i + 1)).take (k - (i + 1)) ++ l.getD i 0 :: l.drop (k + 1)).reverse) :=
          .inr ⟨b, by rw [hxlen], by simpa using hblt, cells_set _ _ _ hblt⟩
        generalize (l.take i ++ [l.getD k 0]) ++ ((l.drop (i + 1)).take (k - (i + 1)) ++ l.getD i 0 :: l.drop (k + 1)).reverse = fin at *
        clear n2 hxl hal
        simp (disch := first | omega | (simp (disch := first | omega | (simp only [cells_len, ints_len, killq_len, cellsZ_len, List.length_append, List.length_cons, List.length_nil, List.length_set]; first | done | omega)) only [cells_len, ints_len, killq_len, cellsZ_len, amSide, Int.reduceToNat, Nat.reducePow, Nat.reduceMul]; first | done | omega)) only  [↓amPre, amPost, ↓s_lit', Nat.reduceAdd, Nat.reduceSub, List.replicate, retA, resultsA, resultA, toC, toCL, Nat.reduceEqDiff, he, iaddr_sl (un35 S.p) (sz3 S.p), len_sl (un35 S.p), len_nils (un35 S.p), part_sc (ag3 S.p), slice_lo (un35 S.p) (sz3 S.p), slice_hi (un35 S.p) (sz3 S.p), slice_lohi (un35 S.p) (sz3 S.p), slice_nil (un35 S.p) (sz3 S.p), store_last (sz3 S.p), (sz3 S.p), dec_f, idx_ok, hc, hgi, hgk, st1, st2, h51, hji2, Int.toNat_natCast, Nat.mul_one, Nat.one_mul, Nat.zero_add, wrap_i64]
        exact Ends.some ⟨hx2, .inr ⟨fin, _, hfl, rfl, hsl⟩⟩
end Go.AM
