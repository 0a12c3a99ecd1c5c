/- Races: clocks. Conditions: none. -/
import Derived.Test.YtgcgbcdgbfeaaaaAmTab
import Derived.Test.YtgcgbcdgbfeaaaaRaV
set_option linter.unusedVariables false
set_option linter.unusedSimpArgs false
set_option maxRecDepth 100000
namespace Go.AM
-- LENS: freeL_ck, ck_len, joinTo_len, join_len
open Go.Proofs
def leqTo (n : Nat) (a b : List Int) : Bool := (List.range n).all fun i => decide (a.getD i 0 ≤ b.getD i 0)
theorem leqTo_succ (n : Nat) (a b : List Int) : leqTo (n + 1) a b = (leqTo n a b && decide (a.getD n 0 ≤ b.getD n 0)) := by
  simp [leqTo, List.range_succ]
theorem leqTo_false (n m : Nat) (a b : List Int) (h : n ≤ m) (hf : leqTo n a b = false) : leqTo m a b = false := by
  induction m with
  | zero => obtain rfl : n = 0 := by omega
            exact hf
  | succ m ih =>
    rcases Nat.lt_or_ge n (m + 1) with h1 | h1
    · rw [leqTo_succ, ih (by omega)]; rfl
    · obtain rfl : n = m + 1 := by omega
      exact hf
def join (a b : List Int) : List Int := List.zipWith max a b
def joinTo (n : Nat) (a b : List Int) : List Int := (join a b).take n ++ a.drop n
theorem join_len (a b : List Int) (h : a.length = b.length) : (join a b).length = a.length := by simp [join]; omega
theorem joinTo_len (n : Nat) (a b : List Int) (h : a.length = b.length) : (joinTo n a b).length = a.length := by simp [joinTo, join]; omega
theorem joinTo_at (n : Nat) (a b : List Int) (h : a.length = b.length) (hn : n < a.length) : (joinTo n a b).getD n 0 = a.getD n 0 := by
  have h1 : ((join a b).take n).length = n := by simp [join]; omega
  simp only [joinTo, List.getD_eq_getElem?_getD]
  rw [List.getElem?_append_right (by omega), h1]
  simp
theorem joinTo_set (n : Nat) (a b : List Int) (h : a.length = b.length) (hn : n < a.length) : (joinTo n a b).set n (max (a.getD n 0) (b.getD n 0)) = joinTo (n + 1) a b := by
  apply List.ext_getElem?
  intro i
  have h1 : ((join a b).take n).length = n := by simp [join]; omega
  have h2 : ((join a b).take (n + 1)).length = n + 1 := by simp [join]; omega
  have hx : (join a b)[n]? = some (max (a.getD n 0) (b.getD n 0)) := by
    simp only [join, List.getElem?_zipWith, List.getD_eq_getElem?_getD]
    rw [List.getElem?_eq_getElem hn, List.getElem?_eq_getElem (by omega)]
    rfl
  simp only [joinTo]
  rw [List.getElem?_set]
  by_cases hi : n = i
  · subst hi
    rw [if_pos rfl, if_pos (by simp [join]; omega), List.getElem?_append_left (by omega), List.getElem?_take_of_lt (by omega), hx]
  · rw [if_neg hi]
    rcases Nat.lt_or_ge i n with h3 | h3
    · rw [List.getElem?_append_left (by omega), List.getElem?_append_left (by omega), List.getElem?_take_of_lt h3, List.getElem?_take_of_lt (by omega)]
    · rw [List.getElem?_append_right (by omega), List.getElem?_append_right (by omega), h1, h2, List.getElem?_drop, List.getElem?_drop]
      congr 1; omega
theorem joinTo_zero (a b : List Int) : joinTo 0 a b = a := by simp [joinTo]
theorem joinTo_all (a b : List Int) (h : a.length = b.length) : joinTo a.length a b = join a b := by
  simp only [joinTo, List.drop_length, List.append_nil]
  exact List.take_of_length_le (by simp [join]; omega)
theorem ck_set (a : List Int) (i : Nat) (x : Int) : (ck a).set i (.int .u32 x) = ck (a.set i x) := by simp [ck, List.map_set]
theorem freeL_ck (a : List Int) : (freeL (ck a)).isSome = true := by
  induction a with
  | nil => rfl
  | cons x a ih =>
    obtain ⟨v, hv⟩ := Option.isSome_iff_exists.1 ih
    simp only [ck] at hv
    simp [ck, freeL, freeS, hv]
theorem free_ck (a : List Int) : (freeA (.v (.ag (ck a)))).isSome = true := by simp [freeA, freeC, freeL_ck]
theorem max_if (x y : Int) : (if x < y then y else x) = max x y := by omega
theorem s98 {P : Program} {T : Tab} {K d : Nat} (S : Sd P T K) (hd : 1 ≤ d) (a b : List Int) (ha : a.length = 8) (hb : b.length = 8) (lk : Nat) (h : List AO) : ev P T K d 98 [.ag (ck a), .ag (ck b)] lk h = some (.v (.sc (.bool (leqTo 8 a b))), h) := by
  obtain ⟨d, rfl⟩ : ∃ k, d = k + 1 := ⟨d - 1, by omega⟩
  refine ev_pure (at98 S.t) rfl ?_
  unfold i98 Try.f98
  simp only [↓amPre, amPost, ↓s_lit', Nat.reduceAdd, Nat.reduceSub, List.replicate, retA, resultsA, resultA, toC, toCL, Nat.reduceEqDiff]
  refine ends_loop (X := Nat) 0 [4, 6, 7, 8, 9, 10, 11, 12, 13, 14, 15, 16] (fun i => i ≤ 8 ∧ leqTo i a b = true) (fun i => 8 - i) (fun i e => e.set 5 (.v (.sc (.int .i64 i)))) (fun _ => h ++ [AO.rw 129 (ck a)] ++ [AO.rw 129 (ck b)]) (by have := S.k; show _ < K; omega) ⟨by omega, rfl⟩ rfl rfl ?_
  rintro i ⟨hi, hl⟩ again hag e he
  simp only [↓amPre, amPost, ↓s_lit', Nat.reduceAdd, Nat.reduceSub, List.replicate, retA, resultsA, resultA, toC, toCL, Nat.reduceEqDiff] at he
  simp only [↓amPre, amPost, ↓s_lit', Nat.reduceAdd, Nat.reduceSub, List.replicate, retA, resultsA, resultA, toC, toCL, Nat.reduceEqDiff, he]
  refine ends_cond (fun hc => ?_) (fun hc => ?_)
  · simp only [decide_eq_true_eq] at hc
    simp (maxSteps := 1000000) (disch := first | omega | (simp (disch := first | omega | (simp only [freeL_ck, ck_len, joinTo_len, join_len, List.length_append, List.length_cons, List.length_nil, List.length_set]; first | done | omega)) only [freeL_ck, ck_len, joinTo_len, join_len, amSide, Int.reduceToNat, Nat.reducePow, Nat.reduceMul]; first | done | omega)) only  [↓amPre, amPost, ↓s_lit', Nat.reduceAdd, Nat.reduceSub, List.replicate, retA, resultsA, resultA, toC, toCL, Nat.reduceEqDiff, he, iaddr_ptr (un129 S.p) (sz36 S.p), part_sc (ag36 S.p), if_pos, cells_self, cells_other, Int.toNat_natCast, Nat.zero_add, Nat.mul_one, ck_at]
    refine ends_cond (fun hg => ?_) (fun hg => ?_)
    · simp only [decide_eq_true_eq] at hg
      refine Ends.some ?_
      rw [leqTo_false (i + 1) 8 a b (by omega) (by rw [leqTo_succ, hl, Bool.true_and, decide_eq_false (by omega)])]
    · simp only [decide_eq_false_iff_not] at hg
      refine hag (i + 1) ⟨by omega, by rw [leqTo_succ, hl, Bool.true_and, decide_eq_true (by omega)]⟩ (by omega) _ ?_
      rw [wrap_i64 (by omega) (by omega)]
      simp only [↓amPre, amPost, ↓s_lit', Nat.reduceAdd, Nat.reduceSub, List.replicate, retA, resultsA, resultA, toC, toCL, Nat.reduceEqDiff, Int.natCast_add, Int.cast_ofNat_Int]
  · simp only [decide_eq_false_iff_not] at hc
    obtain rfl : i = 8 := by omega
    rw [hl]
    exact Ends.some rfl
theorem joinTo_same (i : Nat) (a b : List Int) (h : a.length = b.length) (hi : i < a.length) (hx : b.getD i 0 ≤ a.getD i 0) : joinTo i a b = joinTo (i + 1) a b := by
  rw [← joinTo_set i a b h hi, show max (a.getD i 0) (b.getD i 0) = (joinTo i a b).getD i 0 from by rw [joinTo_at i a b h hi]; omega]
  apply List.ext_getElem?
  intro k
  rw [List.getElem?_set]
  split
  · rename_i e; subst e
    have : i < (joinTo i a b).length := by rw [joinTo_len _ _ _ h]; exact hi
    rw [if_pos this, List.getD_eq_getElem?_getD, List.getElem?_eq_getElem this]
    rfl
  · rfl
theorem s99 {P : Program} {T : Tab} {K d : Nat} (S : Sd P T K) (hd : 1 ≤ d) (a b : List Int) (ha : a.length = 8) (hb : b.length = 8) (lk : Nat) (h : List AO) : ev P T K d 99 [.ag (ck a), .ag (ck b)] lk h = some (.v (.ag (ck (join a b))), h) := by
  obtain ⟨d, rfl⟩ : ∃ k, d = k + 1 := ⟨d - 1, by omega⟩
  refine ev_pure (at99 S.t) (free_ck _) ?_
  unfold i99 Try.f99
  simp (maxSteps := 1000000) (disch := first | omega | (simp (disch := first | omega | (simp only [freeL_ck, ck_len, joinTo_len, join_len, List.length_append, List.length_cons, List.length_nil, List.length_set]; first | done | omega)) only [freeL_ck, ck_len, joinTo_len, join_len, amSide, Int.reduceToNat, Nat.reducePow, Nat.reduceMul]; first | done | omega)) only  [↓amPre, amPost, ↓s_lit', Nat.reduceAdd, Nat.reduceSub, List.replicate, retA, resultsA, resultA, toC, toCL, Nat.reduceEqDiff, (ze38 S.p), index_ag (un38 S.p) (sz36 S.p), part_sc (ag36 S.p), iaddr_ptr (un38 S.p) (sz36 S.p), part_all (ag38 S.p) (sz38 S.p), part_at (ag38 S.p) (sz38 S.p), store_last (sz36 S.p), (sz36 S.p), store_last (sz38 S.p), (sz38 S.p), cells_self, cells_other]
  refine ends_loop (X := Nat) 0 [5, 6, 9, 10, 11, 12, 13, 14, 15, 16, 17, 18, 19] (fun i => i ≤ 8) (fun i => 8 - i) (fun i e => e.set 8 (.v (.sc (.int .i64 i)))) (fun i => h ++ [AO.rw 38 (ck (joinTo i a b))] ++ [AO.rw 38 (ck b)] ++ [AO.rw 38 _]) (by have := S.k; show _ < K; omega) (by omega) rfl (by rw [joinTo_zero]) ?_
  rintro i hi again hag e he
  simp only [↓amPre, amPost, ↓s_lit', Nat.reduceAdd, Nat.reduceSub, List.replicate, retA, resultsA, resultA, toC, toCL, Nat.reduceEqDiff] at he
  simp only [↓amPre, amPost, ↓s_lit', Nat.reduceAdd, Nat.reduceSub, List.replicate, retA, resultsA, resultA, toC, toCL, Nat.reduceEqDiff, he]
  refine ends_cond (fun hc => ?_) (fun hc => ?_)
  · simp only [decide_eq_true_eq] at hc
    simp (maxSteps := 1000000) (disch := first | omega | (simp (disch := first | omega | (simp only [freeL_ck, ck_len, joinTo_len, join_len, List.length_append, List.length_cons, List.length_nil, List.length_set]; first | done | omega)) only [freeL_ck, ck_len, joinTo_len, join_len, amSide, Int.reduceToNat, Nat.reducePow, Nat.reduceMul]; first | done | omega)) only  [↓amPre, amPost, ↓s_lit', Nat.reduceAdd, Nat.reduceSub, List.replicate, retA, resultsA, resultA, toC, toCL, Nat.reduceEqDiff, he, (ze38 S.p), index_ag (un38 S.p) (sz36 S.p), part_sc (ag36 S.p), iaddr_ptr (un38 S.p) (sz36 S.p), part_all (ag38 S.p) (sz38 S.p), part_at (ag38 S.p) (sz38 S.p), store_last (sz36 S.p), (sz36 S.p), store_last (sz38 S.p), (sz38 S.p), if_pos, cells_self, cells_other, Int.toNat_natCast, Nat.zero_add, Nat.mul_one, ck_at, joinTo_at, max_if, store_ptr, obj_other, obj_self, set_other, set_self, splice_one, ck_set, joinTo_set]
    refine hag (i + 1) (by omega) (by omega) _ ?_
    rw [wrap_i64 (by omega) (by omega)]
    simp only [↓amPre, amPost, ↓s_lit', Nat.reduceAdd, Nat.reduceSub, List.replicate, retA, resultsA, resultA, toC, toCL, Nat.reduceEqDiff, Int.natCast_add, Int.cast_ofNat_Int]
  · simp only [decide_eq_false_iff_not] at hc
    obtain rfl : i = a.length := by omega
    simp (maxSteps := 1000000) (disch := first | omega | (simp (disch := first | omega | (simp only [freeL_ck, ck_len, joinTo_len, join_len, List.length_append, List.length_cons, List.length_nil, List.length_set]; first | done | omega)) only [freeL_ck, ck_len, joinTo_len, join_len, amSide, Int.reduceToNat, Nat.reducePow, Nat.reduceMul]; first | done | omega)) only  [↓amPre, amPost, ↓s_lit', Nat.reduceAdd, Nat.reduceSub, List.replicate, retA, resultsA, resultA, toC, toCL, Nat.reduceEqDiff, he, (ze38 S.p), index_ag (un38 S.p) (sz36 S.p), part_sc (ag36 S.p), iaddr_ptr (un38 S.p) (sz36 S.p), part_all (ag38 S.p) (sz38 S.p), part_at (ag38 S.p) (sz38 S.p), store_last (sz36 S.p), (sz36 S.p), store_last (sz38 S.p), (sz38 S.p), if_pos, cells_self, cells_other, store_ptr, obj_other, obj_self, set_other, set_self, splice_all, joinTo_all]
    exact Ends.some rfl
theorem eqL_ck : ∀ (a b : List Int), a.length = b.length → eqL (List.replicate a.length 1) (ck a) (ck b) = some (decide (a = b))
  | [], [], _ => rfl
  | x :: a, y :: b, h => by
    have ih := eqL_ck a b (by simpa using h)
    simp only [ck] at ih
    simp only [List.length_cons, List.replicate_succ, ck, List.map_cons, eqL, eqS, if_true, Option.bind_some, ih, Option.map_some, Option.some.injEq]
    by_cases h1 : x = y <;> by_cases h2 : a = b <;> simp [h1, h2]
  | [], _ :: _, h => by simp at h
  | _ :: _, [], h => by simp at h
theorem eqL_ck8 (a b : List Int) (ha : a.length = 8) (hb : b.length = 8) : eqL [1, 1, 1, 1, 1, 1, 1, 1] (ck a) (ck b) = some (decide (a = b)) := by
  rw [← eqL_ck a b (by omega), ha]; rfl
theorem s58 {P : Program} {T : Tab} {K d : Nat} (S : Sd P T K) (hd : 2 ≤ d) (a b : List Int) (ha : a.length = 8) (hb : b.length = 8) (lk : Nat) (h : List AO) : ev P T K d 58 [.ag (ck a), .ag (ck b)] lk h = some (.v (.sc (.bool (decide (join a b = b)))), h) := by
  obtain ⟨d, rfl⟩ : ∃ k, d = k + 1 := ⟨d - 1, by omega⟩
  refine ev_pure (at58 S.t) rfl ?_
  unfold i58 Try.f58
  simp (maxSteps := 1000000) (disch := first | omega | (simp (disch := first | omega | (simp only [freeL_ck, ck_len, joinTo_len, join_len, List.length_append, List.length_cons, List.length_nil, List.length_set]; first | done | omega)) only [freeL_ck, ck_len, joinTo_len, join_len, amSide, Int.reduceToNat, Nat.reducePow, Nat.reduceMul]; first | done | omega)) only  [↓amPre, amPost, ↓s_lit', Nat.reduceAdd, Nat.reduceSub, List.replicate, retA, resultsA, resultA, toC, toCL, Nat.reduceEqDiff, eql_ag, neq_ag, (eq38 S.p), part_all (ag38 S.p) (sz38 S.p), part_at (ag38 S.p) (sz38 S.p), cells_self, cells_other, s99 S, eqL_ck8]
  exact Ends.some rfl
theorem s20 {P : Program} {T : Tab} {K d : Nat} (S : Sd P T K) (hd : 3 ≤ d) (a b : List Int) (ha : a.length = 8) (hb : b.length = 8) (lk : Nat) (h : List AO) : ev P T K d 20 [.ag (ck a), .ag (ck b)] lk h = some (.v (.sc (.bool (!decide (join a b = b) && !decide (join b a = a)))), h) := by
  obtain ⟨d, rfl⟩ : ∃ k, d = k + 1 := ⟨d - 1, by omega⟩
  refine ev_pure (at20 S.t) rfl ?_
  unfold i20 Try.f20
  simp (maxSteps := 1000000) (disch := first | omega | (simp (disch := first | omega | (simp only [freeL_ck, ck_len, joinTo_len, join_len, List.length_append, List.length_cons, List.length_nil, List.length_set]; first | done | omega)) only [freeL_ck, ck_len, joinTo_len, join_len, amSide, Int.reduceToNat, Nat.reducePow, Nat.reduceMul]; first | done | omega)) only  [↓amPre, amPost, ↓s_lit', Nat.reduceAdd, Nat.reduceSub, List.replicate, retA, resultsA, resultA, toC, toCL, Nat.reduceEqDiff, part_all (ag38 S.p) (sz38 S.p), part_at (ag38 S.p) (sz38 S.p), cells_self, cells_other, s58 S]
  by_cases hab : join a b = b
  · simp (maxSteps := 1000000) (disch := first | omega | (simp (disch := first | omega | (simp only [freeL_ck, ck_len, joinTo_len, join_len, List.length_append, List.length_cons, List.length_nil, List.length_set]; first | done | omega)) only [freeL_ck, ck_len, joinTo_len, join_len, amSide, Int.reduceToNat, Nat.reducePow, Nat.reduceMul]; first | done | omega)) only  [↓amPre, amPost, ↓s_lit', Nat.reduceAdd, Nat.reduceSub, List.replicate, retA, resultsA, resultA, toC, toCL, Nat.reduceEqDiff, hab, decide_true]
    exact Ends.some (by simp)
  · simp (maxSteps := 1000000) (disch := first | omega | (simp (disch := first | omega | (simp only [freeL_ck, ck_len, joinTo_len, join_len, List.length_append, List.length_cons, List.length_nil, List.length_set]; first | done | omega)) only [freeL_ck, ck_len, joinTo_len, join_len, amSide, Int.reduceToNat, Nat.reducePow, Nat.reduceMul]; first | done | omega)) only  [↓amPre, amPost, ↓s_lit', Nat.reduceAdd, Nat.reduceSub, List.replicate, retA, resultsA, resultA, toC, toCL, Nat.reduceEqDiff, part_all (ag38 S.p) (sz38 S.p), part_at (ag38 S.p) (sz38 S.p), cells_self, cells_other, hab, decide_false, s58 S]
    exact Ends.some (by simp)
end Go.AM
