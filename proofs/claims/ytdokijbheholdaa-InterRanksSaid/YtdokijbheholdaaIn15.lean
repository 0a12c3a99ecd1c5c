/- Orders: a clone of any list; reversed. Conditions: none. -/
import Derived.Test.YtdokijbheholdaaIn14
set_option linter.unusedVariables false
set_option linter.unusedSimpArgs false
set_option maxRecDepth 100000
namespace Go.AM
open Go.Proofs
def cellsZ (l : List Int) : List SV := l.map (SV.int .i64)
theorem cellsZ_len (l : List Int) : (cellsZ l).length = l.length := by simp [cellsZ]
-- LENS: cells_len, ints_len, killq_len, cellsZ_len
theorem cellsZ_at (l : List Int) (i : Nat) (h : i < l.length) : (cellsZ l)[i]? = some (.int .i64 (l.getD i 0)) := cnt_at l i h
theorem cellsZ_set (l : List Int) (i : Nat) (x : Int) : (cellsZ l).set i (.int .i64 x) = cellsZ (l.set i x) := by simp only [cellsZ, ← List.map_set]
theorem getD_setI (l : List Int) (i v : Nat) (x : Int) (hi : i < l.length) : (l.set i x).getD v 0 = if v = i then x else l.getD v 0 := by
  simp only [List.getD_eq_getElem?_getD, List.getElem?_set]
  by_cases h : i = v
  · subst h; simp [hi]
  · rw [if_neg h, if_neg (Ne.symm h)]
theorem ext_getD {a b : List Int} (hl : a.length = b.length) (h : ∀ i, i < a.length → a.getD i 0 = b.getD i 0) : a = b := by
  apply List.ext_getElem hl
  intro i h1 h2
  have := h i h1
  simp only [List.getD_eq_getElem?_getD, List.getElem?_eq_getElem h1, List.getElem?_eq_getElem h2, Option.getD_some] at this
  exact this
/-- Two places of a list. -/
theorem two_split (l : List Int) (i k : Nat) (hik : i < k) (hk : k < l.length) :
    l = l.take i ++ l.getD i 0 :: ((l.drop (i + 1)).take (k - (i + 1)) ++ l.getD k 0 :: l.drop (k + 1)) := by
  have h1 : l.drop i = l.getD i 0 :: l.drop (i + 1) := drop_cons l i (by omega)
  have h2 : l.drop (i + 1) = (l.drop (i + 1)).take (k - (i + 1)) ++ (l.drop (i + 1)).drop (k - (i + 1)) := (List.take_append_drop _ _).symm
  rw [List.drop_drop, show i + 1 + (k - (i + 1)) = k by omega, drop_cons l k hk] at h2
  rw [← h2, ← h1, List.take_append_drop]
theorem two_swap (p r1 r2 : List Int) (t u : Int) (i k : Nat) (hi : i = p.length) (hk : k = p.length + 1 + r1.length) :
    ((p ++ t :: (r1 ++ u :: r2)).set i u).set k t = p ++ u :: (r1 ++ t :: r2) := by
  subst hi hk
  rw [List.set_append_right _ _ (Nat.le_refl _), Nat.sub_self, List.set_cons_zero, List.set_append_right _ _ (by omega), show p.length + 1 + r1.length - p.length = r1.length + 1 by omega, List.set_cons_succ, List.set_append_right _ _ (Nat.le_refl _), Nat.sub_self, List.set_cons_zero]
theorem swap_two (l : List Int) (i k : Nat) (hik : i < k) (hk : k < l.length) :
    (l.set i (l.getD k 0)).set k (l.getD i 0) = l.take i ++ l.getD k 0 :: ((l.drop (i + 1)).take (k - (i + 1)) ++ l.getD i 0 :: l.drop (k + 1)) := by
  have h := two_swap (l.take i) ((l.drop (i + 1)).take (k - (i + 1))) (l.drop (k + 1)) (l.getD i 0) (l.getD k 0) i k (by simp; omega) (by simp; omega)
  rw [← two_split l i k hik hk] at h
  exact h
theorem swap_perm (l : List Int) (i k : Nat) (hik : i < k) (hk : k < l.length) : l.Perm ((l.set i (l.getD k 0)).set k (l.getD i 0)) := by
  rw [swap_two l i k hik hk]
  conv => lhs; rw [two_split l i k hik hk]
  refine List.Perm.append_left _ ?_
  refine (List.Perm.cons _ List.perm_middle).trans ((List.Perm.swap _ _ _).trans (List.Perm.cons _ List.perm_middle.symm))
/-- Reversed so far. -/
def rv (i : Nat) (xs : List Int) : List Int := (List.range xs.length).map fun p => if p < i ∨ xs.length ≤ p + i then xs.getD (xs.length - 1 - p) 0 else xs.getD p 0
theorem rv_len (i : Nat) (xs : List Int) : (rv i xs).length = xs.length := by simp [rv]
theorem rv_getD (i : Nat) (xs : List Int) (p : Nat) (hp : p < xs.length) : (rv i xs).getD p 0 = if p < i ∨ xs.length ≤ p + i then xs.getD (xs.length - 1 - p) 0 else xs.getD p 0 := by
  simp [rv, List.getD_eq_getElem?_getD, hp]
theorem rv_zero (xs : List Int) : rv 0 xs = xs := ext_getD (rv_len _ _) fun p hp => by
  rw [rv_len] at hp
  rw [rv_getD _ _ _ hp, if_neg (by omega)]
theorem rv_step (i : Nat) (xs : List Int) (h : 2 * i + 1 < xs.length) : ((rv i xs).set i ((rv i xs).getD (xs.length - 1 - i) 0)).set (xs.length - 1 - i) ((rv i xs).getD i 0) = rv (i + 1) xs :=
  ext_getD (by simp [rv_len]) fun p hp => by
    simp only [List.length_set, rv_len] at hp
    rw [getD_setI _ _ _ _ (by simp [rv_len]; omega), getD_setI _ _ _ _ (by simp [rv_len]; omega), rv_getD _ _ _ hp, rv_getD _ _ _ hp, rv_getD _ _ _ (by omega), rv_getD _ _ _ (by omega)]
    by_cases h1 : p = xs.length - 1 - i
    · subst h1
      rw [if_pos rfl, if_neg (by omega), if_pos (by omega)]
      congr 1; omega
    · rw [if_neg h1]
      by_cases h2 : p = i
      · subst h2
        rw [if_pos rfl, if_neg (by omega), if_pos (by omega)]
      · rw [if_neg h2]
        by_cases h3 : p < i ∨ xs.length ≤ p + i
        · rw [if_pos h3, if_pos (by omega)]
        · rw [if_neg h3, if_neg (by omega)]
theorem rv_rev (i : Nat) (xs : List Int) (h : xs.length ≤ 2 * i + 1) : rv i xs = xs.reverse :=
  ext_getD (by simp [rv_len]) fun p hp => by
    rw [rv_len] at hp
    rw [rv_getD _ _ _ hp]
    have e : xs.reverse.getD p 0 = xs.getD (xs.length - 1 - p) 0 := by
      simp only [List.getD_eq_getElem?_getD, List.getElem?_reverse hp]
    rw [e]
    by_cases h3 : p < i ∨ xs.length ≤ p + i
    · rw [if_pos h3]
    · rw [if_neg h3]; congr 1; omega
theorem getD_app (a b : List Int) (i : Nat) : (a ++ b).getD (a.length + i) 0 = b.getD i 0 := by
  simp [List.getD_eq_getElem?_getD, List.getElem?_append_right]
theorem set_app (a b : List Int) (i : Nat) (x : Int) : (a ++ b).set (a.length + i) x = a ++ b.set i x := by
  rw [List.set_append_right _ _ (by omega)]; congr 2; omega
theorem st_oneZ {P : Program} {T : Tab} {K : Nat} (S : Sd P T K) {h : List AO} {b lk i : Nat} {l : List Int} (hb : h[b]? = some (.rw 3 (cellsZ l))) (hlk : lk ≤ b) (hi : i < l.length) (x : Int) :
    storeA P h lk 3 (.v (.sc (.ptr b i))) (.v (.sc (.int .i64 x))) = some (h.set b (.rw 3 (cellsZ (l.set i x)))) := by
  rw [st_one S hb hlk (by rw [cellsZ_len]; exact hi), cellsZ_set]
theorem get_set_self {h : List AO} {b : Nat} {o x : AO} (hb : h[b]? = some o) : (h.set b x)[b]? = some x := List.getElem?_set_self (List.getElem?_eq_some_iff.1 hb).1
theorem s51 {P : Program} {T : Tab} {K d : Nat} (S : Sd P T K) (hd : 1 ≤ d) (a xs : List Int) (ha : a.length ≤ 100000) (hx : xs.length ≤ 100000) (b lk : Nat) (h : List AO) (hlk : lk ≤ b) (hb : h[b]? = some (.rw 3 (cellsZ (a ++ xs)))) :
    ev P T K d 51 [.sc (.sl b a.length xs.length 1)] lk h = some (.tup [], h.set b (.rw 3 (cellsZ (a ++ xs.reverse)))) := by
  obtain ⟨d, rfl⟩ : ∃ k, d = k + 1 := ⟨d - 1, by omega⟩
  rw [ev_run (at51 S.t)]
  suffices H : Ends (fun v h' => v = .tup [] ∧ h' = h.set b (.rw 3 (cellsZ (a ++ xs.reverse)))) (runA ⟨P, ev P T K d, lk, K, i51.er, i51.dr⟩ i51.fn i51.c [.sc (.sl b a.length xs.length 1)] h) by
    obtain ⟨v, h', e, rfl, rfl⟩ := H; exact e
  unfold i51 Try.f51
  have hblt : b < h.length := (List.getElem?_eq_some_iff.1 hb).1
  simp (disch := first | omega | (simp (disch := first | omega | (simp only [cells_len, ints_len, killq_len, cellsZ_len, List.length_append, List.length_cons, List.length_nil, List.length_set]; first | done | omega)) only [cells_len, ints_len, killq_len, cellsZ_len, amSide, Int.reduceToNat, Nat.reducePow, Nat.reduceMul]; first | done | omega)) only  [↓amPre, amPost, ↓s_lit', Nat.reduceAdd, Nat.reduceSub, List.replicate, retA, resultsA, resultA, toC, toCL, Nat.reduceEqDiff, iaddr_sl (un35 S.p) (sz3 S.p), len_sl (un35 S.p), len_nils (un35 S.p), part_sc (ag3 S.p), store_last (sz3 S.p), (sz3 S.p), wrap_i64]
  refine ends_loop (X := Nat) 0 [7, 8, 9, 10, 11, 12, 13, 14, 15, 16, 17, 18, 19, 20, 21, 22, 23, 24, 25, 26, 27] (fun i => i ≤ xs.length ∧ (i = 0 ∨ 2 * i ≤ xs.length)) (fun i => xs.length - i) (fun i e => (e.set 2 (.v (.sc (.int .i64 i)))).set 3 (.v (.sc (.int .i64 ((xs.length : Int) - 1 - i))))) (fun i => h.set b (.rw 3 (cellsZ (a ++ rv i xs))))
    (by have := S.k; show _ < K; omega) ⟨by omega, .inl rfl⟩ (by simp) (by rw [rv_zero, heap_same hb]) ?_
  rintro i ⟨hi, hi2⟩ again hag e he
  simp only [↓amPre, amPost, ↓s_lit', Nat.reduceAdd, Nat.reduceSub, List.replicate, retA, resultsA, resultA, toC, toCL, Nat.reduceEqDiff] at he
  simp only [↓amPre, amPost, ↓s_lit', Nat.reduceAdd, Nat.reduceSub, List.replicate, retA, resultsA, resultA, toC, toCL, Nat.reduceEqDiff, he]
  refine ends_cond (fun hc1 => ?_) (fun hc1 => ?_)
  · simp only [decide_eq_true_eq] at hc1
    obtain ⟨j, hj⟩ : ∃ j : Nat, (xs.length : Int) - 1 - i = (j : Int) := ⟨xs.length - 1 - i, by omega⟩
    have hj2 : j = xs.length - 1 - i := by omega
    rw [hj] at hc1 he
    have hst := rv_step i xs (by omega)
    rw [← hj2] at hst
    have hlr := rv_len i xs
    have hc : cellsAt (h.set b (.rw 3 (cellsZ (a ++ rv i xs)))) b = some (cellsZ (a ++ rv i xs)) := cells_set _ _ _ hblt
    have hgi : (cellsZ (a ++ rv i xs))[a.length + i]? = some (.int .i64 ((rv i xs).getD i 0)) := by rw [cellsZ_at _ _ (by simp; omega), getD_app]
    have hgj : (cellsZ (a ++ rv i xs))[a.length + j]? = some (.int .i64 ((rv i xs).getD j 0)) := by rw [cellsZ_at _ _ (by simp; omega), getD_app]
    have st1 : ∀ x, storeA P (h.set b (.rw 3 (cellsZ (a ++ rv i xs)))) lk 3 (.v (.sc (.ptr b (a.length + i)))) (.v (.sc (.int .i64 x))) = some (h.set b (.rw 3 (cellsZ (a ++ (rv i xs).set i x)))) := fun x => by
      rw [st_oneZ S (get_set_self hb) hlk (by simp; omega), List.set_set, set_app]
    have st2 : ∀ x y, storeA P (h.set b (.rw 3 (cellsZ (a ++ (rv i xs).set i x)))) lk 3 (.v (.sc (.ptr b (a.length + j)))) (.v (.sc (.int .i64 y))) = some (h.set b (.rw 3 (cellsZ (a ++ ((rv i xs).set i x).set j y)))) := fun x y => by
      rw [st_oneZ S (get_set_self hb) hlk (by simp; omega), List.set_set, set_app]
    simp (disch := first | omega | (simp (disch := first | omega | (simp only [cells_len, ints_len, killq_len, cellsZ_len, List.length_append, List.length_cons, List.length_nil, List.length_set]; first | done | omega)) only [cells_len, ints_len, killq_len, cellsZ_len, amSide, Int.reduceToNat, Nat.reducePow, Nat.reduceMul]; first | done | omega)) only  [↓amPre, amPost, ↓s_lit', Nat.reduceAdd, Nat.reduceSub, List.replicate, retA, resultsA, resultA, toC, toCL, Nat.reduceEqDiff, he, iaddr_sl (un35 S.p) (sz3 S.p), len_sl (un35 S.p), len_nils (un35 S.p), part_sc (ag3 S.p), store_last (sz3 S.p), (sz3 S.p), hj, idx_ok, hc, hgi, hgj, st1, st2, hst, Int.toNat_natCast, Nat.mul_one, Nat.zero_add, wrap_i64]
    refine hag (i + 1) ⟨by omega, .inr (by omega)⟩ (by omega) _ ?_
    have e1 : (xs.length : Int) - 1 - ((i + 1 : Nat) : Int) = (j : Int) - 1 := by omega
    rw [e1]
    simp (disch := first | omega | (simp (disch := first | omega | (simp only [cells_len, ints_len, killq_len, cellsZ_len, List.length_append, List.length_cons, List.length_nil, List.length_set]; first | done | omega)) only [cells_len, ints_len, killq_len, cellsZ_len, amSide, Int.reduceToNat, Nat.reducePow, Nat.reduceMul]; first | done | omega)) only [↓amPre, amPost, ↓s_lit', Nat.reduceAdd, Nat.reduceSub, List.replicate, retA, resultsA, resultA, toC, toCL, Nat.reduceEqDiff, Int.natCast_add, Int.cast_ofNat_Int, dec_t, dec_f]
  · simp only [decide_eq_false_iff_not] at hc1
    simp (disch := first | omega | (simp (disch := first | omega | (simp only [cells_len, ints_len, killq_len, cellsZ_len, List.length_append, List.length_cons, List.length_nil, List.length_set]; first | done | omega)) only [cells_len, ints_len, killq_len, cellsZ_len, amSide, Int.reduceToNat, Nat.reducePow, Nat.reduceMul]; first | done | omega)) only  [↓amPre, amPost, ↓s_lit', Nat.reduceAdd, Nat.reduceSub, List.replicate, retA, resultsA, resultA, toC, toCL, Nat.reduceEqDiff, he, iaddr_sl (un35 S.p) (sz3 S.p), len_sl (un35 S.p), len_nils (un35 S.p), part_sc (ag3 S.p), store_last (sz3 S.p), (sz3 S.p)]
    exact Ends.some ⟨rfl, by rw [rv_rev i xs (by omega)]⟩
/-- A clone. -/
def CloneR (l : List Int) (h : List AO) (v : AV) (h' : List AO) : Prop := (l = [] ∧ (∃ q', v = .v (.sc q') ∧ Sl h' q' [] ∧ Ext1 h h')) ∨ (l ≠ [] ∧ v = .v (.sc (.sl (h.length + 1) 0 l.length 1)) ∧ h' = h ++ [.dead] ++ [.rw 3 (cellsZ l)])
theorem s47c {P : Program} {T : Tab} {K d : Nat} (S : Sd P T K) (hd : 1 ≤ d) (q : SV) (l : List Int) (hl : l.length ≤ 100000) (lk : Nat) (h : List AO) (hlk : lk ≤ h.length) (hS : Sl h q l) :
    Ends (CloneR l h) (ev P T K d 47 [.sc q] lk h) := by
  obtain ⟨d, rfl⟩ : ∃ k, d = k + 1 := ⟨d - 1, by omega⟩
  rw [ev_run (at47 S.t)]
  unfold i47 Try.f47
  rcases hS with ⟨rfl, rfl⟩ | ⟨b, rfl, hb, hc⟩
  · simp (disch := first | omega | (simp (disch := first | omega | (simp only [cells_len, ints_len, killq_len, cellsZ_len, List.length_append, List.length_cons, List.length_nil, List.length_set]; first | done | omega)) only [cells_len, ints_len, killq_len, cellsZ_len, amSide, Int.reduceToNat, Nat.reducePow, Nat.reduceMul]; first | done | omega)) only  [↓amPre, amPost, ↓s_lit', Nat.reduceAdd, Nat.reduceSub, List.replicate, retA, resultsA, resultA, toC, toCL, Nat.reduceEqDiff, append_at (un35 S.p) (sz3 S.p) (by3 S.p) (ze3 S.p) (by decide) (by decide) rfl, sl_cells (sz3 S.p), lit_fill (un35 S.p) (sz3 S.p) (ze3 S.p), eql_nil_nil (un35 S.p)]
    exact Ends.some (.inl ⟨rfl, _, rfl, .inl ⟨rfl, rfl⟩, Ext1.refl h⟩)
  have hcc : cellsAt h b = some (cellsZ l) := hc
  cases l with
  | nil =>
    simp (disch := first | omega | (simp (disch := first | omega | (simp only [cells_len, ints_len, killq_len, cellsZ_len, List.length_append, List.length_cons, List.length_nil, List.length_set]; first | done | omega)) only [cells_len, ints_len, killq_len, cellsZ_len, amSide, Int.reduceToNat, Nat.reducePow, Nat.reduceMul]; first | done | omega)) only  [↓amPre, amPost, ↓s_lit', Nat.reduceAdd, Nat.reduceSub, List.replicate, retA, resultsA, resultA, toC, toCL, Nat.reduceEqDiff, append_at (un35 S.p) (sz3 S.p) (by3 S.p) (ze3 S.p) (by decide) (by decide) rfl, sl_cells (sz3 S.p), lit_fill (un35 S.p) (sz3 S.p) (ze3 S.p), eql_sl_nil (un35 S.p), hcc, cells_self, cells_other, Nat.mul_one, Nat.zero_mul, Nat.zero_add, List.drop_zero, List.drop_nil, List.take_nil, List.flatten_nil, List.replicate_zero, List.nil_append, cellsZ, List.map_nil]
    exact Ends.some (.inl ⟨rfl, _, rfl, .inr ⟨h.length, rfl, by simp, by rw [cells_self _ _ _ rfl]; rfl⟩, (Ext1.refl h).push _⟩)
  | cons x xs =>
    have hne : (cellsZ (x :: xs)).isEmpty = false := rfl
    have htk : (cellsZ (x :: xs)).take (xs.length + 1) = cellsZ (x :: xs) := List.take_of_length_le (by rw [cellsZ_len]; simp)
    simp only [List.length_cons] at hl
    simp (disch := first | omega | (simp (disch := first | omega | (simp only [cells_len, ints_len, killq_len, cellsZ_len, List.length_append, List.length_cons, List.length_nil, List.length_set]; first | done | omega)) only [cells_len, ints_len, killq_len, cellsZ_len, amSide, Int.reduceToNat, Nat.reducePow, Nat.reduceMul]; first | done | omega)) only  [↓amPre, amPost, ↓s_lit', Nat.reduceAdd, Nat.reduceSub, List.replicate, retA, resultsA, resultA, toC, toCL, Nat.reduceEqDiff, append_at (un35 S.p) (sz3 S.p) (by3 S.p) (ze3 S.p) (by decide) (by decide) rfl, sl_cells (sz3 S.p), lit_fill (un35 S.p) (sz3 S.p) (ze3 S.p), eql_sl_nil (un35 S.p), hcc, cells_self, cells_other, obj_self, set_self, Nat.mul_one, Nat.zero_mul, Nat.zero_add, htk, appB_slA, hne, cellsZ_len, Nat.div_one, Nat.mod_one, List.drop_zero, List.drop_nil, List.flatten_nil, List.replicate_zero, List.nil_append]
    exact Ends.some (.inr ⟨by simp, by simp, by simp⟩)
end Go.AM
