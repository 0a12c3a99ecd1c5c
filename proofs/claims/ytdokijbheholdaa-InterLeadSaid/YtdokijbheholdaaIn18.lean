/- Orders: the laws of ranks, of what leads where, of all orders. Conditions: none. -/
import Derived.Test.YtdokijbheholdaaIn17
import Derived.Test.YtdokijbheholdaaIn3
set_option linter.unusedVariables false
set_option linter.unusedSimpArgs false
set_option maxRecDepth 100000
namespace Go.AM
open Go.Proofs
-- LENS: cells_len, ints_len, killq_len, cellsZ_len
open Classical in
noncomputable def ofC (o : List Int) (k : Int) : List Int := if ofOk o k then ints (cnts o k.toNat) else []
open Classical in
noncomputable def ofE (o : List Int) (k : Int) : Int := if ofOk o k then 0 else 1
theorem ofC_len (o : List Int) (k : Int) : (ofC o k).length ≤ 1000 := by
  unfold ofC
  split
  · rename_i hk; rw [ints_len, cnts_len]; obtain ⟨h1, h2, _⟩ := hk; omega
  · simp
theorem OfR.sl {o : List Int} {k : Int} {h h' : List AO} {v : AV} (H : OfR o k h v h') : ∃ q', v = .tup [.sc q', .sc (.int .i64 (ofE o k))] ∧ Ext1 h h' ∧ Sl h' q' (ofC o k) := by
  obtain ⟨hx, ⟨h1, rfl⟩ | ⟨h1, rfl, hh⟩⟩ := H
  · exact ⟨.nils, by unfold ofE; rw [if_neg h1], hx, .inl ⟨rfl, by unfold ofC; rw [if_neg h1]⟩⟩
  · refine ⟨_, by unfold ofE; rw [if_pos h1], hx, ?_⟩
    unfold ofC; rw [if_pos h1, hh]
    exact .inr ⟨h.length, by rw [ints_len, cnts_len], by simp, cells_self _ _ _ rfl⟩
noncomputable def nxL (l : List Int) : List Int := (nextI l).getD []
theorem NextR.sl {l : List Int} {h h' : List AO} {v : AV} (H : NextR l h v h') : ∃ q', v = .tup [.sc q', .sc (.bool (nextI l).isSome)] ∧ Ext1 h h' ∧ Sl h' q' (nxL l) := by
  obtain ⟨hx, ⟨h1, rfl⟩ | ⟨x, q', h1, rfl, hs⟩⟩ := H
  · exact ⟨.nils, by rw [h1]; rfl, hx, .inl ⟨rfl, by unfold nxL; rw [h1]; rfl⟩⟩
  · exact ⟨q', by rw [h1]; rfl, hx, by unfold nxL; rw [h1]; exact hs⟩
theorem nextI_len : ∀ {l x : List Int}, nextI l = some x → x.length = l.length
  | [], x, h => by cases h
  | t :: r, x, h => by
    unfold nextI at h
    cases hr : nextI r with
    | some y =>
      rw [hr] at h
      obtain rfl := Option.some.inj h
      simp [nextI_len hr]
    | none =>
      rw [hr] at h
      simp only [swapS] at h
      cases hu : (r.takeWhile (decide <| t < ·)).getLast? with
      | none => rw [hu] at h; cases h
      | some u =>
        rw [hu] at h
        obtain rfl := Option.some.inj h
        obtain ⟨r1, hr1⟩ := List.getLast?_eq_some_iff.1 hu
        have hr2 := congrArg List.length (List.takeWhile_append_dropWhile (p := (decide <| t < ·)) (l := r))
        rw [hr1] at hr2 ⊢
        rw [List.dropLast_concat]
        simp at hr2 ⊢
        omega
theorem nxL_len (l : List Int) : (nxL l).length ≤ l.length := by
  unfold nxL
  cases h : nextI l with
  | none => simp
  | some x => simp [nextI_len h]
noncomputable def rkN (o : List Int) (k : Int) : Int := open Classical in if ofOk o k then ((rankI o (cnts o k.toNat) : Nat) : Int) else 0
theorem rankR_eq (o : List Int) (k : Int) : rankR o k = .tup [.sc (.int .u64 (rkN o k)), .sc (.int .i64 (ofE o k))] := by
  unfold rankR rkN ofE; split <;> rfl
theorem s7 {P : Program} {T : Tab} {K d : Nat} (S : Sd P T K) (hd : 5 ≤ d) (q : SV) (o : List Int) (k : Int) (lk : Nat) (h : List AO) (hS : Sl h q o) :
    ev P T K d 7 [.sc q, .sc (.int .i64 k)] lk h = some (.v (.sc (.bool true)), h) := by
  obtain ⟨d, rfl⟩ : ∃ k, d = k + 1 := ⟨d - 1, by omega⟩
  refine ev_pure (at7 S.t) rfl ?_
  unfold i7 Try.f7
  have hlen : ∀ hh, lenA P hh 35 (.v (.sc q)) = some (.v (.sc (.int .i64 (o.length : Int)))) := hS.len S
  by_cases h8 : o.length > 100
  · simp (disch := first | omega | (simp (disch := first | omega | (simp only [cells_len, ints_len, killq_len, cellsZ_len, List.length_append, List.length_cons, List.length_nil, List.length_set]; first | done | omega)) only [cells_len, ints_len, killq_len, cellsZ_len, amSide, Int.reduceToNat, Nat.reducePow, Nat.reduceMul]; first | done | omega)) only  [↓amPre, amPost, ↓s_lit', Nat.reduceAdd, Nat.reduceSub, List.replicate, retA, resultsA, resultA, toC, toCL, Nat.reduceEqDiff, eql_bool (un4 S.p), neq_bool (un4 S.p), len_sl (un35 S.p), len_nils (un35 S.p), hlen, dec_t, s21 S]
    exact Ends.some rfl
  obtain ⟨v, h1, e1, H⟩ := s29 S (show 1 ≤ d by omega) q o k h.length h (Nat.le_refl _) hS
  obtain ⟨q1, rfl, x1, z1⟩ := H.sl
  obtain ⟨v, h2, e2, H⟩ := s30 S (show 1 ≤ d by omega) q o k h.length h1 x1.len (hS.ext x1)
  obtain ⟨q2, rfl, x2, z2⟩ := H.sl
  have x02 := x1.trans x2
  have e3 : ∀ lk, ev P T K d 31 [.sc q, .sc (.int .i64 k)] lk h2 = some (.tup [.sc (.int .u64 (rkN o k)), .sc (.int .i64 (ofE o k))], h2) := fun lk => by rw [s31 S (by omega) q o k lk h2 (hS.ext x02), rankR_eq]
  have e4 : ∀ lk, ev P T K d 32 [.sc q, .sc (.int .i64 k)] lk h2 = some (.tup [.sc (.int .u64 (rkN o k)), .sc (.int .i64 (ofE o k))], h2) := fun lk => by rw [s32 S (by omega) q o k lk h2 (hS.ext x02), rankR_eq]
  obtain ⟨v, h3, e5, H⟩ := s33 S (show 3 ≤ d by omega) q o (by omega) h.length h2 x02.len (hS.ext x02)
  obtain ⟨q3, rfl, x3, z3⟩ := H.sl
  have x03 := x02.trans x3
  obtain ⟨v, h4, e6, H⟩ := s34 S (show 3 ≤ d by omega) q o (by omega) h.length h3 x03.len (hS.ext x03)
  obtain ⟨q4, rfl, x4, z4⟩ := H.sl
  have h28a : ∀ lk, ev P T K d 28 [.sc q1, .sc q2] lk h4 = some (.v (.sc (.bool true)), h4) := fun lk => by
    rw [s28 S (by omega) q1 q2 _ _ (ofC_len o k) lk h4 (z1.ext (x2.trans (x3.trans x4))) (z2.ext (x3.trans x4)), dec_t rfl]
  have h28b : ∀ lk, ev P T K d 28 [.sc q3, .sc q4] lk h4 = some (.v (.sc (.bool true)), h4) := fun lk => by
    rw [s28 S (by omega) q3 q4 _ _ (by have := nxL_len o; omega) lk h4 (z3.ext x4) z4, dec_t rfl]
  simp (disch := first | omega | (simp (disch := first | omega | (simp only [cells_len, ints_len, killq_len, cellsZ_len, List.length_append, List.length_cons, List.length_nil, List.length_set]; first | done | omega)) only [cells_len, ints_len, killq_len, cellsZ_len, amSide, Int.reduceToNat, Nat.reducePow, Nat.reduceMul]; first | done | omega)) only  [↓amPre, amPost, ↓s_lit', Nat.reduceAdd, Nat.reduceSub, List.replicate, retA, resultsA, resultA, toC, toCL, Nat.reduceEqDiff, eql_bool (un4 S.p), neq_bool (un4 S.p), len_sl (un35 S.p), len_nils (un35 S.p), hlen, dec_f, e1, e2, e3, e4, e5, e6, h28a, h28b, s21 S, beq_self_eq_true]
  exact Ends.some rfl
theorem Ord.cons {t : Nat} {r : List Int} {l : List Nat} (h : Ord r (dec1 t l)) (h1 : t < l.length) (h2 : 0 < l.getD t 0) : Ord (((t : Nat) : Int) :: r) l := by
  refine ⟨fun z hz => ?_, fun v hv => ?_⟩
  · rcases List.mem_cons.1 hz with rfl | hz
    · omega
    · have := h.1 z hz; rw [dec1_len] at this; exact this
  · have k1 := h.2 v (by rw [dec1_len]; exact hv)
    unfold dec1 at k1
    rw [getD_set _ _ _ _ h1] at k1
    rw [List.count_cons, ← k1]
    by_cases e : v = t
    · subst e
      rw [if_pos rfl]
      have : (((v : Nat) : Int) == ((v : Nat) : Int)) = true := beq_self_eq_true _
      rw [if_pos this]; omega
    · rw [if_neg e]
      have : (((t : Nat) : Int) == ((v : Nat) : Int)) = false := beqI_f (by omega)
      rw [this]; simp
theorem who_ex {n : Nat} {l : List Nat} : ∀ m, n < sumT 0 l m → ∃ t, t < m ∧ sumT 0 l t ≤ n ∧ n < sumT 0 l (t + 1)
  | 0, h => by simp [sumT] at h
  | m + 1, h => by
    rcases Nat.lt_or_ge n (sumT 0 l m) with h1 | h1
    · obtain ⟨t, h2, h3⟩ := who_ex m h1
      exact ⟨t, by omega, h3⟩
    · exact ⟨m, by omega, h1, h⟩
theorem nth_ord : ∀ (k n : Nat) (l : List Nat), sumN l = k → n < multi 0 l → Ord (ints (nthL k n l)) l ∧ rankI (ints (nthL k n l)) l = n
  | 0, n, l, hs, hn => by
    have : multi 0 l = 1 := multi_none l 0 hs
    refine ⟨⟨fun t ht => by simp [nthL, ints] at ht, fun v hv => ?_⟩, ?_⟩
    · have := sumN_ge l v; rw [show l.getD v 0 = 0 by omega]; rfl
    · show 0 = n; omega
  | k + 1, n, l, hs, hn => by
    obtain ⟨t, h1, h2, h3⟩ := who_ex (n := n) (l := l) l.length (by rw [← total_law l (by omega)]; exact hn)
    have hw := whoT_eq h1 h2 h3
    have h0 : l.getD t 0 ≠ 0 := fun e => by
      have : sumT 0 l (t + 1) = sumT 0 l t := by show sumT 0 l t + term 0 l t = _; unfold term; rw [if_pos e]; rfl
      omega
    have ts := sumT_step (l := l) (t := t) (by omega)
    obtain ⟨w1, w2, w3, w4, w5⟩ := whoT_spec h1 h0 h2 (by show _ < multi 0 (dec1 t l); omega)
    obtain ⟨i1, i2⟩ := nth_ord k (restT n l) (leftT n l) (by omega) w4
    have hl : leftT n l = dec1 t l := w3
    show Ord (((whoT n l : Nat) : Int) :: ints (nthL k (restT n l) (leftT n l))) l ∧ sumT 0 l ((whoT n l : Nat) : Int).toNat + rankI (ints (nthL k (restT n l) (leftT n l))) (dec1 ((whoT n l : Nat) : Int).toNat l) = n
    rw [Int.toNat_natCast, w1]
    rw [hl] at i1 i2 ⊢
    exact ⟨i1.cons h1 (by omega), by omega⟩
theorem ord_cnts {r : List Int} {l : List Nat} (h : Ord r l) : cnts r l.length = l := by
  apply List.ext_getElem (by rw [cnts_len])
  intro i h1 h2
  have := h.2 i h2
  rw [List.getD_eq_getElem?_getD, List.getElem?_eq_getElem h2] at this
  simp only [cnts, List.getElem_map, List.getElem_range]
  exact this.symm
theorem ord_ok {r : List Int} {l : List Nat} (h : Ord r l) (h1 : 1 ≤ l.length) (h8 : l.length ≤ 8) (hs : sumN l ≤ 20) : ofOk r (l.length : Int) := ⟨by omega, by omega, by rw [← h.sum]; exact hs, h.1⟩
theorem rank_ord {r : List Int} {l : List Nat} (h : Ord r l) (h1 : 1 ≤ l.length) (h8 : l.length ≤ 8) (hs : sumN l ≤ 20) : rankR r (l.length : Int) = .tup [.sc (.int .u64 ((rankI r l : Nat) : Int)), .sc (.int .i64 0)] := by
  rw [rankR_ok (ord_ok h h1 h8 hs), Int.toNat_natCast, ord_cnts h]
theorem s8 {P : Program} {T : Tab} {K d : Nat} (S : Sd P T K) (hd : 6 ≤ d) (n0 : Nat) (hn0 : n0 < 18446744073709551616) (q : SV) (cnt : List Int) (lk : Nat) (h : List AO) (hS : Sl h q cnt) :
    ev P T K d 8 [.sc (.int .u64 (n0 : Nat)), .sc q] lk h = some (.v (.sc (.bool true)), h) := by
  obtain ⟨d, rfl⟩ : ∃ k, d = k + 1 := ⟨d - 1, by omega⟩
  refine ev_pure (at8 S.t) rfl ?_
  unfold i8 Try.f8
  have hlen : ∀ hh, lenA P hh 35 (.v (.sc q)) = some (.v (.sc (.int .i64 (cnt.length : Int)))) := hS.len S
  by_cases h8 : cnt.length > 8
  · simp (disch := first | omega | (simp (disch := first | omega | (simp only [cells_len, ints_len, killq_len, cellsZ_len, List.length_append, List.length_cons, List.length_nil, List.length_set]; first | done | omega)) only [cells_len, ints_len, killq_len, cellsZ_len, amSide, Int.reduceToNat, Nat.reducePow, Nat.reduceMul]; first | done | omega)) only  [↓amPre, amPost, ↓s_lit', Nat.reduceAdd, Nat.reduceSub, List.replicate, retA, resultsA, resultA, toC, toCL, Nat.reduceEqDiff, eql_bool (un4 S.p), neq_bool (un4 S.p), len_sl (un35 S.p), len_nils (un35 S.p), hlen, dec_t, s21 S]
    exact Ends.some rfl
  cases ht : totB cnt with
  | false =>
    have h22 : ∀ lk, ev P T K d 22 [.sc q] lk h = some (.tup [.sc (.int .u64 0), .sc (.int .i64 1)], h) := fun lk => (s22 S (by omega) q cnt lk h hS).1 ht
    simp (disch := first | omega | (simp (disch := first | omega | (simp only [cells_len, ints_len, killq_len, cellsZ_len, List.length_append, List.length_cons, List.length_nil, List.length_set]; first | done | omega)) only [cells_len, ints_len, killq_len, cellsZ_len, amSide, Int.reduceToNat, Nat.reducePow, Nat.reduceMul]; first | done | omega)) only  [↓amPre, amPost, ↓s_lit', Nat.reduceAdd, Nat.reduceSub, List.replicate, retA, resultsA, resultA, toC, toCL, Nat.reduceEqDiff, eql_bool (un4 S.p), neq_bool (un4 S.p), len_sl (un35 S.p), len_nils (un35 S.p), hlen, dec_f, h22, s21 S, bneI_t]
    exact Ends.some rfl
  | true =>
    obtain ⟨l, rfl, l1, l8, ls⟩ := totB_nat ht
    have h22 : ∀ lk, ev P T K d 22 [.sc q] lk h = some (.tup [.sc (.int .u64 ((multi 0 l : Nat) : Int)), .sc (.int .i64 0)], h) := fun lk => (s22 S (by omega) q (ints l) lk h hS).2 l rfl ht
    have hmp := multi_pos l 0
    have hml := multi_lt l ls
    obtain ⟨m, hm⟩ : ∃ m, n0 % multi 0 l = m := ⟨_, rfl⟩
    have hmlt : m < multi 0 l := by rw [← hm]; exact Nat.mod_lt _ hmp
    have htm : ((n0 : Nat) : Int).tmod ((multi 0 l : Nat) : Int) = ((m : Nat) : Int) := by rw [← hm]; exact (Int.ofNat_tmod _ _).symm
    obtain ⟨q1, h1, e23, x1, z1⟩ := ((s23 S (show 4 ≤ d by omega) m q (ints l) h.length h (Nat.le_refl _) hS).2 l rfl ht).2 hmlt
    obtain ⟨ho, hr⟩ := nth_ord (sumN l) m l rfl hmlt
    have hol : (ints (nthL (sumN l) m l)).length ≤ 20 := by rw [ints_len, nthL_len]; exact ls
    generalize hre : ints (nthL (sumN l) m l) = r at *
    clear hre
    have hlen1 := hlen
    rw [ints_len] at hlen h8
    have e31 : ∀ lk, ev P T K d 31 [.sc q1, .sc (.int .i64 ((l.length : Nat) : Int))] lk h1 = some (.tup [.sc (.int .u64 ((m : Nat) : Int)), .sc (.int .i64 0)], h1) := fun lk => by rw [s31 S (by omega) q1 r _ lk h1 z1, rank_ord ho l1 l8 ls, hr]
    obtain ⟨v, h2, e33, H⟩ := s33 S (show 3 ≤ d by omega) q1 r (by omega) h.length h1 x1.len z1
    obtain ⟨q2, rfl, x2, z2⟩ := H.sl
    have x02 := x1.trans x2
    cases hn : nextI r with
    | some x =>
      obtain ⟨ho2, hr2⟩ := next_rank ho hn
      have hlt2 := rank_lt ho2
      have e31b : ∀ lk, ev P T K d 31 [.sc q2, .sc (.int .i64 ((l.length : Nat) : Int))] lk h2 = some (.tup [.sc (.int .u64 ((m + 1 : Nat) : Int)), .sc (.int .i64 0)], h2) := fun lk => by
        have z3 : Sl h2 q2 x := by unfold nxL at z2; rw [hn] at z2; exact z2
        rw [s31 S (by omega) q2 x _ lk h2 z3, rank_ord ho2 l1 l8 ls, hr2, hr]
      rw [hn] at e33
      have hm1 : IntKind.u64.wrap (((m : Nat) : Int) + 1) = ((m + 1 : Nat) : Int) := by rw [wrap_u64 (by omega) (by omega)]; omega
      have hz : (((multi 0 l : Nat) : Int) = 0) = False := by simp; omega
      simp (disch := first | omega | (simp (disch := first | omega | (simp only [cells_len, ints_len, killq_len, cellsZ_len, List.length_append, List.length_cons, List.length_nil, List.length_set]; first | done | omega)) only [cells_len, ints_len, killq_len, cellsZ_len, amSide, Int.reduceToNat, Nat.reducePow, Nat.reduceMul]; first | done | omega)) only  [↓amPre, amPost, ↓s_lit', Nat.reduceAdd, Nat.reduceSub, List.replicate, retA, resultsA, resultA, toC, toCL, Nat.reduceEqDiff, eql_bool (un4 S.p), neq_bool (un4 S.p), len_sl (un35 S.p), len_nils (un35 S.p), hlen, dec_f, dec_t, h22, hz, htm, e23, e31, e33, e31b, hm1, s21 S, bneI_f, bneI_t, beqI_f, beqI_t, neq_bool (un4 S.p), Option.isSome_some, bne_self_eq_false]
      exact Ends.some rfl
    | none =>
      have hlast := (next_last ho).1 hn
      obtain ⟨v, h3, e29, H⟩ := s29 S (show 1 ≤ d by omega) q1 r ((l.length : Nat) : Int) h.length h2 x02.len (z1.ext x2)
      obtain ⟨q3, rfl, x3, z3⟩ := H.sl
      have hoo := ord_ok ho l1 l8 ls
      have hE : ofE r ((l.length : Nat) : Int) = 0 := by unfold ofE; rw [if_pos hoo]
      have hC : ofC r ((l.length : Nat) : Int) = ints l := by unfold ofC; rw [if_pos hoo, Int.toNat_natCast, ord_cnts ho]
      rw [hE] at e29
      rw [hC] at z3
      have h28 : ∀ lk, ev P T K d 28 [.sc q3, .sc q] lk h3 = some (.v (.sc (.bool true)), h3) := fun lk => by
        rw [s28 S (by omega) q3 q (ints l) (ints l) (by rw [ints_len]; omega) lk h3 z3 (hS.ext (x02.trans x3)), dec_t rfl]
      rw [hn] at e33
      have hm1 : IntKind.u64.wrap (((m : Nat) : Int) + 1) = ((m + 1 : Nat) : Int) := by rw [wrap_u64 (by omega) (by omega)]; omega
      have hz : (((multi 0 l : Nat) : Int) = 0) = False := by simp; omega
      simp (disch := first | omega | (simp (disch := first | omega | (simp only [cells_len, ints_len, killq_len, cellsZ_len, List.length_append, List.length_cons, List.length_nil, List.length_set]; first | done | omega)) only [cells_len, ints_len, killq_len, cellsZ_len, amSide, Int.reduceToNat, Nat.reducePow, Nat.reduceMul]; first | done | omega)) only  [↓amPre, amPost, ↓s_lit', Nat.reduceAdd, Nat.reduceSub, List.replicate, retA, resultsA, resultA, toC, toCL, Nat.reduceEqDiff, eql_bool (un4 S.p), neq_bool (un4 S.p), len_sl (un35 S.p), len_nils (un35 S.p), hlen, dec_f, dec_t, h22, hz, htm, e23, e31, e33, e29, h28, hm1, s21 S, bneI_f, bneI_t, beqI_f, beqI_t, neq_bool (un4 S.p), Option.isSome_none, bne_self_eq_false]
      exact Ends.some rfl
theorem small_all : ∀ a, a < 4 → ∀ b, b < 4 → ∀ c, c < 3 → multi 0 [a, b, c] ≤ 2000 := by decide +kernel
structure AllSt where
  i : Nat
  r : List Int
  q : SV
  h : List AO

theorem s9 {P : Program} {T : Tab} {K d : Nat} (S : Sd P T K) (hd : 7 ≤ d) (a b c : Nat) (ha : a < 256) (hb : b < 256) (hc : c < 256) (lk : Nat) (h : List AO) :
    ev P T K d 9 [.sc (.int .u8 (a : Nat)), .sc (.int .u8 (b : Nat)), .sc (.int .u8 (c : Nat))] lk h = some (.v (.sc (.bool true)), h) := by
  obtain ⟨d, rfl⟩ : ∃ k, d = k + 1 := ⟨d - 1, by omega⟩
  refine ev_pure (at9 S.t) rfl ?_
  unfold i9 Try.f9
  have t1 : ((a : Nat) : Int).tmod 4 = ((a % 4 : Nat) : Int) := (Int.ofNat_tmod a 4).symm
  have t2 : ((b : Nat) : Int).tmod 4 = ((b % 4 : Nat) : Int) := (Int.ofNat_tmod b 4).symm
  have t3 : ((c : Nat) : Int).tmod 3 = ((c % 3 : Nat) : Int) := (Int.ofNat_tmod c 3).symm
  have ha4 := Nat.mod_lt a (show 4 > 0 by omega)
  have hb4 := Nat.mod_lt b (show 4 > 0 by omega)
  have hc4 := Nat.mod_lt c (show 3 > 0 by omega)
  generalize a % 4 = x at *
  generalize b % 4 = y at *
  generalize c % 3 = z at *
  have hx : h ++ [.rw 3 [.int .i64 ((x : Nat) : Int), .int .i64 ((y : Nat) : Int), .int .i64 ((z : Nat) : Int)]] = h ++ [.rw 3 (cellsI [x, y, z])] := rfl
  have hS : Sl (h ++ [.rw 3 (cellsI [x, y, z])]) (.sl h.length 0 3 1) (ints [x, y, z]) := .inr ⟨h.length, rfl, by simp, cells_self _ _ _ rfl⟩
  have hsum : sumN [x, y, z] ≤ 20 := by simp only [sumN]; omega
  have ht : totB (ints [x, y, z]) = true := nat_totB (by simp) (by simp) hsum
  have h20 := small_all x ha4 y hb4 z hc4
  have hl3 : [x, y, z].length = 3 := rfl
  generalize hle : [x, y, z] = l at *
  clear hle
  generalize hh : h ++ [.rw 3 (cellsI l)] = h1 at *
  have hhl : h.length + 1 = h1.length := by rw [← hh]; simp
  have h22 : ∀ lk, ev P T K d 22 [.sc (.sl h.length 0 3 1)] lk h1 = some (.tup [.sc (.int .u64 ((multi 0 l : Nat) : Int)), .sc (.int .i64 0)], h1) := fun lk => (s22 S (by omega) _ (ints l) lk _ hS).2 l rfl ht
  obtain ⟨q1, h2, e24, x1, z1⟩ := (s24 S (show 5 ≤ d by omega) _ (ints l) h.length h1 (by omega) hS).2 l rfl ht
  have hmp := multi_pos l 0
  obtain ⟨ho, hr⟩ := nth_ord (sumN l) 0 l rfl hmp
  have z40 : ((4 : Int) = 0) = False := by simp
  have z30 : ((3 : Int) = 0) = False := by simp
  simp (disch := first | omega | (simp (disch := first | omega | (simp only [cells_len, ints_len, killq_len, cellsZ_len, List.length_append, List.length_cons, List.length_nil, List.length_set]; first | done | omega)) only [cells_len, ints_len, killq_len, cellsZ_len, amSide, Int.reduceToNat, Nat.reducePow, Nat.reduceMul]; first | done | omega)) only  [↓amPre, amPost, ↓s_lit', Nat.reduceAdd, Nat.reduceSub, List.replicate, retA, resultsA, resultA, toC, toCL, Nat.reduceEqDiff, lit_fill (un35 S.p) (sz3 S.p) (ze3 S.p), conv_int (un5 S.p) (un3 S.p), z40, z30, t1, t2, t3, Nat.zero_mul, Nat.one_mul, Nat.mul_one, wrap_i64, List.flatten_cons, List.flatten_nil, List.append_nil, splice_def, hx, h22, e24, bneI_f, dec_f]
  refine ends_loop (X := AllSt) ⟨0, ints (nthL (sumN l) 0 l), q1, h2⟩ [6, 13, 14, 15, 16, 49, 50, 51, 52, 53, 54, 55, 56, 57, 58, 59, 60, 61, 62, 63, 64, 65, 66, 67, 68, 69, 70, 71, 72] (fun s => Ord s.r l ∧ rankI s.r l = s.i ∧ Sl s.h s.q s.r ∧ Ext1 h1 s.h) (fun s => multi 0 l - s.i)
    (fun s e => ((e.set 10 (.v (.sc s.q))).set 12 (.v (.sc (.int .u64 ((s.i + 1 : Nat) : Int))))).set 48 (.v (.sc (.int .u64 (s.i : Nat))))) (fun s => s.h)
    (by have := S.k; show _ < K; simp only; omega) ⟨ho, hr, z1, x1⟩ rfl rfl ?_
  rintro ⟨i, r, qr, hh2⟩ ⟨ho, hr, hsl, hxx⟩ again hag e he
  simp only at ho hr hsl hxx hag he
  simp only [↓amPre, amPost, ↓s_lit', Nat.reduceAdd, Nat.reduceSub, List.replicate, retA, resultsA, resultA, toC, toCL, Nat.reduceEqDiff] at he
  simp only [↓amPre, amPost, ↓s_lit', Nat.reduceAdd, Nat.reduceSub, List.replicate, retA, resultsA, resultA, toC, toCL, Nat.reduceEqDiff, he]
  have hlt := rank_lt ho
  have hrl : r.length ≤ 20 := by rw [← ho.sum]; exact hsum
  obtain ⟨v, h3, e33, H⟩ := s33 S (show 3 ≤ d by omega) qr r (by omega) h.length hh2 (by have := hxx.len; omega) hsl
  obtain ⟨q2, rfl, x2, z2⟩ := H.sl
  cases hn : nextI r with
  | none =>
    have hlast := (next_last ho).1 hn
    rw [hn] at e33
    simp (disch := first | omega | (simp (disch := first | omega | (simp only [cells_len, ints_len, killq_len, cellsZ_len, List.length_append, List.length_cons, List.length_nil, List.length_set]; first | done | omega)) only [cells_len, ints_len, killq_len, cellsZ_len, amSide, Int.reduceToNat, Nat.reducePow, Nat.reduceMul]; first | done | omega)) only  [↓amPre, amPost, ↓s_lit', Nat.reduceAdd, Nat.reduceSub, List.replicate, retA, resultsA, resultA, toC, toCL, Nat.reduceEqDiff, he, lit_fill (un35 S.p) (sz3 S.p) (ze3 S.p), conv_int (un5 S.p) (un3 S.p), dec_t, e33, s21 S, Option.isSome_none, beqI_t]
    exact Ends.some rfl
  | some w =>
    obtain ⟨ho2, hr2⟩ := next_rank ho hn
    have hlt2 := rank_lt ho2
    have z3 : Sl h3 q2 w := by unfold nxL at z2; rw [hn] at z2; exact z2
    have e31 : ∀ lk, ev P T K d 31 [.sc q2, .sc (.int .i64 3)] lk h3 = some (.tup [.sc (.int .u64 ((i + 1 : Nat) : Int)), .sc (.int .i64 0)], h3) := fun lk => by
      have := s31 S (show 3 ≤ d by omega) q2 w ((l.length : Nat) : Int) lk h3 z3
      rw [rank_ord ho2 (by omega) (by omega) hsum, hl3, hr2, hr] at this
      exact this
    rw [hn] at e33
    have w1 : IntKind.u64.wrap (((i + 1 : Nat) : Int) + 1) = ((i + 1 + 1 : Nat) : Int) := by rw [wrap_u64 (by omega) (by omega)]; omega
    simp (disch := first | omega | (simp (disch := first | omega | (simp only [cells_len, ints_len, killq_len, cellsZ_len, List.length_append, List.length_cons, List.length_nil, List.length_set]; first | done | omega)) only [cells_len, ints_len, killq_len, cellsZ_len, amSide, Int.reduceToNat, Nat.reducePow, Nat.reduceMul]; first | done | omega)) only  [↓amPre, amPost, ↓s_lit', Nat.reduceAdd, Nat.reduceSub, List.replicate, retA, resultsA, resultA, toC, toCL, Nat.reduceEqDiff, he, lit_fill (un35 S.p) (sz3 S.p) (ze3 S.p), conv_int (un5 S.p) (un3 S.p), dec_t, e33, e31, w1, Option.isSome_some, bneI_f, wrap_u64]
    refine hag ⟨i + 1, w, q2, h3⟩ ⟨ho2, by simp only; omega, z3, hxx.trans x2⟩ (by simp only; omega) _ ?_
    simp (disch := first | omega | (simp (disch := first | omega | (simp only [cells_len, ints_len, killq_len, cellsZ_len, List.length_append, List.length_cons, List.length_nil, List.length_set]; first | done | omega)) only [cells_len, ints_len, killq_len, cellsZ_len, amSide, Int.reduceToNat, Nat.reducePow, Nat.reduceMul]; first | done | omega)) only [↓amPre, amPost, ↓s_lit', Nat.reduceAdd, Nat.reduceSub, List.replicate, retA, resultsA, resultA, toC, toCL, Nat.reduceEqDiff, Int.natCast_add, Int.cast_ofNat_Int, dec_t, dec_f]
end Go.AM
