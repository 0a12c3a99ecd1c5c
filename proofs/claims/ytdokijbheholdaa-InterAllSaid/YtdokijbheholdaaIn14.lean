/- Orders: ranks. Conditions: none. -/
import Derived.Test.YtdokijbheholdaaIn13
set_option linter.unusedVariables false
set_option linter.unusedSimpArgs false
set_option maxRecDepth 100000
namespace Go.AM
open Go.Proofs
-- LENS: cells_len, ints_len, killq_len, dec1_len
open Classical in
noncomputable def rankR (o : List Int) (k : Int) : AV := if ofOk o k then .tup [.sc (.int .u64 ((rankI o (cnts o k.toNat) : Nat) : Int)), .sc (.int .i64 0)] else .tup [.sc (.int .u64 0), .sc (.int .i64 1)]
theorem rankR_ok {o : List Int} {k : Int} (h : ofOk o k) : rankR o k = .tup [.sc (.int .u64 ((rankI o (cnts o k.toNat) : Nat) : Int)), .sc (.int .i64 0)] := by unfold rankR; rw [if_pos h]
theorem rankR_no {o : List Int} {k : Int} (h : ¬ ofOk o k) : rankR o k = .tup [.sc (.int .u64 0), .sc (.int .i64 1)] := by unfold rankR; rw [if_neg h]
theorem rankR_free (o : List Int) (k : Int) : (freeA (rankR o k)).isSome = true := by unfold rankR; split <;> rfl
theorem drop_cons (l : List Int) (i : Nat) (h : i < l.length) : l.drop i = l.getD i 0 :: l.drop (i + 1) := by
  rw [List.drop_eq_getElem_cons h, List.getD_eq_getElem?_getD, List.getElem?_eq_getElem h]; rfl
structure RkSt where
  i : Nat
  n : Nat
  left : List Nat
structure RkIn where
  u : Nat
  n : Nat
theorem cellsI_dec (l : List Nat) (t : Nat) : (cellsI l).set t (.int .i64 ((l.getD t 0 - 1 : Nat) : Int)) = cellsI (dec1 t l) := cellsI_set l t _
theorem cellsI_undec (l : List Nat) (t : Nat) (ht : t < l.length) : (cellsI (dec1 t l)).set t (.int .i64 ((l.getD t 0 : Nat) : Int)) = cellsI l := cellsI_back l t ht
theorem dec1_getD (l : List Nat) (t : Nat) (ht : t < l.length) : (dec1 t l).getD t 0 = l.getD t 0 - 1 := getD_set_self l t _ ht
theorem s31 {P : Program} {T : Tab} {K d : Nat} (S : Sd P T K) (hd : 3 ≤ d) (q : SV) (o : List Int) (k : Int) (lk : Nat) (h : List AO) (hS : Sl h q o) :
    ev P T K d 31 [.sc q, .sc (.int .i64 k)] lk h = some (rankR o k, h) := by
  obtain ⟨d, rfl⟩ : ∃ k, d = k + 1 := ⟨d - 1, by omega⟩
  refine ev_pure (at31 S.t) (rankR_free o k) ?_
  unfold i31 Try.f31
  have hlen : ∀ hh, lenA P hh 35 (.v (.sc q)) = some (.v (.sc (.int .i64 (o.length : Int)))) := hS.len S
  obtain ⟨v, h1, e29, hx, ⟨hno, rfl⟩ | ⟨hok, rfl, hh⟩⟩ := s29 S (show 1 ≤ d by omega) q o k h.length h (Nat.le_refl _) hS
  · simp (disch := first | omega | (simp (disch := first | omega | (simp only [cells_len, ints_len, killq_len, dec1_len, List.length_append, List.length_cons, List.length_nil, List.length_set]; first | done | omega)) only [cells_len, ints_len, killq_len, dec1_len, amSide, Int.reduceToNat, Nat.reducePow, Nat.reduceMul]; first | done | omega)) only  [↓amPre, amPost, ↓s_lit', Nat.reduceAdd, Nat.reduceSub, List.replicate, retA, resultsA, resultA, toC, toCL, Nat.reduceEqDiff, iaddr_sl (un35 S.p) (sz3 S.p), len_sl (un35 S.p), len_nils (un35 S.p), part_sc (ag3 S.p), store_last (sz3 S.p), (sz3 S.p), e29, bneI_t, rankR_no hno]
    exact Ends.some rfl
  rw [rankR_ok hok]
  obtain ⟨k1, k8, k20, kr⟩ := hok
  obtain ⟨n, rfl⟩ : ∃ n : Nat, k = (n : Int) := ⟨k.toNat, by omega⟩
  simp only [Int.toNat_natCast] at *
  have hord : Ord o (cnts o n) := cnts_ord kr
  have hmax : multi 0 (cnts o n) ≤ 2432902008176640000 := multi_lt _ (by rw [hord.sum]; exact k20)
  have hrk := rank_lt hord
  have hcl := cnts_len o n
  clear hx
  subst hh
  simp (disch := first | omega | (simp (disch := first | omega | (simp only [cells_len, ints_len, killq_len, dec1_len, List.length_append, List.length_cons, List.length_nil, List.length_set]; first | done | omega)) only [cells_len, ints_len, killq_len, dec1_len, amSide, Int.reduceToNat, Nat.reducePow, Nat.reduceMul]; first | done | omega)) only  [↓amPre, amPost, ↓s_lit', Nat.reduceAdd, Nat.reduceSub, List.replicate, retA, resultsA, resultA, toC, toCL, Nat.reduceEqDiff, iaddr_sl (un35 S.p) (sz3 S.p), len_sl (un35 S.p), len_nils (un35 S.p), part_sc (ag3 S.p), store_last (sz3 S.p), (sz3 S.p), e29, bneI_f, hlen]
  refine ends_loop (X := RkSt) ⟨0, 0, cnts o n⟩ [10, 11, 24, 25, 26, 27, 28, 29, 30, 31, 32, 33, 34, 35, 36, 37, 38, 39, 40, 41, 42, 43, 44, 45, 46, 47, 48, 49, 50, 51, 52, 53, 54, 55, 56, 57, 58, 59] (fun x => x.i ≤ o.length ∧ x.n + rankI (o.drop x.i) x.left = rankI o (cnts o n) ∧ Ord (o.drop x.i) x.left ∧ x.left.length = n) (fun x => o.length - x.i)
    (fun x e => (e.set 8 (.v (.sc (.int .u64 (x.n : Nat))))).set 23 (.v (.sc (.int .i64 x.i)))) (fun x => h ++ [.rw 3 (cellsI x.left)])
    (by have := S.k; show _ < K; simp only; omega) ⟨by simp only; omega, by simp, by simpa using hord, hcl⟩ rfl rfl ?_
  rintro ⟨i, m, left⟩ ⟨hi, hrank, ho, hll⟩ again hag e he
  simp only at hi hrank ho hll hag he
  simp only [↓amPre, amPost, ↓s_lit', Nat.reduceAdd, Nat.reduceSub, List.replicate, retA, resultsA, resultA, toC, toCL, Nat.reduceEqDiff] at he
  simp only [↓amPre, amPost, ↓s_lit', Nat.reduceAdd, Nat.reduceSub, List.replicate, retA, resultsA, resultA, toC, toCL, Nat.reduceEqDiff, he]
  refine ends_cond (fun hc1 => ?_) (fun hc1 => ?_)
  · simp only [decide_eq_true_eq] at hc1
    have hi' : i < o.length := by omega
    obtain ⟨b, rfl, hb, hc⟩ := hS.at (by omega)
    have hca := cnt_at o i hi'
    have hdr := drop_cons o i hi'
    rw [hdr] at ho hrank
    have hsum := ho.sum
    have htl := ho.tail
    obtain ⟨t0, t1, t2⟩ := ho.head
    obtain ⟨t, ht⟩ : ∃ t : Nat, o.getD i 0 = (t : Int) := ⟨(o.getD i 0).toNat, by omega⟩
    rw [ht] at hca t0 t1 t2 htl hrank
    simp only [Int.toNat_natCast] at t1 t2 htl hrank
    have hs20 : sumN left ≤ 20 := by rw [hsum]; simp; omega
    have hrank' : m + (sumT 0 left t + rankI (o.drop (i + 1)) (dec1 t left)) = rankI o (cnts o n) := hrank
    simp (disch := first | omega | (simp (disch := first | omega | (simp only [cells_len, ints_len, killq_len, dec1_len, List.length_append, List.length_cons, List.length_nil, List.length_set]; first | done | omega)) only [cells_len, ints_len, killq_len, dec1_len, amSide, Int.reduceToNat, Nat.reducePow, Nat.reduceMul]; first | done | omega)) only  [↓amPre, amPost, ↓s_lit', Nat.reduceAdd, Nat.reduceSub, List.replicate, retA, resultsA, resultA, toC, toCL, Nat.reduceEqDiff, he, iaddr_sl (un35 S.p) (sz3 S.p), len_sl (un35 S.p), len_nils (un35 S.p), part_sc (ag3 S.p), store_last (sz3 S.p), (sz3 S.p), idx_ok, hc, hca, cells_other, Int.toNat_natCast, Nat.mul_one, Nat.zero_add]
    refine ends_loop (X := RkIn) ⟨0, m⟩ [11, 29, 30, 31, 32, 33, 34, 35, 36, 37, 38, 39, 40, 41, 42, 43, 44, 45, 46, 47, 48, 49, 50, 51, 52] (fun x => x.u ≤ t ∧ x.n = m + sumT 0 left x.u) (fun x => t - x.u)
      (fun x e => (e.set 8 (.v (.sc (.int .u64 (x.n : Nat))))).set 28 (.v (.sc (.int .i64 x.u)))) (fun x => h ++ [.rw 3 (cellsI left)])
      (by have := S.k; show _ < K; simp only; omega) ⟨by simp only; omega, by simp [sumT]⟩ rfl rfl ?_
    rintro ⟨u, m2⟩ ⟨hu, hm2⟩ again2 hag2 e2 he2
    simp only at hu hm2 hag2 he2
    subst hm2
    simp only [↓amPre, amPost, ↓s_lit', Nat.reduceAdd, Nat.reduceSub, List.replicate, retA, resultsA, resultA, toC, toCL, Nat.reduceEqDiff] at he2
    simp only [↓amPre, amPost, ↓s_lit', Nat.reduceAdd, Nat.reduceSub, List.replicate, retA, resultsA, resultA, toC, toCL, Nat.reduceEqDiff, he2]
    refine ends_cond (fun hc2 => ?_) (fun hc2 => ?_)
    · simp only [decide_eq_true_eq] at hc2
      have hu' : u < t := by omega
      have hup : sumT 0 left (u + 1) ≤ sumT 0 left t := sumT_up (by omega)
      have hge := sumN_ge left u
      by_cases hz : left.getD u 0 = 0
      · have tz : sumT 0 left (u + 1) = sumT 0 left u := sumT_flat (u + 1) (by omega) fun v h1 h2 => by
          obtain rfl : v = u := by omega
          exact hz
        simp (disch := first | omega | (simp (disch := first | omega | (simp only [cells_len, ints_len, killq_len, dec1_len, List.length_append, List.length_cons, List.length_nil, List.length_set]; first | done | omega)) only [cells_len, ints_len, killq_len, dec1_len, amSide, Int.reduceToNat, Nat.reducePow, Nat.reduceMul]; first | done | omega)) only  [↓amPre, amPost, ↓s_lit', Nat.reduceAdd, Nat.reduceSub, List.replicate, retA, resultsA, resultA, toC, toCL, Nat.reduceEqDiff, he2, iaddr_sl (un35 S.p) (sz3 S.p), len_sl (un35 S.p), len_nils (un35 S.p), part_sc (ag3 S.p), store_last (sz3 S.p), (sz3 S.p), idx_ok, cells_self, cellsI_at, dec_f, Int.toNat_natCast, Nat.mul_one, Nat.zero_add, wrap_i64]
        refine hag2 ⟨u + 1, _⟩ ⟨by simp only; omega, by simp only; rw [tz]⟩ (by simp only; omega) _ ?_
        simp (disch := first | omega | (simp (disch := first | omega | (simp only [cells_len, ints_len, killq_len, dec1_len, List.length_append, List.length_cons, List.length_nil, List.length_set]; first | done | omega)) only [cells_len, ints_len, killq_len, dec1_len, amSide, Int.reduceToNat, Nat.reducePow, Nat.reduceMul]; first | done | omega)) only [↓amPre, amPost, ↓s_lit', Nat.reduceAdd, Nat.reduceSub, List.replicate, retA, resultsA, resultA, toC, toCL, Nat.reduceEqDiff, Int.natCast_add, Int.cast_ofNat_Int, dec_t, dec_f]
      · have ts := sumT_step (l := left) (t := u) (by omega)
        have hsd := sumN_dec (l := left) (t := u) (by omega) (by omega)
        have f46 : ∀ lk, ev P T K d 46 [.sc (.sl h.length 0 n 1)] lk (h ++ [.rw 3 (cellsI (dec1 u left))]) = some (.v (.sc (.int .u64 ((multi 0 (dec1 u left) : Nat) : Int))), h ++ [.rw 3 (cellsI (dec1 u left))]) := fun lk =>
          s46 S (by omega) _ (dec1 u left) (by rw [dec1_len]; omega) (by omega) lk _ (.inr ⟨h.length, by rw [ints_len, dec1_len, hll], by simp, by rw [cells_self _ _ _ rfl]; rfl⟩)
        have hd1 := dec1_getD left u (by omega)
        have hcd := cellsI_dec left u
        have hcu := cellsI_undec left u (by omega)
        have w1 : IntKind.i64.wrap (((left.getD u 0 : Nat) : Int) - 1) = ((left.getD u 0 - 1 : Nat) : Int) := by rw [wrap_i64 (by omega) (by omega)]; omega
        have w2 : IntKind.i64.wrap (((left.getD u 0 - 1 : Nat) : Int) + 1) = ((left.getD u 0 : Nat) : Int) := by rw [wrap_i64 (by omega) (by omega)]; omega
        have w3 : IntKind.u64.wrap (((m + sumT 0 left u : Nat) : Int) + ((multi 0 (dec1 u left) : Nat) : Int)) = ((m + sumT 0 left (u + 1) : Nat) : Int) := by rw [ts]; rw [wrap_u64 (by omega) (by omega)]; omega
        have hg : decide (((left.getD u 0 : Nat) : Int) > 0) = true := decide_eq_true (by omega)
        clear hc hca ho htl hrank hord
        simp (disch := first | omega | (simp (disch := first | omega | (simp only [cells_len, ints_len, killq_len, dec1_len, List.length_append, List.length_cons, List.length_nil, List.length_set]; first | done | omega)) only [cells_len, ints_len, killq_len, dec1_len, amSide, Int.reduceToNat, Nat.reducePow, Nat.reduceMul]; first | done | omega)) only  [↓amPre, amPost, ↓s_lit', Nat.reduceAdd, Nat.reduceSub, List.replicate, retA, resultsA, resultA, toC, toCL, Nat.reduceEqDiff, he2, iaddr_sl (un35 S.p) (sz3 S.p), len_sl (un35 S.p), len_nils (un35 S.p), part_sc (ag3 S.p), store_last (sz3 S.p), (sz3 S.p), idx_ok, cells_self, cellsI_at, hg, w1, w2, w3, hcd, hcu, hd1, f46, Int.toNat_natCast, Nat.mul_one, Nat.zero_add, wrap_i64]
        refine hag2 ⟨u + 1, m + sumT 0 left (u + 1)⟩ ⟨by simp only; omega, rfl⟩ (by simp only; omega) _ ?_
        simp (disch := first | omega | (simp (disch := first | omega | (simp only [cells_len, ints_len, killq_len, dec1_len, List.length_append, List.length_cons, List.length_nil, List.length_set]; first | done | omega)) only [cells_len, ints_len, killq_len, dec1_len, amSide, Int.reduceToNat, Nat.reducePow, Nat.reduceMul]; first | done | omega)) only [↓amPre, amPost, ↓s_lit', Nat.reduceAdd, Nat.reduceSub, List.replicate, retA, resultsA, resultA, toC, toCL, Nat.reduceEqDiff, Int.natCast_add, Int.cast_ofNat_Int, dec_t, dec_f]
    · simp only [decide_eq_false_iff_not] at hc2
      obtain rfl : u = t := by omega
      have hcd := cellsI_dec left u
      have hge := sumN_ge left u
      have w1 : IntKind.i64.wrap (((left.getD u 0 : Nat) : Int) - 1) = ((left.getD u 0 - 1 : Nat) : Int) := by rw [wrap_i64 (by omega) (by omega)]; omega
      clear hag2
      simp (disch := first | omega | (simp (disch := first | omega | (simp only [cells_len, ints_len, killq_len, dec1_len, List.length_append, List.length_cons, List.length_nil, List.length_set]; first | done | omega)) only [cells_len, ints_len, killq_len, dec1_len, amSide, Int.reduceToNat, Nat.reducePow, Nat.reduceMul]; first | done | omega)) only  [↓amPre, amPost, ↓s_lit', Nat.reduceAdd, Nat.reduceSub, List.replicate, retA, resultsA, resultA, toC, toCL, Nat.reduceEqDiff, he2, iaddr_sl (un35 S.p) (sz3 S.p), len_sl (un35 S.p), len_nils (un35 S.p), part_sc (ag3 S.p), store_last (sz3 S.p), (sz3 S.p), idx_ok, cells_self, cellsI_at, w1, hcd, Int.toNat_natCast, Nat.mul_one, Nat.zero_add, wrap_i64]
      refine hag ⟨i + 1, m + sumT 0 left u, dec1 u left⟩ ⟨hi', by simp only; omega, htl, by simp only [dec1_len]; exact hll⟩ (by simp only; omega) _ ?_
      simp (disch := first | omega | (simp (disch := first | omega | (simp only [cells_len, ints_len, killq_len, dec1_len, List.length_append, List.length_cons, List.length_nil, List.length_set]; first | done | omega)) only [cells_len, ints_len, killq_len, dec1_len, amSide, Int.reduceToNat, Nat.reducePow, Nat.reduceMul]; first | done | omega)) only [↓amPre, amPost, ↓s_lit', Nat.reduceAdd, Nat.reduceSub, List.replicate, retA, resultsA, resultA, toC, toCL, Nat.reduceEqDiff, Int.natCast_add, Int.cast_ofNat_Int, dec_t, dec_f]
  · simp only [decide_eq_false_iff_not] at hc1
    obtain rfl : i = o.length := by omega
    rw [List.drop_length] at hrank
    have hm : m = rankI o (cnts o n) := by simpa [rankI] using hrank
    subst hm
    simp (disch := first | omega | (simp (disch := first | omega | (simp only [cells_len, ints_len, killq_len, dec1_len, List.length_append, List.length_cons, List.length_nil, List.length_set]; first | done | omega)) only [cells_len, ints_len, killq_len, dec1_len, amSide, Int.reduceToNat, Nat.reducePow, Nat.reduceMul]; first | done | omega)) only  [↓amPre, amPost, ↓s_lit', Nat.reduceAdd, Nat.reduceSub, List.replicate, retA, resultsA, resultA, toC, toCL, Nat.reduceEqDiff, he, iaddr_sl (un35 S.p) (sz3 S.p), len_sl (un35 S.p), len_nils (un35 S.p), part_sc (ag3 S.p), store_last (sz3 S.p), (sz3 S.p)]
    exact Ends.some rfl
structure RrSt where
  i : Nat
  n : Nat
  left : List Nat
  b : Nat
  h : List AO
structure RrIn where
  u : Nat
  n : Nat
  h : List AO
theorem s32 {P : Program} {T : Tab} {K d : Nat} (S : Sd P T K) (hd : 4 ≤ d) (q : SV) (o : List Int) (k : Int) (lk : Nat) (h : List AO) (hS : Sl h q o) :
    ev P T K d 32 [.sc q, .sc (.int .i64 k)] lk h = some (rankR o k, h) := by
  obtain ⟨d, rfl⟩ : ∃ k, d = k + 1 := ⟨d - 1, by omega⟩
  refine ev_pure (at32 S.t) (rankR_free o k) ?_
  unfold i32 Try.f32
  have hlen : ∀ hh, lenA P hh 35 (.v (.sc q)) = some (.v (.sc (.int .i64 (o.length : Int)))) := hS.len S
  obtain ⟨v, h1, e30, hx, ⟨hno, rfl⟩ | ⟨hok, rfl, hh⟩⟩ := s30 S (show 1 ≤ d by omega) q o k h.length h (Nat.le_refl _) hS
  · simp (disch := first | omega | (simp (disch := first | omega | (simp only [cells_len, ints_len, killq_len, dec1_len, List.length_append, List.length_cons, List.length_nil, List.length_set]; first | done | omega)) only [cells_len, ints_len, killq_len, dec1_len, amSide, Int.reduceToNat, Nat.reducePow, Nat.reduceMul]; first | done | omega)) only  [↓amPre, amPost, ↓s_lit', Nat.reduceAdd, Nat.reduceSub, List.replicate, retA, resultsA, resultA, toC, toCL, Nat.reduceEqDiff, iaddr_sl (un35 S.p) (sz3 S.p), len_sl (un35 S.p), len_nils (un35 S.p), part_sc (ag3 S.p), e30, bneI_t, rankR_no hno]
    exact Ends.some rfl
  rw [rankR_ok hok]
  obtain ⟨k1, k8, k20, kr⟩ := hok
  obtain ⟨n, rfl⟩ : ∃ n : Nat, k = (n : Int) := ⟨k.toNat, by omega⟩
  simp only [Int.toNat_natCast] at *
  have hord : Ord o (cnts o n) := cnts_ord kr
  have hmax : multi 0 (cnts o n) ≤ 2432902008176640000 := multi_lt _ (by rw [hord.sum]; exact k20)
  have hrk := rank_lt hord
  have hcl := cnts_len o n
  have hb1 : h.length < h1.length := by rw [hh]; simp
  have hc1 : cellsAt h1 h.length = some (cellsI (cnts o n)) := by rw [hh, cells_self _ _ _ rfl]
  simp (disch := first | omega | (simp (disch := first | omega | (simp only [cells_len, ints_len, killq_len, dec1_len, List.length_append, List.length_cons, List.length_nil, List.length_set]; first | done | omega)) only [cells_len, ints_len, killq_len, dec1_len, amSide, Int.reduceToNat, Nat.reducePow, Nat.reduceMul]; first | done | omega)) only  [↓amPre, amPost, ↓s_lit', Nat.reduceAdd, Nat.reduceSub, List.replicate, retA, resultsA, resultA, toC, toCL, Nat.reduceEqDiff, iaddr_sl (un35 S.p) (sz3 S.p), len_sl (un35 S.p), len_nils (un35 S.p), part_sc (ag3 S.p), e30, bneI_f, hlen]
  refine ends_loop (X := RrSt) ⟨0, 0, cnts o n, h.length, h1⟩ [10, 20, 21, 22, 23, 24, 25, 26, 27, 28, 29, 30, 31, 32, 33, 34, 35, 36, 37, 38, 39, 40, 41, 42, 43, 44, 45, 46, 47, 48, 49, 50] (fun x => x.i ≤ o.length ∧ x.n + rankI (o.drop x.i) x.left = rankI o (cnts o n) ∧ Ord (o.drop x.i) x.left ∧ x.left.length = n ∧ x.b < x.h.length ∧ cellsAt x.h x.b = some (cellsI x.left) ∧ Ext1 h x.h) (fun x => o.length - x.i)
    (fun x e => ((e.set 6 (.v (.sc (.sl x.b 0 n 1)))).set 8 (.v (.sc (.int .u64 (x.n : Nat))))).set 9 (.v (.sc (.int .i64 x.i)))) (fun x => x.h)
    (by have := S.k; show _ < K; simp only; omega) ⟨by simp only; omega, by simp, by simpa using hord, hcl, hb1, hc1, hx⟩ rfl rfl ?_
  rintro ⟨i, m, left, b, hh⟩ ⟨hi, hrank, ho, hll, hbb, hcb, hxx⟩ again hag e he
  simp only at hi hrank ho hll hbb hcb hxx hag he
  simp only [↓amPre, amPost, ↓s_lit', Nat.reduceAdd, Nat.reduceSub, List.replicate, retA, resultsA, resultA, toC, toCL, Nat.reduceEqDiff] at he
  simp only [↓amPre, amPost, ↓s_lit', Nat.reduceAdd, Nat.reduceSub, List.replicate, retA, resultsA, resultA, toC, toCL, Nat.reduceEqDiff, he]
  simp (disch := first | omega | (simp (disch := first | omega | (simp only [cells_len, ints_len, killq_len, dec1_len, List.length_append, List.length_cons, List.length_nil, List.length_set]; first | done | omega)) only [cells_len, ints_len, killq_len, dec1_len, amSide, Int.reduceToNat, Nat.reducePow, Nat.reduceMul]; first | done | omega)) only  [↓amPre, amPost, ↓s_lit', Nat.reduceAdd, Nat.reduceSub, List.replicate, retA, resultsA, resultA, toC, toCL, Nat.reduceEqDiff, he, iaddr_sl (un35 S.p) (sz3 S.p), len_sl (un35 S.p), len_nils (un35 S.p), part_sc (ag3 S.p), hlen]
  refine ends_cond (fun hc1 => ?_) (fun hc1 => ?_)
  · simp only [decide_eq_true_eq] at hc1
    have hi' : i < o.length := by omega
    obtain ⟨a, rfl, ha, hc⟩ := (hS.ext hxx).at (by omega)
    have hca := cnt_at o i hi'
    have hdr := drop_cons o i hi'
    rw [hdr] at ho hrank
    have hsum := ho.sum
    have htl := ho.tail
    obtain ⟨t0, t1, t2⟩ := ho.head
    obtain ⟨t, ht⟩ : ∃ t : Nat, o.getD i 0 = (t : Int) := ⟨(o.getD i 0).toNat, by omega⟩
    rw [ht] at hca t0 t1 t2 htl hrank
    simp only [Int.toNat_natCast] at t1 t2 htl hrank
    have hs20 : sumN left ≤ 20 := by rw [hsum]; simp; omega
    have hrank' : m + (sumT 0 left t + rankI (o.drop (i + 1)) (dec1 t left)) = rankI o (cnts o n) := hrank
    simp (disch := first | omega | (simp (disch := first | omega | (simp only [cells_len, ints_len, killq_len, dec1_len, List.length_append, List.length_cons, List.length_nil, List.length_set]; first | done | omega)) only [cells_len, ints_len, killq_len, dec1_len, amSide, Int.reduceToNat, Nat.reducePow, Nat.reduceMul]; first | done | omega)) only  [↓amPre, amPost, ↓s_lit', Nat.reduceAdd, Nat.reduceSub, List.replicate, retA, resultsA, resultA, toC, toCL, Nat.reduceEqDiff, he, iaddr_sl (un35 S.p) (sz3 S.p), len_sl (un35 S.p), len_nils (un35 S.p), part_sc (ag3 S.p)]
    refine ends_loop (X := RrIn) ⟨0, m, hh⟩ [26, 27, 28, 29, 30, 31, 32, 33, 34, 35, 36, 37, 38, 39, 40, 41, 42, 43, 44] (fun x => x.u ≤ t ∧ x.n = m + sumT 0 left x.u ∧ Ext1 hh x.h) (fun x => t - x.u)
      (fun x e => (e.set 8 (.v (.sc (.int .u64 (x.n : Nat))))).set 10 (.v (.sc (.int .i64 x.u)))) (fun x => x.h)
      (by have := S.k; show _ < K; simp only; omega) ⟨by simp only; omega, by simp [sumT], Ext1.refl _⟩ rfl rfl ?_
    rintro ⟨u, m2, hj⟩ ⟨hu, hm2, hxj⟩ again2 hag2 e2 he2
    simp only at hu hm2 hxj hag2 he2
    subst hm2
    simp only [↓amPre, amPost, ↓s_lit', Nat.reduceAdd, Nat.reduceSub, List.replicate, retA, resultsA, resultA, toC, toCL, Nat.reduceEqDiff] at he2
    simp only [↓amPre, amPost, ↓s_lit', Nat.reduceAdd, Nat.reduceSub, List.replicate, retA, resultsA, resultA, toC, toCL, Nat.reduceEqDiff, he2]
    have hcj : cellsAt hj b = some (cellsI left) := by rw [hxj.cells hbb]; exact hcb
    have hcaj : cellsAt hj a = some (o.map (SV.int .i64)) := by rw [hxj.cells ha]; exact hc
    have hbj : b < hj.length := by have := hxj.len; omega
    simp (disch := first | omega | (simp (disch := first | omega | (simp only [cells_len, ints_len, killq_len, dec1_len, List.length_append, List.length_cons, List.length_nil, List.length_set]; first | done | omega)) only [cells_len, ints_len, killq_len, dec1_len, amSide, Int.reduceToNat, Nat.reducePow, Nat.reduceMul]; first | done | omega)) only  [↓amPre, amPost, ↓s_lit', Nat.reduceAdd, Nat.reduceSub, List.replicate, retA, resultsA, resultA, toC, toCL, Nat.reduceEqDiff, he2, iaddr_sl (un35 S.p) (sz3 S.p), len_sl (un35 S.p), len_nils (un35 S.p), part_sc (ag3 S.p), idx_ok, hcaj, hca, Int.toNat_natCast, Nat.mul_one, Nat.zero_add]
    refine ends_cond (fun hc2 => ?_) (fun hc2 => ?_)
    · simp only [decide_eq_true_eq] at hc2
      have hu' : u < t := by omega
      have hup : sumT 0 left (u + 1) ≤ sumT 0 left t := sumT_up (by omega)
      have hge := sumN_ge left u
      by_cases hz : left.getD u 0 = 0
      · have tz : sumT 0 left (u + 1) = sumT 0 left u := sumT_flat (u + 1) (by omega) fun v h1 h2 => by
          obtain rfl : v = u := by omega
          exact hz
        simp (disch := first | omega | (simp (disch := first | omega | (simp only [cells_len, ints_len, killq_len, dec1_len, List.length_append, List.length_cons, List.length_nil, List.length_set]; first | done | omega)) only [cells_len, ints_len, killq_len, dec1_len, amSide, Int.reduceToNat, Nat.reducePow, Nat.reduceMul]; first | done | omega)) only  [↓amPre, amPost, ↓s_lit', Nat.reduceAdd, Nat.reduceSub, List.replicate, retA, resultsA, resultA, toC, toCL, Nat.reduceEqDiff, he2, iaddr_sl (un35 S.p) (sz3 S.p), len_sl (un35 S.p), len_nils (un35 S.p), part_sc (ag3 S.p), idx_ok, hcj, cellsI_at, dec_f, Int.toNat_natCast, Nat.mul_one, Nat.zero_add, wrap_i64]
        refine hag2 ⟨u + 1, _, hj⟩ ⟨by simp only; omega, by simp only; rw [tz], hxj⟩ (by simp only; omega) _ ?_
        simp (disch := first | omega | (simp (disch := first | omega | (simp only [cells_len, ints_len, killq_len, dec1_len, List.length_append, List.length_cons, List.length_nil, List.length_set]; first | done | omega)) only [cells_len, ints_len, killq_len, dec1_len, amSide, Int.reduceToNat, Nat.reducePow, Nat.reduceMul]; first | done | omega)) only [↓amPre, amPost, ↓s_lit', Nat.reduceAdd, Nat.reduceSub, List.replicate, retA, resultsA, resultA, toC, toCL, Nat.reduceEqDiff, Int.natCast_add, Int.cast_ofNat_Int, dec_t, dec_f]
      · have ts := sumT_step (l := left) (t := u) (by omega)
        have hsd := sumN_dec (l := left) (t := u) (by omega) (by omega)
        have h49 := s49 S (show 1 ≤ d by omega) (.sl b 0 n 1) left (by omega) u (by omega) hz (by omega) h.length hj (by have := hxx.len; have := hxj.len; omega) (.inr ⟨b, by rw [ints_len, hll], hbj, hcj⟩)
        rw [hll] at h49
        have f27 : ∀ lk, ev P T K d 27 [.sc (.sl hj.length 0 n 1)] lk (hj ++ [.rw 3 (cellsI (left.set u (left.getD u 0 - 1)))]) = some (.v (.sc (.int .u64 ((multi 0 (dec1 u left) : Nat) : Int))), hj ++ [.rw 3 (cellsI (left.set u (left.getD u 0 - 1)))]) := fun lk =>
          s27 S (by omega) _ (dec1 u left) (by rw [dec1_len]; omega) (by omega) lk _ (.inr ⟨hj.length, by rw [ints_len, dec1_len, hll], by simp, by rw [cells_self _ _ _ rfl]; rfl⟩)
        have w3 : IntKind.u64.wrap (((m + sumT 0 left u : Nat) : Int) + ((multi 0 (dec1 u left) : Nat) : Int)) = ((m + sumT 0 left (u + 1) : Nat) : Int) := by rw [ts]; rw [wrap_u64 (by omega) (by omega)]; omega
        have hg : decide (((left.getD u 0 : Nat) : Int) > 0) = true := decide_eq_true (by omega)
        clear hc hca ho htl hrank hord
        simp (disch := first | omega | (simp (disch := first | omega | (simp only [cells_len, ints_len, killq_len, dec1_len, List.length_append, List.length_cons, List.length_nil, List.length_set]; first | done | omega)) only [cells_len, ints_len, killq_len, dec1_len, amSide, Int.reduceToNat, Nat.reducePow, Nat.reduceMul]; first | done | omega)) only  [↓amPre, amPost, ↓s_lit', Nat.reduceAdd, Nat.reduceSub, List.replicate, retA, resultsA, resultA, toC, toCL, Nat.reduceEqDiff, he2, iaddr_sl (un35 S.p) (sz3 S.p), len_sl (un35 S.p), len_nils (un35 S.p), part_sc (ag3 S.p), idx_ok, hcj, cellsI_at, hg, w3, h49, f27, Int.toNat_natCast, Nat.mul_one, Nat.zero_add, wrap_i64]
        refine hag2 ⟨u + 1, m + sumT 0 left (u + 1), _⟩ ⟨by simp only; omega, rfl, hxj.push _⟩ (by simp only; omega) _ ?_
        simp (disch := first | omega | (simp (disch := first | omega | (simp only [cells_len, ints_len, killq_len, dec1_len, List.length_append, List.length_cons, List.length_nil, List.length_set]; first | done | omega)) only [cells_len, ints_len, killq_len, dec1_len, amSide, Int.reduceToNat, Nat.reducePow, Nat.reduceMul]; first | done | omega)) only [↓amPre, amPost, ↓s_lit', Nat.reduceAdd, Nat.reduceSub, List.replicate, retA, resultsA, resultA, toC, toCL, Nat.reduceEqDiff, Int.natCast_add, Int.cast_ofNat_Int, dec_t, dec_f]
    · simp only [decide_eq_false_iff_not] at hc2
      obtain rfl : u = t := by omega
      have hge := sumN_ge left u
      have h49 := s49 S (show 1 ≤ d by omega) (.sl b 0 n 1) left (by omega) u (by omega) (by omega) (by omega) h.length hj (by have := hxx.len; have := hxj.len; omega) (.inr ⟨b, by rw [ints_len, hll], hbj, hcj⟩)
      rw [hll] at h49
      clear hag2
      simp (disch := first | omega | (simp (disch := first | omega | (simp only [cells_len, ints_len, killq_len, dec1_len, List.length_append, List.length_cons, List.length_nil, List.length_set]; first | done | omega)) only [cells_len, ints_len, killq_len, dec1_len, amSide, Int.reduceToNat, Nat.reducePow, Nat.reduceMul]; first | done | omega)) only  [↓amPre, amPost, ↓s_lit', Nat.reduceAdd, Nat.reduceSub, List.replicate, retA, resultsA, resultA, toC, toCL, Nat.reduceEqDiff, he2, iaddr_sl (un35 S.p) (sz3 S.p), len_sl (un35 S.p), len_nils (un35 S.p), part_sc (ag3 S.p), idx_ok, hcaj, hca, h49, Int.toNat_natCast, Nat.mul_one, Nat.zero_add, wrap_i64]
      refine hag ⟨i + 1, m + sumT 0 left u, dec1 u left, hj.length, _⟩ ⟨hi', by simp only; omega, htl, by simp only [dec1_len]; exact hll, by simp, by simp only; rw [cells_self _ _ _ rfl]; rfl, (hxx.trans hxj).push _⟩ (by simp only; omega) _ ?_
      simp (disch := first | omega | (simp (disch := first | omega | (simp only [cells_len, ints_len, killq_len, dec1_len, List.length_append, List.length_cons, List.length_nil, List.length_set]; first | done | omega)) only [cells_len, ints_len, killq_len, dec1_len, amSide, Int.reduceToNat, Nat.reducePow, Nat.reduceMul]; first | done | omega)) only [↓amPre, amPost, ↓s_lit', Nat.reduceAdd, Nat.reduceSub, List.replicate, retA, resultsA, resultA, toC, toCL, Nat.reduceEqDiff, Int.natCast_add, Int.cast_ofNat_Int, dec_t, dec_f]
  · simp only [decide_eq_false_iff_not] at hc1
    obtain rfl : i = o.length := by omega
    rw [List.drop_length] at hrank
    have hm : m = rankI o (cnts o n) := by simpa [rankI] using hrank
    subst hm
    simp (disch := first | omega | (simp (disch := first | omega | (simp only [cells_len, ints_len, killq_len, dec1_len, List.length_append, List.length_cons, List.length_nil, List.length_set]; first | done | omega)) only [cells_len, ints_len, killq_len, dec1_len, amSide, Int.reduceToNat, Nat.reducePow, Nat.reduceMul]; first | done | omega)) only  [↓amPre, amPost, ↓s_lit', Nat.reduceAdd, Nat.reduceSub, List.replicate, retA, resultsA, resultA, toC, toCL, Nat.reduceEqDiff, he, iaddr_sl (un35 S.p) (sz3 S.p), len_sl (un35 S.p), len_nils (un35 S.p), part_sc (ag3 S.p)]
    exact Ends.some rfl
end Go.AM
