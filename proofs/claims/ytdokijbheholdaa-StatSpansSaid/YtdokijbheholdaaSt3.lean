/- Counts: the document's boxes. Conditions: none. -/
import Derived.Test.YtdokijbheholdaaSt2
set_option linter.unusedVariables false
set_option linter.unusedSimpArgs false
set_option maxRecDepth 100000
namespace Go.AM
open Go.Proofs
theorem bx_of {s k : Nat} (hs : 0 < s) (h1 : 2 ^ k ≤ s) (h2 : k = 15 ∨ (k < 15 ∧ s < 2 ^ (k + 1))) : bx (s : Int) = k := by
  unfold bx lenN
  rw [Int.toNat_natCast, if_neg (by omega)]
  have h3 : k ≤ Nat.log2 s := (Nat.le_log2 (by omega)).2 h1
  rcases h2 with rfl | ⟨h2, h4⟩
  · omega
  · have := (Nat.log2_lt (n := s) (k := k + 1) (by omega)).2 h4
    omega
-- LENS: arrC_len, boxN_len
set_option maxHeartbeats 2000000 in
theorem s37 {P : Program} {T : Tab} {K d : Nat} (S : Sd P T K) (hd : 1 ≤ d) (q : SV) (l : List Int) (hl : l.length ≤ 500) (hw : ∀ x ∈ l, x ≤ 9223372036854775807) (lk : Nat) (h : List AO) (hq : Rs I1 1 h q l) :
    ev P T K d 37 [.sc q] lk h = some (.v (.ag (arrC (boxN l))), h) := by
  obtain ⟨d, rfl⟩ : ∃ k, d = k + 1 := ⟨d - 1, by omega⟩
  refine ev_pure (at37 S.t) (by rw [fr_ag, arrC_fr]) ?_
  unfold i37 Try.f37
  have hlen := hq.len (un35 S.p)
  have hz : [SV.int .i64 0, .int .i64 0, .int .i64 0, .int .i64 0, .int .i64 0, .int .i64 0, .int .i64 0, .int .i64 0, .int .i64 0, .int .i64 0, .int .i64 0, .int .i64 0, .int .i64 0, .int .i64 0, .int .i64 0, .int .i64 0] = arrC (boxN []) := rfl
  simp (maxSteps := 1000000) (disch := first | omega | (simp (disch := first | omega | (simp only [arrC_len, boxN_len, List.length_append, List.length_cons, List.length_nil, List.length_set]; first | done | omega)) only [arrC_len, boxN_len, amSide, Int.reduceToNat, Nat.reducePow, Nat.reduceMul]; first | done | omega)) only  [↓amPre, amPost, ↓s_lit', Nat.reduceAdd, Nat.reduceSub, List.replicate, retA, resultsA, resultA, toC, toCL, Nat.reduceEqDiff, (ze58 S.p), iaddr_sl (un35 S.p) (sz3 S.p), iaddr_ptr (un58 S.p) (sz3 S.p), len_sl (un35 S.p), len_nils (un35 S.p), part_sc (ag3 S.p), part_all (ag58 S.p) (sz58 S.p), part_at (ag58 S.p) (sz58 S.p), store_last (sz3 S.p), (sz3 S.p), store_last (sz58 S.p), (sz58 S.p), hlen, hz]
  refine ends_loop (X := BxSt) ⟨0⟩ [5, 6, 7, 8, 9, 10, 11, 12, 13, 14, 15, 16, 17, 18, 19, 20, 21, 22, 23, 24, 25, 26, 27, 28, 29, 30, 31, 32, 33, 34, 35, 36] (fun x => x.i ≤ l.length) (fun x => l.length - x.i)
    (fun x e => e.set 4 (.v (.sc (.int .i64 x.i)))) (fun x => h ++ [.rw 58 (arrC (boxN []))] ++ [.rw 58 (arrC (boxN (l.take x.i)))])
    (by have := S.k; show _ < K; simp only; omega) (by simp only; omega) rfl rfl ?_
  rintro ⟨i⟩ hi again hag e he
  simp only at hi hag he
  simp only [↓amPre, amPost, ↓s_lit', Nat.reduceAdd, Nat.reduceSub, List.replicate, retA, resultsA, resultA, toC, toCL, Nat.reduceEqDiff] at he
  simp only [↓amPre, amPost, ↓s_lit', Nat.reduceAdd, Nat.reduceSub, List.replicate, retA, resultsA, resultA, toC, toCL, Nat.reduceEqDiff, he, hlen]
  have hb16 := boxN_len (l.take i)
  refine ends_cond (fun hc1 => ?_) (fun hc1 => ?_)
  · simp only [decide_eq_true_eq] at hc1
    have hio : i < l.length := by omega
    obtain ⟨b, rfl, hb, hc⟩ := hq.at (by omega)
    obtain ⟨x, hx⟩ : ∃ x, l[i]? = some x := ⟨_, List.getElem?_eq_getElem hio⟩
    rw [recs_I1] at hc
    have hxm := hw x (List.mem_of_getElem? hx)
    have hcx : (l.map (SV.int .i64))[i]? = some (.int .i64 x) := by simp [hx]
    have hsn := boxN_snoc (l.take i) x
    rw [← take_snocI l i x hx] at hsn
    have hcc : ∀ z z', cellsAt (h ++ [z] ++ [z']) b = some (l.map (SV.int .i64)) := fun z z' => by rw [cells_other b _ (by simp; omega), cells_other b _ (by omega)]; exact hc
    by_cases hp : 0 < x
    · obtain ⟨n, rfl⟩ := Int.eq_ofNat_of_zero_le (show 0 ≤ x by omega)
      simp (maxSteps := 1000000) (disch := first | omega | (simp (disch := first | omega | (simp only [arrC_len, boxN_len, List.length_append, List.length_cons, List.length_nil, List.length_set]; first | done | omega)) only [arrC_len, boxN_len, amSide, Int.reduceToNat, Nat.reducePow, Nat.reduceMul]; first | done | omega)) only  [↓amPre, amPost, ↓s_lit', Nat.reduceAdd, Nat.reduceSub, List.replicate, retA, resultsA, resultA, toC, toCL, Nat.reduceEqDiff, he, (ze58 S.p), iaddr_sl (un35 S.p) (sz3 S.p), iaddr_ptr (un58 S.p) (sz3 S.p), len_sl (un35 S.p), len_nils (un35 S.p), part_sc (ag3 S.p), part_all (ag58 S.p) (sz58 S.p), part_at (ag58 S.p) (sz58 S.p), store_last (sz3 S.p), (sz3 S.p), store_last (sz58 S.p), (sz58 S.p), hlen, idx_ok, hcc, hcx, dec_f, Int.toNat_natCast, Nat.mul_one, Nat.zero_add, wrap_i64]
      refine ends_loop (X := BxSt) ⟨0⟩ [18, 19, 20, 21, 22, 23, 24, 25, 26, 27, 28, 29, 30, 31] (fun x => x.i ≤ 15 ∧ 2 ^ x.i ≤ n) (fun x => 15 - x.i)
        (fun x e => (e.set 5 (.v (.sc (.int .i64 x.i)))).set 6 (.v (.sc (.int .i64 ((2 ^ (x.i + 1) : Nat) : Int))))) (fun x => h ++ [.rw 58 (arrC (boxN []))] ++ [.rw 58 (arrC (boxN (l.take i)))])
        (by have := S.k; show _ < K; simp only; omega) (by simp only; omega) rfl rfl ?_
      rintro ⟨k⟩ ⟨hk, hkn⟩ again2 hag2 e2 he2
      simp only at hk hkn hag2 he2
      simp only [↓amPre, amPost, ↓s_lit', Nat.reduceAdd, Nat.reduceSub, List.replicate, retA, resultsA, resultA, toC, toCL, Nat.reduceEqDiff] at he2
      have fin : ∀ hh : (k = 15 ∨ (k < 15 ∧ n < 2 ^ (k + 1))), boxN (l.take (i + 1)) = (boxN (l.take i)).set k ((boxN (l.take i)).getD k 0 + 1) := fun hh => by
        rw [hsn]; unfold addB
        rw [if_pos hp, bx_of (by omega) hkn hh]
      have hgt := arrC_get (b := boxN (l.take i)) (k := k) (by omega)
      have hst := arrC_set1 (boxN (l.take i)) k ((boxN (l.take i)).getD k 0)
      have hle := boxN_le (l.take i) k
      have hle2 := List.length_take_le i l
      have hki : (0 ≤ ((k : Nat) : Int) ∧ ((k : Nat) : Int) < 16) = True := by simp; omega
      have hp2 : 2 ^ (k + 1) ≤ 65536 := Nat.pow_le_pow_right (n := 2) (by omega) (show k + 1 ≤ 16 by omega)
      have hp3 : 2 ^ (k + 1 + 1) = 2 ^ (k + 1) * 2 := Nat.pow_succ _ _
      by_cases c1 : k < 15
      · by_cases c2 : 2 ^ (k + 1) ≤ n
        · generalize hpk : 2 ^ (k + 1) = t at *
          simp (maxSteps := 1000000) (disch := first | omega | (simp (disch := first | omega | (simp only [arrC_len, boxN_len, List.length_append, List.length_cons, List.length_nil, List.length_set]; first | done | omega)) only [arrC_len, boxN_len, amSide, Int.reduceToNat, Nat.reducePow, Nat.reduceMul]; first | done | omega)) only  [↓amPre, amPost, ↓s_lit', Nat.reduceAdd, Nat.reduceSub, List.replicate, retA, resultsA, resultA, toC, toCL, Nat.reduceEqDiff, he2, (ze58 S.p), iaddr_sl (un35 S.p) (sz3 S.p), iaddr_ptr (un58 S.p) (sz3 S.p), len_sl (un35 S.p), len_nils (un35 S.p), part_sc (ag3 S.p), part_all (ag58 S.p) (sz58 S.p), part_at (ag58 S.p) (sz58 S.p), store_last (sz3 S.p), (sz3 S.p), store_last (sz58 S.p), (sz58 S.p), hlen, idx_ok, hcc, hcx, dec_f, dec_t, Int.toNat_natCast, Nat.mul_one, Nat.zero_add, wrap_i64]
          refine hag2 ⟨k + 1⟩ ⟨by simp only; omega, by simp only; omega⟩ (by simp only; omega) _ ?_
          simp only [hp3, Int.natCast_mul]
          simp (maxSteps := 1000000) (disch := first | omega | (simp (disch := first | omega | (simp only [arrC_len, boxN_len, List.length_append, List.length_cons, List.length_nil, List.length_set]; first | done | omega)) only [arrC_len, boxN_len, amSide, Int.reduceToNat, Nat.reducePow, Nat.reduceMul]; first | done | omega)) only [↓amPre, amPost, ↓s_lit', Nat.reduceAdd, Nat.reduceSub, List.replicate, retA, resultsA, resultA, toC, toCL, Nat.reduceEqDiff, Int.natCast_add, Int.cast_ofNat_Int, dec_t, dec_f]
        · have hf := fin (.inr ⟨c1, by omega⟩)
          rw [← hf] at hst
          generalize hpk : 2 ^ (k + 1) = t at *
          generalize (boxN (l.take i)).getD k 0 = v at *
          simp (maxSteps := 1000000) (disch := first | omega | (simp (disch := first | omega | (simp only [arrC_len, boxN_len, List.length_append, List.length_cons, List.length_nil, List.length_set]; first | done | omega)) only [arrC_len, boxN_len, amSide, Int.reduceToNat, Nat.reducePow, Nat.reduceMul]; first | done | omega)) only  [↓amPre, amPost, ↓s_lit', Nat.reduceAdd, Nat.reduceSub, List.replicate, retA, resultsA, resultA, toC, toCL, Nat.reduceEqDiff, he2, (ze58 S.p), iaddr_sl (un35 S.p) (sz3 S.p), iaddr_ptr (un58 S.p) (sz3 S.p), len_sl (un35 S.p), len_nils (un35 S.p), part_sc (ag3 S.p), part_all (ag58 S.p) (sz58 S.p), part_at (ag58 S.p) (sz58 S.p), store_last (sz3 S.p), (sz3 S.p), store_last (sz58 S.p), (sz58 S.p), hlen, idx_ok, hki, hcc, hcx, dec_f, dec_t, hgt, hst, cells_self, Int.toNat_natCast, Nat.mul_one, Nat.zero_add, wrap_i64]
          refine hag ⟨i + 1⟩ (by simp only; omega) (by simp only; omega) _ ?_
          simp (maxSteps := 1000000) (disch := first | omega | (simp (disch := first | omega | (simp only [arrC_len, boxN_len, List.length_append, List.length_cons, List.length_nil, List.length_set]; first | done | omega)) only [arrC_len, boxN_len, amSide, Int.reduceToNat, Nat.reducePow, Nat.reduceMul]; first | done | omega)) only [↓amPre, amPost, ↓s_lit', Nat.reduceAdd, Nat.reduceSub, List.replicate, retA, resultsA, resultA, toC, toCL, Nat.reduceEqDiff, Int.natCast_add, Int.cast_ofNat_Int, dec_t, dec_f]
      · have hf := fin (.inl (by omega))
        rw [← hf] at hst
        generalize hpk : 2 ^ (k + 1) = t at *
        generalize (boxN (l.take i)).getD k 0 = v at *
        simp (maxSteps := 1000000) (disch := first | omega | (simp (disch := first | omega | (simp only [arrC_len, boxN_len, List.length_append, List.length_cons, List.length_nil, List.length_set]; first | done | omega)) only [arrC_len, boxN_len, amSide, Int.reduceToNat, Nat.reducePow, Nat.reduceMul]; first | done | omega)) only  [↓amPre, amPost, ↓s_lit', Nat.reduceAdd, Nat.reduceSub, List.replicate, retA, resultsA, resultA, toC, toCL, Nat.reduceEqDiff, he2, (ze58 S.p), iaddr_sl (un35 S.p) (sz3 S.p), iaddr_ptr (un58 S.p) (sz3 S.p), len_sl (un35 S.p), len_nils (un35 S.p), part_sc (ag3 S.p), part_all (ag58 S.p) (sz58 S.p), part_at (ag58 S.p) (sz58 S.p), store_last (sz3 S.p), (sz3 S.p), store_last (sz58 S.p), (sz58 S.p), hlen, idx_ok, hki, hcc, hcx, dec_f, dec_t, hgt, hst, cells_self, Int.toNat_natCast, Nat.mul_one, Nat.zero_add, wrap_i64]
        refine hag ⟨i + 1⟩ (by simp only; omega) (by simp only; omega) _ ?_
        simp (maxSteps := 1000000) (disch := first | omega | (simp (disch := first | omega | (simp only [arrC_len, boxN_len, List.length_append, List.length_cons, List.length_nil, List.length_set]; first | done | omega)) only [arrC_len, boxN_len, amSide, Int.reduceToNat, Nat.reducePow, Nat.reduceMul]; first | done | omega)) only [↓amPre, amPost, ↓s_lit', Nat.reduceAdd, Nat.reduceSub, List.replicate, retA, resultsA, resultA, toC, toCL, Nat.reduceEqDiff, Int.natCast_add, Int.cast_ofNat_Int, dec_t, dec_f]
    · unfold addB at hsn
      rw [if_neg hp] at hsn
      simp (maxSteps := 1000000) (disch := first | omega | (simp (disch := first | omega | (simp only [arrC_len, boxN_len, List.length_append, List.length_cons, List.length_nil, List.length_set]; first | done | omega)) only [arrC_len, boxN_len, amSide, Int.reduceToNat, Nat.reducePow, Nat.reduceMul]; first | done | omega)) only  [↓amPre, amPost, ↓s_lit', Nat.reduceAdd, Nat.reduceSub, List.replicate, retA, resultsA, resultA, toC, toCL, Nat.reduceEqDiff, he, (ze58 S.p), iaddr_sl (un35 S.p) (sz3 S.p), iaddr_ptr (un58 S.p) (sz3 S.p), len_sl (un35 S.p), len_nils (un35 S.p), part_sc (ag3 S.p), part_all (ag58 S.p) (sz58 S.p), part_at (ag58 S.p) (sz58 S.p), store_last (sz3 S.p), (sz3 S.p), store_last (sz58 S.p), (sz58 S.p), hlen, idx_ok, hcc, hcx, dec_t, Int.toNat_natCast, Nat.mul_one, Nat.zero_add, wrap_i64]
      rw [← hsn]
      refine hag ⟨i + 1⟩ (by simp only; omega) (by simp only; omega) _ ?_
      simp (maxSteps := 1000000) (disch := first | omega | (simp (disch := first | omega | (simp only [arrC_len, boxN_len, List.length_append, List.length_cons, List.length_nil, List.length_set]; first | done | omega)) only [arrC_len, boxN_len, amSide, Int.reduceToNat, Nat.reducePow, Nat.reduceMul]; first | done | omega)) only [↓amPre, amPost, ↓s_lit', Nat.reduceAdd, Nat.reduceSub, List.replicate, retA, resultsA, resultA, toC, toCL, Nat.reduceEqDiff, Int.natCast_add, Int.cast_ofNat_Int, dec_t, dec_f]
  · simp only [decide_eq_false_iff_not] at hc1
    obtain rfl : i = l.length := by omega
    have hbl := boxN_len l
    have hb0 := boxN_len []
    rw [List.take_length] at *
    simp (maxSteps := 1000000) (disch := first | omega | (simp (disch := first | omega | (simp only [arrC_len, boxN_len, List.length_append, List.length_cons, List.length_nil, List.length_set]; first | done | omega)) only [arrC_len, boxN_len, amSide, Int.reduceToNat, Nat.reducePow, Nat.reduceMul]; first | done | omega)) only  [↓amPre, amPost, ↓s_lit', Nat.reduceAdd, Nat.reduceSub, List.replicate, retA, resultsA, resultA, toC, toCL, Nat.reduceEqDiff, he, (ze58 S.p), iaddr_sl (un35 S.p) (sz3 S.p), iaddr_ptr (un58 S.p) (sz3 S.p), len_sl (un35 S.p), len_nils (un35 S.p), part_sc (ag3 S.p), part_all (ag58 S.p) (sz58 S.p), part_at (ag58 S.p) (sz58 S.p), store_last (sz3 S.p), (sz3 S.p), store_last (sz58 S.p), (sz58 S.p), cells_self, cells_other]
    exact Ends.some rfl
end Go.AM
