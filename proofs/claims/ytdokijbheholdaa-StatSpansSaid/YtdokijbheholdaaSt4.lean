/- Counts: the law of boxes. Conditions: none. -/
import Derived.Test.YtdokijbheholdaaSt3
import Derived.Test.YtdokijbheholdaaAmOpen
set_option linter.unusedVariables false
set_option linter.unusedSimpArgs false
set_option maxRecDepth 100000
namespace Go.AM
open Go.Proofs
def posN (l : List Int) : Nat := (l.filter fun x => decide (0 < x)).length
theorem posN_snoc (l : List Int) (x : Int) : posN (l ++ [x]) = posN l + if 0 < x then 1 else 0 := by
  unfold posN
  rw [List.filter_append, List.length_append]
  by_cases h : 0 < x
  · simp [h]
  · simp [h]
theorem posN_le (l : List Int) : posN l ≤ l.length := List.length_filter_le _ _
def sumL (b : List Nat) : Nat := b.foldr (· + ·) 0
theorem sumL_set : ∀ (b : List Nat) (k : Nat), k < b.length → sumL (b.set k (b.getD k 0 + 1)) = sumL b + 1
  | [], k, h => by simp at h
  | a :: b, 0, _ => by simp [sumL]; omega
  | a :: b, k + 1, h => by
    have := sumL_set b k (by simpa using h)
    simp only [List.set_cons_succ, List.getD_cons_succ, sumL, List.foldr_cons] at this ⊢
    omega
theorem sumL_snoc (b : List Nat) (x : Nat) : sumL (b ++ [x]) = sumL b + x := by
  induction b with
  | nil => simp [sumL]
  | cons a b ih => simp only [sumL, List.cons_append, List.foldr_cons] at ih ⊢; omega
theorem sum_boxN (l : List Int) : sumL (boxN l) = posN l := by
  induction l using snoc_ind with
  | h0 => rfl
  | h1 l s ih =>
    rw [boxN_snoc, posN_snoc]
    unfold addB
    split
    · rw [sumL_set _ _ (by rw [boxN_len]; exact bx_lt s), ih]
    · rw [ih]; rfl
theorem sumL_take {b : List Nat} {k x : Nat} (h : b[k]? = some x) : sumL (b.take (k + 1)) = sumL (b.take k) + x := by
  rw [List.take_add_one, h]
  exact sumL_snoc _ _
theorem sumL_le (b : List Nat) (k : Nat) : sumL (b.take k) ≤ sumL b := by
  have h : sumL b = sumL (b.take k) + sumL (b.drop k) := by
    have : ∀ a c : List Nat, sumL (a ++ c) = sumL a + sumL c := fun a c => by
      induction a with
      | nil => simp [sumL]
      | cons x a ih => simp only [sumL, List.cons_append, List.foldr_cons] at ih ⊢; omega
    rw [← this, List.take_append_drop]
  omega
theorem eqL_arr (b : List Nat) : ∀ (z : List Nat), z.length = b.length → (∀ x ∈ z, x = 1) → eqL z (arrC b) (arrC b) = some true := by
  induction b with
  | nil => intro z hz _; rw [List.eq_nil_of_length_eq_zero hz]; rfl
  | cons a b ih =>
    intro z hz h1
    match z, hz with
    | y :: z, hz =>
      have hy := h1 y List.mem_cons_self
      subst hy
      have := ih z (by simpa using hz) fun x hx => h1 x (List.mem_cons_of_mem _ hx)
      show eqL (1 :: z) (SV.int .i64 (a : Int) :: arrC b) (SV.int .i64 (a : Int) :: arrC b) = some true
      simp [eqL, eqS, this]
theorem ev_known' {P : Program} {T : Tab} {K d : Nat} {f : FuncId} {F : List CV → Nat → List AO → Option (AV × List AO)} (hT : T.at f = some (.known F)) (xs : List CV) (lk : Nat) (h : List AO) : ev P T K (d + 1) f xs lk h = F xs lk h := by simp only [ev, hT]
theorem s35k {P : Program} {T : Tab} {K d : Nat} (S : Sd P T K) (hd : 1 ≤ d) (lk : Nat) (h : List AO) : ev P T K d 35 [] lk h = some (.v (.sc (.bool true)), h) := by
  obtain ⟨d, rfl⟩ : ∃ k, d = k + 1 := ⟨d - 1, by omega⟩
  rw [ev_known' (at35 S.t)]; rfl
-- LENS: arrC_len, boxN_len, arrC_fr
set_option maxHeartbeats 2000000 in
theorem s10 {P : Program} {T : Tab} {K d : Nat} (S : Sd P T K) (hd : 4 ≤ d) (q : SV) (l : List Int) (hw : ∀ x ∈ l, x ≤ 9223372036854775807) (lk : Nat) (h : List AO) (hq : Rs I1 1 h q l) :
    ev P T K d 10 [.sc q] lk h = some (.v (.sc (.bool true)), h) := by
  obtain ⟨d, rfl⟩ : ∃ k, d = k + 1 := ⟨d - 1, by omega⟩
  refine ev_pure (at10 S.t) rfl ?_
  unfold i10 Try.f10
  have hlen := hq.len (un35 S.p)
  have f35 := fun lk h => s35k S (show 1 ≤ d by omega) lk h
  by_cases c1 : l.length > 500
  · simp (maxSteps := 1000000) (disch := first | omega | (simp (disch := first | omega | (simp only [arrC_len, boxN_len, arrC_fr, List.length_append, List.length_cons, List.length_nil, List.length_set]; first | done | omega)) only [arrC_len, boxN_len, arrC_fr, amSide, Int.reduceToNat, Nat.reducePow, Nat.reduceMul]; first | done | omega)) only  [↓amPre, amPost, ↓s_lit', Nat.reduceAdd, Nat.reduceSub, List.replicate, retA, resultsA, resultA, toC, toCL, Nat.reduceEqDiff, (ze58 S.p), eql_ag, neq_ag, (eq58 S.p), index_ag (un58 S.p) (sz3 S.p), part_sc (ag3 S.p), iaddr_sl (un35 S.p) (sz3 S.p), len_sl (un35 S.p), len_nils (un35 S.p), part_all (ag58 S.p) (sz58 S.p), part_at (ag58 S.p) (sz58 S.p), store_last (sz58 S.p), (sz58 S.p), hlen, dec_t, f35]
    exact Ends.some rfl
  have f36 := fun lk => s36 S (show 3 ≤ d by omega) q l (by omega) hw lk h hq
  have x01 : Ext1 h (h ++ [.rw 58 (arrC (boxN l))]) := (Ext1.refl h).push _
  have f37 := fun lk => s37 S (show 1 ≤ d by omega) q l (by omega) hw lk (h ++ [.rw 58 (arrC (boxN l))]) (hq.ext x01)
  have hz : [SV.int .i64 0, .int .i64 0, .int .i64 0, .int .i64 0, .int .i64 0, .int .i64 0, .int .i64 0, .int .i64 0, .int .i64 0, .int .i64 0, .int .i64 0, .int .i64 0, .int .i64 0, .int .i64 0, .int .i64 0, .int .i64 0] = arrC (boxN []) := rfl
  have hbl := boxN_len l
  have hb0 := boxN_len []
  simp (maxSteps := 1000000) (disch := first | omega | (simp (disch := first | omega | (simp only [arrC_len, boxN_len, arrC_fr, List.length_append, List.length_cons, List.length_nil, List.length_set]; first | done | omega)) only [arrC_len, boxN_len, arrC_fr, amSide, Int.reduceToNat, Nat.reducePow, Nat.reduceMul]; first | done | omega)) only  [↓amPre, amPost, ↓s_lit', Nat.reduceAdd, Nat.reduceSub, List.replicate, retA, resultsA, resultA, toC, toCL, Nat.reduceEqDiff, (ze58 S.p), eql_ag, neq_ag, (eq58 S.p), index_ag (un58 S.p) (sz3 S.p), part_sc (ag3 S.p), iaddr_sl (un35 S.p) (sz3 S.p), len_sl (un35 S.p), len_nils (un35 S.p), part_all (ag58 S.p) (sz58 S.p), part_at (ag58 S.p) (sz58 S.p), store_last (sz58 S.p), (sz58 S.p), hlen, dec_f, f36, hz]
  refine ends_loop (X := BxSt) ⟨0⟩ [6, 18, 19, 20, 21, 22, 23, 24, 25] (fun x => x.i ≤ l.length) (fun x => l.length - x.i)
    (fun x e => (e.set 4 (.v (.sc (.int .i64 ((posN (l.take x.i) : Nat) : Int))))).set 17 (.v (.sc (.int .i64 x.i)))) (fun x => h ++ [.rw 58 (arrC (boxN l))])
    (by have := S.k; show _ < K; simp only; omega) (by simp only; omega) rfl rfl ?_
  rintro ⟨i⟩ hi again hag e he
  simp only at hi hag he
  simp only [↓amPre, amPost, ↓s_lit', Nat.reduceAdd, Nat.reduceSub, List.replicate, retA, resultsA, resultA, toC, toCL, Nat.reduceEqDiff] at he
  simp only [↓amPre, amPost, ↓s_lit', Nat.reduceAdd, Nat.reduceSub, List.replicate, retA, resultsA, resultA, toC, toCL, Nat.reduceEqDiff, he]
  refine ends_cond (fun hc1 => ?_) (fun hc1 => ?_)
  · simp only [decide_eq_true_eq] at hc1
    have hio : i < l.length := by omega
    obtain ⟨b, rfl, hb, hc⟩ := (hq.ext x01).at (by omega)
    obtain ⟨x, hx⟩ : ∃ x, l[i]? = some x := ⟨_, List.getElem?_eq_getElem hio⟩
    rw [recs_I1] at hc
    have hcx : (l.map (SV.int .i64))[i]? = some (.int .i64 x) := by simp [hx]
    have hsn := posN_snoc (l.take i) x
    rw [← take_snocI l i x hx] at hsn
    have hpl := posN_le (l.take i)
    have hle2 := List.length_take_le i l
    by_cases hp : 0 < x
    · rw [if_pos hp] at hsn
      simp (maxSteps := 1000000) (disch := first | omega | (simp (disch := first | omega | (simp only [arrC_len, boxN_len, arrC_fr, List.length_append, List.length_cons, List.length_nil, List.length_set]; first | done | omega)) only [arrC_len, boxN_len, arrC_fr, amSide, Int.reduceToNat, Nat.reducePow, Nat.reduceMul]; first | done | omega)) only  [↓amPre, amPost, ↓s_lit', Nat.reduceAdd, Nat.reduceSub, List.replicate, retA, resultsA, resultA, toC, toCL, Nat.reduceEqDiff, he, (ze58 S.p), eql_ag, neq_ag, (eq58 S.p), index_ag (un58 S.p) (sz3 S.p), part_sc (ag3 S.p), iaddr_sl (un35 S.p) (sz3 S.p), len_sl (un35 S.p), len_nils (un35 S.p), part_all (ag58 S.p) (sz58 S.p), part_at (ag58 S.p) (sz58 S.p), store_last (sz58 S.p), (sz58 S.p), idx_ok, hc, hcx, dec_t, Int.toNat_natCast, Nat.mul_one, Nat.zero_add, wrap_i64]
      refine hag ⟨i + 1⟩ (by simp only; omega) (by simp only; omega) _ ?_
      simp only [hsn]
      simp (maxSteps := 1000000) (disch := first | omega | (simp (disch := first | omega | (simp only [arrC_len, boxN_len, arrC_fr, List.length_append, List.length_cons, List.length_nil, List.length_set]; first | done | omega)) only [arrC_len, boxN_len, arrC_fr, amSide, Int.reduceToNat, Nat.reducePow, Nat.reduceMul]; first | done | omega)) only [↓amPre, amPost, ↓s_lit', Nat.reduceAdd, Nat.reduceSub, List.replicate, retA, resultsA, resultA, toC, toCL, Nat.reduceEqDiff, Int.natCast_add, Int.cast_ofNat_Int, dec_t, dec_f]
    · rw [if_neg hp] at hsn
      simp (maxSteps := 1000000) (disch := first | omega | (simp (disch := first | omega | (simp only [arrC_len, boxN_len, arrC_fr, List.length_append, List.length_cons, List.length_nil, List.length_set]; first | done | omega)) only [arrC_len, boxN_len, arrC_fr, amSide, Int.reduceToNat, Nat.reducePow, Nat.reduceMul]; first | done | omega)) only  [↓amPre, amPost, ↓s_lit', Nat.reduceAdd, Nat.reduceSub, List.replicate, retA, resultsA, resultA, toC, toCL, Nat.reduceEqDiff, he, (ze58 S.p), eql_ag, neq_ag, (eq58 S.p), index_ag (un58 S.p) (sz3 S.p), part_sc (ag3 S.p), iaddr_sl (un35 S.p) (sz3 S.p), len_sl (un35 S.p), len_nils (un35 S.p), part_all (ag58 S.p) (sz58 S.p), part_at (ag58 S.p) (sz58 S.p), store_last (sz58 S.p), (sz58 S.p), idx_ok, hc, hcx, dec_f, Int.toNat_natCast, Nat.mul_one, Nat.zero_add, wrap_i64]
      refine hag ⟨i + 1⟩ (by simp only; omega) (by simp only; omega) _ ?_
      simp only [hsn, Nat.add_zero]
      simp (maxSteps := 1000000) (disch := first | omega | (simp (disch := first | omega | (simp only [arrC_len, boxN_len, arrC_fr, List.length_append, List.length_cons, List.length_nil, List.length_set]; first | done | omega)) only [arrC_len, boxN_len, arrC_fr, amSide, Int.reduceToNat, Nat.reducePow, Nat.reduceMul]; first | done | omega)) only [↓amPre, amPost, ↓s_lit', Nat.reduceAdd, Nat.reduceSub, List.replicate, retA, resultsA, resultA, toC, toCL, Nat.reduceEqDiff, Int.natCast_add, Int.cast_ofNat_Int, dec_t, dec_f]
  simp only [decide_eq_false_iff_not] at hc1
  obtain rfl : i = l.length := by omega
  rw [List.take_length] at *
  clear hag
  have hsb := sum_boxN l
  have hpl := posN_le l
  simp (maxSteps := 1000000) (disch := first | omega | (simp (disch := first | omega | (simp only [arrC_len, boxN_len, arrC_fr, List.length_append, List.length_cons, List.length_nil, List.length_set]; first | done | omega)) only [arrC_len, boxN_len, arrC_fr, amSide, Int.reduceToNat, Nat.reducePow, Nat.reduceMul]; first | done | omega)) only  [↓amPre, amPost, ↓s_lit', Nat.reduceAdd, Nat.reduceSub, List.replicate, retA, resultsA, resultA, toC, toCL, Nat.reduceEqDiff, he, (ze58 S.p), eql_ag, neq_ag, (eq58 S.p), index_ag (un58 S.p) (sz3 S.p), part_sc (ag3 S.p), iaddr_sl (un35 S.p) (sz3 S.p), len_sl (un35 S.p), len_nils (un35 S.p), part_all (ag58 S.p) (sz58 S.p), part_at (ag58 S.p) (sz58 S.p), store_last (sz58 S.p), (sz58 S.p), cells_self]
  refine ends_loop (X := BxSt) ⟨0⟩ [8, 28, 29, 30, 31, 32, 33] (fun x => x.i ≤ 16) (fun x => 16 - x.i)
    (fun x e => (e.set 4 (.v (.sc (.int .i64 (((posN l : Nat) : Int) - ((sumL ((boxN l).take x.i) : Nat) : Int)))))).set 27 (.v (.sc (.int .i64 x.i)))) (fun x => h ++ [.rw 58 (arrC (boxN l))])
    (by have := S.k; show _ < K; simp only; omega) (by simp only; omega) (by simp [sumL]) rfl ?_
  rintro ⟨i⟩ hi again hag e he
  simp only at hi hag he
  simp only [↓amPre, amPost, ↓s_lit', Nat.reduceAdd, Nat.reduceSub, List.replicate, retA, resultsA, resultA, toC, toCL, Nat.reduceEqDiff] at he
  simp only [↓amPre, amPost, ↓s_lit', Nat.reduceAdd, Nat.reduceSub, List.replicate, retA, resultsA, resultA, toC, toCL, Nat.reduceEqDiff, he]
  refine ends_cond (fun hc1 => ?_) (fun hc1 => ?_)
  · simp only [decide_eq_true_eq] at hc1
    have hgt := arrC_get (b := boxN l) (k := i) (by omega)
    obtain ⟨x, hx⟩ : ∃ x, (boxN l)[i]? = some x := ⟨_, List.getElem?_eq_getElem (by omega)⟩
    have hgx : (boxN l).getD i 0 = x := by rw [List.getD_eq_getElem?_getD, hx]; rfl
    rw [hgx] at hgt
    have hs1 := sumL_take hx
    have hs2 := sumL_le (boxN l) (i + 1)
    have hki : (0 ≤ ((i : Nat) : Int) ∧ ((i : Nat) : Int) < 16) = True := by simp; omega
    simp (maxSteps := 1000000) (disch := first | omega | (simp (disch := first | omega | (simp only [arrC_len, boxN_len, arrC_fr, List.length_append, List.length_cons, List.length_nil, List.length_set]; first | done | omega)) only [arrC_len, boxN_len, arrC_fr, amSide, Int.reduceToNat, Nat.reducePow, Nat.reduceMul]; first | done | omega)) only  [↓amPre, amPost, ↓s_lit', Nat.reduceAdd, Nat.reduceSub, List.replicate, retA, resultsA, resultA, toC, toCL, Nat.reduceEqDiff, he, (ze58 S.p), eql_ag, neq_ag, (eq58 S.p), index_ag (un58 S.p) (sz3 S.p), part_sc (ag3 S.p), iaddr_sl (un35 S.p) (sz3 S.p), len_sl (un35 S.p), len_nils (un35 S.p), part_all (ag58 S.p) (sz58 S.p), part_at (ag58 S.p) (sz58 S.p), store_last (sz58 S.p), (sz58 S.p), idx_ok, hki, hgt, Int.toNat_natCast, Nat.mul_one, Nat.zero_add, wrap_i64]
    refine hag ⟨i + 1⟩ (by simp only; omega) (by simp only; omega) _ ?_
    simp only [hs1, Int.natCast_add, Int.sub_sub]
    simp (maxSteps := 1000000) (disch := first | omega | (simp (disch := first | omega | (simp only [arrC_len, boxN_len, arrC_fr, List.length_append, List.length_cons, List.length_nil, List.length_set]; first | done | omega)) only [arrC_len, boxN_len, arrC_fr, amSide, Int.reduceToNat, Nat.reducePow, Nat.reduceMul]; first | done | omega)) only [↓amPre, amPost, ↓s_lit', Nat.reduceAdd, Nat.reduceSub, List.replicate, retA, resultsA, resultA, toC, toCL, Nat.reduceEqDiff, Int.natCast_add, Int.cast_ofNat_Int, dec_t, dec_f]
  · simp only [decide_eq_false_iff_not] at hc1
    have hi16 : i = 16 := by omega
    subst hi16
    have ht : (boxN l).take 16 = boxN l := List.take_of_length_le (by omega)
    rw [ht] at *
    have h0 : ((posN l : Nat) : Int) - ((sumL (boxN l) : Nat) : Int) = 0 := by omega
    rw [h0] at *
    have heq := eqL_arr (boxN l) [1, 1, 1, 1, 1, 1, 1, 1, 1, 1, 1, 1, 1, 1, 1, 1] (by rw [hbl]; rfl) (by decide)
    simp (maxSteps := 1000000) (disch := first | omega | (simp (disch := first | omega | (simp only [arrC_len, boxN_len, arrC_fr, List.length_append, List.length_cons, List.length_nil, List.length_set]; first | done | omega)) only [arrC_len, boxN_len, arrC_fr, amSide, Int.reduceToNat, Nat.reducePow, Nat.reduceMul]; first | done | omega)) only  [↓amPre, amPost, ↓s_lit', Nat.reduceAdd, Nat.reduceSub, List.replicate, retA, resultsA, resultA, toC, toCL, Nat.reduceEqDiff, he, (ze58 S.p), eql_ag, neq_ag, (eq58 S.p), index_ag (un58 S.p) (sz3 S.p), part_sc (ag3 S.p), iaddr_sl (un35 S.p) (sz3 S.p), len_sl (un35 S.p), len_nils (un35 S.p), part_all (ag58 S.p) (sz58 S.p), part_at (ag58 S.p) (sz58 S.p), store_last (sz58 S.p), (sz58 S.p), cells_self, f37, f35, heq, beqI_t]
    exact Ends.some rfl
end Go.AM
