/- Orders: how many counts have. Conditions: none. -/
import Derived.Test.YtdokijbheholdaaIn1
set_option linter.unusedVariables false
set_option linter.unusedSimpArgs false
set_option maxRecDepth 100000
namespace Go.AM
open Go.Proofs
def ints (l : List Nat) : List Int := l.map fun n : Nat => (n : Int)
theorem ints_len (l : List Nat) : (ints l).length = l.length := by simp [ints]
theorem ints_getD (l : List Nat) (i : Nat) : (ints l).getD i 0 = ((l.getD i 0 : Nat) : Int) := by
  simp only [ints, List.getD_eq_getElem?_getD, List.getElem?_map]
  cases l[i]? <;> simp
theorem ints_sum : ∀ l : List Nat, (ints l).sum = ((sumN l : Nat) : Int)
  | [] => rfl
  | c :: l => by
    have := ints_sum l
    simp only [ints, List.map_cons, List.sum_cons, sumN] at this ⊢
    omega
theorem wrapU (n : Nat) (h : n < 18446744073709551616) : IntKind.u64.wrap (n : Int) = (n : Int) := wrap_u64 (by omega) (by omega)
theorem s46 {P : Program} {T : Tab} {K d : Nat} (S : Sd P T K) (hd : 1 ≤ d) (q : SV) (l : List Nat) (hl : l.length ≤ 8) (hs : sumN l ≤ 20) (lk : Nat) (h : List AO) (hS : Sl h q (ints l)) :
    ev P T K d 46 [.sc q] lk h = some (.v (.sc (.int .u64 ((multi 0 l : Nat) : Int))), h) := by
  obtain ⟨d, rfl⟩ : ∃ k, d = k + 1 := ⟨d - 1, by omega⟩
  refine ev_pure (at46 S.t) rfl ?_
  unfold i46 Try.f46
  have hlen : ∀ hh, lenA P hh 35 (.v (.sc q)) = some (.v (.sc (.int .i64 (l.length : Int)))) := fun hh => by
    rw [← ints_len]
    rcases hS with ⟨rfl, h2⟩ | ⟨b, rfl, _, _⟩
    · rw [h2]; exact len_nils (un35 S.p)
    · exact len_sl (un35 S.p) _ _ _ _
  simp (disch := first | omega | (simp (disch := first | omega | (simp only [List.length_append, List.length_cons, List.length_nil, List.length_set]; first | done | omega)) only [amSide, Int.reduceToNat, Nat.reducePow, Nat.reduceMul]; first | done | omega)) only  [↓amPre, amPost, ↓s_lit', Nat.reduceAdd, Nat.reduceSub, List.replicate, retA, resultsA, resultA, toC, toCL, Nat.reduceEqDiff, conv_int (un3 S.p) (un36 S.p), iaddr_sl (un35 S.p) (sz3 S.p), len_sl (un35 S.p), len_nils (un35 S.p), part_sc (ag3 S.p), hlen]
  refine ends_loop (X := Nat) 0 [6, 7, 11, 12, 13, 14, 15, 16, 17, 18, 19, 20, 21, 22, 23, 24, 25, 26, 27, 28] (fun i => i ≤ l.length) (fun i => l.length - i) (fun i e => ((e.set 3 (.v (.sc (.int .u64 ((multi 0 (l.take i) : Nat) : Int))))).set 4 (.v (.sc (.int .u64 ((sumN (l.take i) : Nat) : Int))))).set 10 (.v (.sc (.int .i64 i)))) (fun _ => h)
    (by have := S.k; show _ < K; omega) (by omega) (by simp only [List.take_zero, multi, sumN]; rfl) rfl ?_
  rintro i hi again hag e he
  simp only [↓amPre, amPost, ↓s_lit', Nat.reduceAdd, Nat.reduceSub, List.replicate, retA, resultsA, resultA, toC, toCL, Nat.reduceEqDiff] at he
  simp only [↓amPre, amPost, ↓s_lit', Nat.reduceAdd, Nat.reduceSub, List.replicate, retA, resultsA, resultA, toC, toCL, Nat.reduceEqDiff, he]
  refine ends_cond (fun hc1 => ?_) (fun hc1 => ?_)
  · simp only [decide_eq_true_eq] at hc1
    have hi' : i < l.length := by omega
    obtain ⟨b, rfl, hb, hc⟩ : ∃ b, q = .sl b 0 (ints l).length 1 ∧ b < h.length ∧ cellsAt h b = some ((ints l).map (SV.int .i64)) := by
      rcases hS with ⟨_, h2⟩ | H
      · have h3 : l.length = 0 := by rw [← ints_len, h2]; rfl
        omega
      · exact H
    have e2 : (0 ≤ (i : Int) ∧ (i : Int) < (((ints l).length : Nat) : Int)) = True := by rw [ints_len]; simp; omega
    have hca : ((ints l).map (SV.int .i64))[i]? = some (.int .i64 ((l.getD i 0 : Nat) : Int)) := by rw [cnt_at _ _ (by rw [ints_len]; exact hi'), ints_getD]
    have hA : sumN (l.take i) + l.getD i 0 ≤ 20 := by
      have := sumN_take l (i + 1)
      rw [take_snoc l i hi', sumN_snoc] at this; omega
    have hM := multi_le_fac (l.take i)
    have m1 : multi 0 (l.take (i + 1)) = multi 0 (l.take i) * ch (sumN (l.take i) + l.getD i 0) (l.getD i 0) := by rw [take_snoc l i hi', multi_snoc, Nat.zero_add]
    have m2 : sumN (l.take (i + 1)) = sumN (l.take i) + l.getD i 0 := by rw [take_snoc l i hi', sumN_snoc]
    generalize multi 0 (l.take i) = M at *
    generalize sumN (l.take i) = A at *
    generalize hcv : l.getD i 0 = c at *
    simp (disch := first | omega | (simp (disch := first | omega | (simp only [List.length_append, List.length_cons, List.length_nil, List.length_set]; first | done | omega)) only [amSide, Int.reduceToNat, Nat.reducePow, Nat.reduceMul]; first | done | omega)) only  [↓amPre, amPost, ↓s_lit', Nat.reduceAdd, Nat.reduceSub, List.replicate, retA, resultsA, resultA, toC, toCL, Nat.reduceEqDiff, he, conv_int (un3 S.p) (un36 S.p), iaddr_sl (un35 S.p) (sz3 S.p), len_sl (un35 S.p), len_nils (un35 S.p), part_sc (ag3 S.p), e2, hc, hca, Int.toNat_natCast, Nat.mul_one, Nat.zero_add]
    refine ends_loop (X := Nat) 0 [7, 16, 17, 18, 19, 20, 21, 22, 23, 24, 25, 26, 27] (fun j => j ≤ c) (fun j => c - j) (fun j e => ((e.set 3 (.v (.sc (.int .u64 ((M * ch (A + j) j : Nat) : Int))))).set 4 (.v (.sc (.int .u64 ((A + j : Nat) : Int))))).set 15 (.v (.sc (.int .i64 j)))) (fun _ => h)
      (by have := S.k; show _ < K; omega) (by omega) (by simp only [ch_zero, Nat.mul_one, Nat.add_zero]; rfl) rfl ?_
    rintro j hj again2 hag2 e2 he2
    simp only [↓amPre, amPost, ↓s_lit', Nat.reduceAdd, Nat.reduceSub, List.replicate, retA, resultsA, resultA, toC, toCL, Nat.reduceEqDiff] at he2
    simp only [↓amPre, amPost, ↓s_lit', Nat.reduceAdd, Nat.reduceSub, List.replicate, retA, resultsA, resultA, toC, toCL, Nat.reduceEqDiff, he2]
    refine ends_cond (fun hc2 => ?_) (fun hc2 => ?_)
    · simp only [decide_eq_true_eq] at hc2
      have hjc : j < c := by omega
      have hb := step_le hM (j := j) (by omega)
      have hdv := step_div M A j
      have w1 : IntKind.u64.wrap (((A + j : Nat) : Int) + 1) = ((A + (j + 1) : Nat) : Int) := by rw [wrap_u64 (by omega) (by omega)]; omega
      have w2 : IntKind.u64.wrap (((M * ch (A + j) j : Nat) : Int) * ((A + (j + 1) : Nat) : Int)) = ((M * ch (A + j) j * (A + (j + 1)) : Nat) : Int) := by rw [← Int.natCast_mul]; exact wrapU _ (by omega)
      have w3 : IntKind.i64.wrap ((j : Int) + 1) = ((j + 1 : Nat) : Int) := by rw [wrap_i64 (by omega) (by omega)]; omega
      have w4 : IntKind.u64.wrap ((j + 1 : Nat) : Int) = ((j + 1 : Nat) : Int) := wrapU _ (by omega)
      have w5 : (((j + 1 : Nat) : Int) = 0) = False := by simp only [eq_iff_iff, iff_false]; omega
      have w6 : IntKind.u64.wrap ((((M * ch (A + j) j * (A + (j + 1)) : Nat) : Int)).tdiv ((j + 1 : Nat) : Int)) = ((M * ch (A + (j + 1)) (j + 1) : Nat) : Int) := by
        rw [← Int.ofNat_tdiv, hdv]
        exact wrapU _ (by rw [← hdv]; exact Nat.lt_of_le_of_lt (Nat.div_le_self _ _) (by omega))
      simp (disch := first | omega | (simp (disch := first | omega | (simp only [List.length_append, List.length_cons, List.length_nil, List.length_set]; first | done | omega)) only [amSide, Int.reduceToNat, Nat.reducePow, Nat.reduceMul]; first | done | omega)) only  [↓amPre, amPost, ↓s_lit', Nat.reduceAdd, Nat.reduceSub, List.replicate, retA, resultsA, resultA, toC, toCL, Nat.reduceEqDiff, he2, conv_int (un3 S.p) (un36 S.p), iaddr_sl (un35 S.p) (sz3 S.p), len_sl (un35 S.p), len_nils (un35 S.p), part_sc (ag3 S.p), w1, w2, w3, w4, w5, w6]
      refine hag2 (j + 1) (by omega) (by omega) _ ?_
      simp only [↓amPre, amPost, ↓s_lit', Nat.reduceAdd, Nat.reduceSub, List.replicate, retA, resultsA, resultA, toC, toCL, Nat.reduceEqDiff]
    · simp only [decide_eq_false_iff_not] at hc2
      obtain rfl : j = c := by omega
      simp (disch := first | omega | (simp (disch := first | omega | (simp only [List.length_append, List.length_cons, List.length_nil, List.length_set]; first | done | omega)) only [amSide, Int.reduceToNat, Nat.reducePow, Nat.reduceMul]; first | done | omega)) only  [↓amPre, amPost, ↓s_lit', Nat.reduceAdd, Nat.reduceSub, List.replicate, retA, resultsA, resultA, toC, toCL, Nat.reduceEqDiff, he2, conv_int (un3 S.p) (un36 S.p), iaddr_sl (un35 S.p) (sz3 S.p), len_sl (un35 S.p), len_nils (un35 S.p), part_sc (ag3 S.p), wrap_i64]
      refine hag (i + 1) (by omega) (by omega) _ ?_
      rw [m1, m2]
      simp only [↓amPre, amPost, ↓s_lit', Nat.reduceAdd, Nat.reduceSub, List.replicate, retA, resultsA, resultA, toC, toCL, Nat.reduceEqDiff, Int.natCast_add, Int.cast_ofNat_Int]
  · simp only [decide_eq_false_iff_not] at hc1
    obtain rfl : i = l.length := by omega
    rw [List.take_length]
    simp (disch := first | omega | (simp (disch := first | omega | (simp only [List.length_append, List.length_cons, List.length_nil, List.length_set]; first | done | omega)) only [amSide, Int.reduceToNat, Nat.reducePow, Nat.reduceMul]; first | done | omega)) only  [↓amPre, amPost, ↓s_lit', Nat.reduceAdd, Nat.reduceSub, List.replicate, retA, resultsA, resultA, toC, toCL, Nat.reduceEqDiff, he, conv_int (un3 S.p) (un36 S.p), iaddr_sl (un35 S.p) (sz3 S.p), len_sl (un35 S.p), len_nils (un35 S.p), part_sc (ag3 S.p)]
    exact Ends.some rfl
theorem nat_of : ∀ (cnt : List Int), (∀ c ∈ cnt, 0 ≤ c) → ∃ l : List Nat, cnt = ints l
  | [], _ => ⟨[], rfl⟩
  | c :: cnt, h => by
    obtain ⟨l, rfl⟩ := nat_of cnt fun x hx => h x (List.mem_cons_of_mem _ hx)
    obtain ⟨n, rfl⟩ := Int.eq_ofNat_of_zero_le (h c List.mem_cons_self)
    exact ⟨n :: l, rfl⟩
theorem totB_nat {cnt : List Int} (h : totB cnt = true) : ∃ l : List Nat, cnt = ints l ∧ 1 ≤ l.length ∧ l.length ≤ 8 ∧ sumN l ≤ 20 := by
  unfold totB totOk at h
  simp only [Bool.and_eq_true, decide_eq_true_eq, List.all_eq_true] at h
  obtain ⟨⟨⟨h1, h2⟩, h3⟩, h4⟩ := h
  obtain ⟨l, rfl⟩ := nat_of cnt fun c hc => (h3 c hc).1
  rw [ints_len] at h1 h2
  rw [ints_sum] at h4
  exact ⟨l, rfl, h1, h2, by omega⟩
theorem nat_totB {l : List Nat} (h1 : 1 ≤ l.length) (h2 : l.length ≤ 8) (h3 : sumN l ≤ 20) : totB (ints l) = true := by
  unfold totB totOk
  simp only [Bool.and_eq_true, decide_eq_true_eq, List.all_eq_true]
  refine ⟨⟨⟨by rw [ints_len]; exact h1, by rw [ints_len]; exact h2⟩, fun c hc => ?_⟩, by rw [ints_sum]; omega⟩
  obtain ⟨i, hi, rfl⟩ := List.getElem_of_mem hc
  have := sumN_ge l i
  have e : (ints l)[i] = ((l.getD i 0 : Nat) : Int) := by
    rw [← ints_getD, List.getD_eq_getElem?_getD, List.getElem?_eq_getElem hi]; rfl
  rw [e]; omega
theorem s22 {P : Program} {T : Tab} {K d : Nat} (S : Sd P T K) (hd : 2 ≤ d) (q : SV) (cnt : List Int) (lk : Nat) (h : List AO) (hS : Sl h q cnt) :
    (totB cnt = false → ev P T K d 22 [.sc q] lk h = some (.tup [.sc (.int .u64 0), .sc (.int .i64 1)], h)) ∧
    (∀ l, cnt = ints l → totB cnt = true → ev P T K d 22 [.sc q] lk h = some (.tup [.sc (.int .u64 ((multi 0 l : Nat) : Int)), .sc (.int .i64 0)], h)) := by
  obtain ⟨d, rfl⟩ : ∃ k, d = k + 1 := ⟨d - 1, by omega⟩
  have h45 : ∀ lk, ev P T K d 45 [.sc q] lk h = some (.tup [.sc (.int .i64 (totN cnt)), .sc (.bool (totB cnt))], h) := fun lk => s45 S (by omega) q cnt lk h hS
  constructor
  · intro ht
    refine ev_pure (at22 S.t) rfl ?_
    unfold i22 Try.f22
    simp (disch := first | omega | (simp (disch := first | omega | (simp only [List.length_append, List.length_cons, List.length_nil, List.length_set]; first | done | omega)) only [amSide, Int.reduceToNat, Nat.reducePow, Nat.reduceMul]; first | done | omega)) only  [↓amPre, amPost, ↓s_lit', Nat.reduceAdd, Nat.reduceSub, List.replicate, retA, resultsA, resultA, toC, toCL, Nat.reduceEqDiff, if_true, h45, ht]
    exact Ends.some rfl
  · rintro l rfl ht
    obtain ⟨l', e, h1, h2, h3⟩ := totB_nat ht
    have hll : l = l' := by
      have inj : ∀ (a b : List Nat), ints a = ints b → a = b := by
        intro a
        induction a with
        | nil => intro b hb; cases b with
          | nil => rfl
          | cons _ _ => simp [ints] at hb
        | cons x a ih => intro b hb; cases b with
          | nil => simp [ints] at hb
          | cons y b =>
            simp only [ints, List.map_cons, List.cons.injEq] at hb
            rw [ih b hb.2]
            congr 1
            omega
      exact inj _ _ e
    subst hll
    have h46 : ∀ lk, ev P T K d 46 [.sc q] lk h = some (.v (.sc (.int .u64 ((multi 0 l : Nat) : Int))), h) := fun lk => s46 S (by omega) q l h2 h3 lk h hS
    refine ev_pure (at22 S.t) rfl ?_
    unfold i22 Try.f22
    simp (disch := first | omega | (simp (disch := first | omega | (simp only [List.length_append, List.length_cons, List.length_nil, List.length_set]; first | done | omega)) only [amSide, Int.reduceToNat, Nat.reducePow, Nat.reduceMul]; first | done | omega)) only  [↓amPre, amPost, ↓s_lit', Nat.reduceAdd, Nat.reduceSub, List.replicate, retA, resultsA, resultA, toC, toCL, Nat.reduceEqDiff, if_true, h45, h46, ht]
    exact Ends.some rfl
end Go.AM
