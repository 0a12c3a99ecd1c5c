/- Orders: as many as of all threads that step first. Conditions: none. -/
import Derived.Test.YtdokijbheholdaaIn2
import Derived.Test.YtdokijbheholdaaAmOpen2
set_option linter.unusedVariables false
set_option linter.unusedSimpArgs false
set_option maxRecDepth 100000
namespace Go.AM
open Go.Proofs
-- LENS: cells_len, ints_len
theorem ev_known {P : Program} {T : Tab} {K d : Nat} {f : FuncId} {F : List CV → Nat → List AO → Option (AV × List AO)} (hT : T.at f = some (.known F)) (xs : List CV) (lk : Nat) (h : List AO) : ev P T K (d + 1) f xs lk h = F xs lk h := by simp only [ev, hT]
theorem s21 {P : Program} {T : Tab} {K d : Nat} (S : Sd P T K) (hd : 1 ≤ d) (lk : Nat) (h : List AO) : ev P T K d 21 [] lk h = some (.v (.sc (.bool true)), h) := by
  obtain ⟨d, rfl⟩ : ∃ k, d = k + 1 := ⟨d - 1, by omega⟩
  rw [ev_known (at21 S.t)]; rfl
def cellsI (l : List Nat) : List SV := (ints l).map (SV.int .i64)
theorem cells_len (l : List Nat) : (cellsI l).length = l.length := by simp [cellsI, ints_len]
theorem cellsI_at (l : List Nat) (i : Nat) (h : i < l.length) : (cellsI l)[i]? = some (.int .i64 ((l.getD i 0 : Nat) : Int)) := by
  unfold cellsI; rw [cnt_at _ _ (by rw [ints_len]; exact h), ints_getD]
theorem cellsI_set (l : List Nat) (i x : Nat) : (cellsI l).set i (.int .i64 (x : Nat)) = cellsI (l.set i x) := by
  simp only [cellsI, ints, ← List.map_set]
theorem appB_nilsA {lk : Nat} {h : List AO} (e s b : Nat) (new : List SV) (k : AV → List AO → Res) (hn : new.isEmpty = false) (hm : new.length % s = 0) (hb : new.length / s * b ≤ 140737488355328) :
    appB e s b lk h (.v (.sc .nils)) (some new) k = k (.v (.sc (.sl h.length 0 (new.length / s) s))) (h ++ [.rw e new]) := by
  simp only [appB, hn, Bool.false_eq_true, if_false]; rw [if_pos ⟨hm, hb⟩]
theorem sumT_mono (a : Nat) (l : List Nat) {i n : Nat} (h : i ≤ n) : sumT a l i ≤ sumT a l n := by
  induction n with
  | zero => obtain rfl : i = 0 := by omega
            exact Nat.le_refl _
  | succ n ih =>
    rcases Nat.lt_or_ge i (n + 1) with h1 | h1
    · exact Nat.le_trans (ih (by omega)) (Nat.le_add_right _ _)
    · obtain rfl : i = n + 1 := by omega
      exact Nat.le_refl _
theorem s5 {P : Program} {T : Tab} {K d : Nat} (S : Sd P T K) (hd : 4 ≤ d) (q : SV) (cnt : List Int) (lk : Nat) (h : List AO) (hS : Sl h q cnt) :
    ev P T K d 5 [.sc q] lk h = some (.v (.sc (.bool true)), h) := by
  obtain ⟨d, rfl⟩ : ∃ k, d = k + 1 := ⟨d - 1, by omega⟩
  refine ev_pure (at5 S.t) rfl ?_
  unfold i5 Try.f5
  have hlen : ∀ hh, lenA P hh 35 (.v (.sc q)) = some (.v (.sc (.int .i64 (cnt.length : Int)))) := fun hh => by
    rcases hS with ⟨rfl, rfl⟩ | ⟨l, rfl, _, _⟩
    · exact len_nils (un35 S.p)
    · exact len_sl (un35 S.p) _ _ _ _
  by_cases h8 : cnt.length > 8
  · have d2 : decide ((cnt.length : Int) > 8) = true := decide_eq_true (by omega)
    simp (disch := first | omega | (simp (disch := first | omega | (simp only [cells_len, ints_len, List.length_append, List.length_cons, List.length_nil, List.length_set]; first | done | omega)) only [cells_len, ints_len, amSide, Int.reduceToNat, Nat.reducePow, Nat.reduceMul]; first | done | omega)) only  [↓amPre, amPost, ↓s_lit', Nat.reduceAdd, Nat.reduceSub, List.replicate, retA, resultsA, resultA, toC, toCL, Nat.reduceEqDiff, append_at (un35 S.p) (sz3 S.p) (by3 S.p) (ze3 S.p) (by decide) (by decide) rfl, sl_cells (sz3 S.p), iaddr_sl (un35 S.p) (sz3 S.p), len_sl (un35 S.p), len_nils (un35 S.p), part_sc (ag3 S.p), store_last (sz3 S.p), (sz3 S.p), hlen, d2, s21 S]
    exact Ends.some rfl
  have d2 : decide ((cnt.length : Int) > 8) = false := decide_eq_false (by omega)
  cases ht : totB cnt with
  | false =>
    have h22 : ∀ lk, ev P T K d 22 [.sc q] lk h = some (.tup [.sc (.int .u64 0), .sc (.int .i64 1)], h) := fun lk => (s22 S (by omega) q cnt lk h hS).1 ht
    simp (disch := first | omega | (simp (disch := first | omega | (simp only [cells_len, ints_len, List.length_append, List.length_cons, List.length_nil, List.length_set]; first | done | omega)) only [cells_len, ints_len, amSide, Int.reduceToNat, Nat.reducePow, Nat.reduceMul]; first | done | omega)) only  [↓amPre, amPost, ↓s_lit', Nat.reduceAdd, Nat.reduceSub, List.replicate, retA, resultsA, resultA, toC, toCL, Nat.reduceEqDiff, append_at (un35 S.p) (sz3 S.p) (by3 S.p) (ze3 S.p) (by decide) (by decide) rfl, sl_cells (sz3 S.p), iaddr_sl (un35 S.p) (sz3 S.p), len_sl (un35 S.p), len_nils (un35 S.p), part_sc (ag3 S.p), store_last (sz3 S.p), (sz3 S.p), hlen, d2, h22, s21 S, Int.reduceBNe, beq_self_eq_true]
    exact Ends.some rfl
  | true =>
    obtain ⟨l, rfl, l1, l8, ls⟩ := totB_nat ht
    have h22 : ∀ lk, ev P T K d 22 [.sc q] lk h = some (.tup [.sc (.int .u64 ((multi 0 l : Nat) : Int)), .sc (.int .i64 0)], h) := fun lk => (s22 S (by omega) q (ints l) lk h hS).2 l rfl ht
    obtain ⟨b, rfl, hb, hc⟩ : ∃ b, q = .sl b 0 (ints l).length 1 ∧ b < h.length ∧ cellsAt h b = some ((ints l).map (SV.int .i64)) := by
      rcases hS with ⟨_, h2⟩ | H
      · have h3 : l.length = 0 := by rw [← ints_len, h2]; rfl
        omega
      · exact H
    rw [ints_len] at *
    have hml := multi_lt l ls
    simp (disch := first | omega | (simp (disch := first | omega | (simp only [cells_len, ints_len, List.length_append, List.length_cons, List.length_nil, List.length_set]; first | done | omega)) only [cells_len, ints_len, amSide, Int.reduceToNat, Nat.reducePow, Nat.reduceMul]; first | done | omega)) only  [↓amPre, amPost, ↓s_lit', Nat.reduceAdd, Nat.reduceSub, List.replicate, retA, resultsA, resultA, toC, toCL, Nat.reduceEqDiff, append_at (un35 S.p) (sz3 S.p) (by3 S.p) (ze3 S.p) (by decide) (by decide) rfl, sl_cells (sz3 S.p), iaddr_sl (un35 S.p) (sz3 S.p), len_sl (un35 S.p), len_nils (un35 S.p), part_sc (ag3 S.p), store_last (sz3 S.p), (sz3 S.p), hlen, d2, h22, bne_self_eq_false]
    refine ends_loop (X := Nat × List AO) (0, h) [2, 7, 8, 9, 10, 30, 31, 32, 33, 34, 35, 36, 37, 38, 39, 40, 41, 42, 43, 44, 45, 46, 47, 48, 49, 50, 51, 52, 53, 54, 55, 56, 57, 58, 59, 60, 61] (fun x => x.1 ≤ l.length ∧ b < x.2.length ∧ h.length ≤ x.2.length ∧ cellsAt x.2 b = some (cellsI l)) (fun x => l.length - x.1)
      (fun x e => ((e.set 5 (.v (.sc (.int .u64 ((sumT 0 l x.1 : Nat) : Int))))).set 6 (.v (.sc (.int .i64 ((sumN (l.take x.1) : Nat) : Int))))).set 29 (.v (.sc (.int .i64 x.1)))) (fun x => x.2)
      (by have := S.k; show _ < K; simp only; omega) ⟨by simp only; omega, hb, Nat.le_refl _, hc⟩ (by simp only [List.take_zero, sumN, sumT]; rfl) rfl ?_
    rintro ⟨i, hh⟩ ⟨hi, hbb, hlk, hcc⟩ again hag e he
    simp only at hi hbb hlk hcc hag he
    simp only [↓amPre, amPost, ↓s_lit', Nat.reduceAdd, Nat.reduceSub, List.replicate, retA, resultsA, resultA, toC, toCL, Nat.reduceEqDiff] at he
    simp only [↓amPre, amPost, ↓s_lit', Nat.reduceAdd, Nat.reduceSub, List.replicate, retA, resultsA, resultA, toC, toCL, Nat.reduceEqDiff, he]
    refine ends_cond (fun hc1 => ?_) (fun hc1 => ?_)
    · simp only [decide_eq_true_eq] at hc1
      have hi' : i < l.length := by omega
      have e2 : (0 ≤ (i : Int) ∧ (i : Int) < (l.length : Int)) = True := by simp; omega
      have hca := cellsI_at l i hi'
      have hA : sumN (l.take i) + l.getD i 0 ≤ 20 := by
        have := sumN_take l (i + 1)
        rw [take_snoc l i hi', sumN_snoc] at this; omega
      have w1 : IntKind.i64.wrap (((sumN (l.take i) : Nat) : Int) + ((l.getD i 0 : Nat) : Int)) = ((sumN (l.take (i + 1)) : Nat) : Int) := by
        rw [take_snoc l i hi', sumN_snoc, wrap_i64 (by omega) (by omega)]; omega
      by_cases hz : l.getD i 0 = 0
      · have tz : sumT 0 l (i + 1) = sumT 0 l i := by show sumT 0 l i + term 0 l i = _; unfold term; rw [if_pos hz]; rfl
        have dz : ((((l.getD i 0 : Nat) : Int)) == 0) = true := by rw [hz]; rfl
        simp (disch := first | omega | (simp (disch := first | omega | (simp only [cells_len, ints_len, List.length_append, List.length_cons, List.length_nil, List.length_set]; first | done | omega)) only [cells_len, ints_len, amSide, Int.reduceToNat, Nat.reducePow, Nat.reduceMul]; first | done | omega)) only  [↓amPre, amPost, ↓s_lit', Nat.reduceAdd, Nat.reduceSub, List.replicate, retA, resultsA, resultA, toC, toCL, Nat.reduceEqDiff, he, append_at (un35 S.p) (sz3 S.p) (by3 S.p) (ze3 S.p) (by decide) (by decide) rfl, sl_cells (sz3 S.p), iaddr_sl (un35 S.p) (sz3 S.p), len_sl (un35 S.p), len_nils (un35 S.p), part_sc (ag3 S.p), store_last (sz3 S.p), (sz3 S.p), e2, hcc, hca, Int.toNat_natCast, Nat.mul_one, Nat.zero_add, w1, dz, wrap_i64]
        refine hag (i + 1, hh) ⟨by simp only; omega, hbb, hlk, hcc⟩ (by simp only; omega) _ ?_
        rw [tz]
        simp only [↓amPre, amPost, ↓s_lit', Nat.reduceAdd, Nat.reduceSub, List.replicate, retA, resultsA, resultA, toC, toCL, Nat.reduceEqDiff, Int.natCast_add, Int.cast_ofNat_Int]
      · have dz : ((((l.getD i 0 : Nat) : Int)) == 0) = false := beq_false_of_ne (by omega)
        have ti : sumT 0 l (i + 1) = sumT 0 l i + multi 0 (l.set i (l.getD i 0 - 1)) := by show sumT 0 l i + term 0 l i = _; unfold term; rw [if_neg hz]
        have hlt : sumT 0 l (i + 1) ≤ 2432902008176640000 := by
          have h1 := sumT_mono 0 l (show i + 1 ≤ l.length by omega)
          have h2 := total_law l (by have := sumN_ge l i; omega)
          omega
        have w2 : IntKind.i64.wrap (((l.getD i 0 : Nat) : Int) - 1) = ((l.getD i 0 - 1 : Nat) : Int) := by rw [wrap_i64 (by omega) (by omega)]; omega
        have w3 : IntKind.u64.wrap (((sumT 0 l i : Nat) : Int) + ((multi 0 (l.set i (l.getD i 0 - 1)) : Nat) : Int)) = ((sumT 0 l (i + 1) : Nat) : Int) := by
          rw [ti]; rw [ti] at hlt; rw [wrap_u64 (by omega) (by omega)]; omega
        have hss := sumN_set l i (l.getD i 0 - 1) hi'
        have htB : totB (ints (l.set i (l.getD i 0 - 1))) = true := nat_totB (by simpa using l1) (by simpa using l8) (by omega)
        have hl2 : (l.set i (l.getD i 0 - 1)).length = l.length := by simp
        have f22 : ∀ lk, ev P T K d 22 [.sc (.sl hh.length 0 l.length 1)] lk (hh ++ [.rw 3 (cellsI (l.set i (l.getD i 0 - 1)))]) = some (.tup [.sc (.int .u64 ((multi 0 (l.set i (l.getD i 0 - 1)) : Nat) : Int)), .sc (.int .i64 0)], hh ++ [.rw 3 (cellsI (l.set i (l.getD i 0 - 1)))]) := fun lk =>
          (s22 S (by omega) (.sl hh.length 0 l.length 1) (ints (l.set i (l.getD i 0 - 1))) lk _ (.inr ⟨hh.length, by rw [ints_len, hl2], by simp, by rw [cells_self _ _ _ rfl]; rfl⟩)).2 _ rfl htB
        have hne : (cellsI l).isEmpty = false := by
          have := cells_len l
          cases hq : cellsI l with
          | nil => rw [hq] at this; simp at this; omega
          | cons _ _ => rfl
        have htk : (cellsI l).take l.length = cellsI l := List.take_of_length_le (by rw [cells_len]; omega)
        have hset := cellsI_set l i (l.getD i 0 - 1)
        simp (disch := first | omega | (simp (disch := first | omega | (simp only [cells_len, ints_len, List.length_append, List.length_cons, List.length_nil, List.length_set]; first | done | omega)) only [cells_len, ints_len, amSide, Int.reduceToNat, Nat.reducePow, Nat.reduceMul]; first | done | omega)) only  [↓amPre, amPost, ↓s_lit', Nat.reduceAdd, Nat.reduceSub, List.replicate, retA, resultsA, resultA, toC, toCL, Nat.reduceEqDiff, he, append_at (un35 S.p) (sz3 S.p) (by3 S.p) (ze3 S.p) (by decide) (by decide) rfl, sl_cells (sz3 S.p), iaddr_sl (un35 S.p) (sz3 S.p), len_sl (un35 S.p), len_nils (un35 S.p), part_sc (ag3 S.p), store_last (sz3 S.p), (sz3 S.p), e2, hcc, hca, cells_self, cells_other, Int.toNat_natCast, Nat.mul_one, Nat.zero_add, w1, w2, w3, dz, htk, appB_nilsA, hne, cells_len, Nat.div_one, Nat.mod_one, hset, f22, bne_self_eq_false, wrap_i64]
        refine hag (i + 1, _) ⟨by simp only; omega, by simp only [List.length_append, List.length_singleton]; omega, by simp only [List.length_append, List.length_singleton]; omega, by first | exact hcc | (simp only; rw [cells_other _ _ hbb]; exact hcc)⟩ (by simp only; omega) _ ?_
        simp only [↓amPre, amPost, ↓s_lit', Nat.reduceAdd, Nat.reduceSub, List.replicate, retA, resultsA, resultA, toC, toCL, Nat.reduceEqDiff, Int.natCast_add, Int.cast_ofNat_Int]
    · simp only [decide_eq_false_iff_not] at hc1
      obtain rfl : i = l.length := by omega
      rw [List.take_length] at *
      by_cases hz : sumN l = 0
      · have dz : (((sumN l : Nat) : Int) == 0) = true := by rw [hz]; rfl
        have dm : (((multi 0 l : Nat) : Int) == 1) = true := by rw [multi_none l 0 hz]; rfl
        simp (disch := first | omega | (simp (disch := first | omega | (simp only [cells_len, ints_len, List.length_append, List.length_cons, List.length_nil, List.length_set]; first | done | omega)) only [cells_len, ints_len, amSide, Int.reduceToNat, Nat.reducePow, Nat.reduceMul]; first | done | omega)) only  [↓amPre, amPost, ↓s_lit', Nat.reduceAdd, Nat.reduceSub, List.replicate, retA, resultsA, resultA, toC, toCL, Nat.reduceEqDiff, he, append_at (un35 S.p) (sz3 S.p) (by3 S.p) (ze3 S.p) (by decide) (by decide) rfl, sl_cells (sz3 S.p), iaddr_sl (un35 S.p) (sz3 S.p), len_sl (un35 S.p), len_nils (un35 S.p), part_sc (ag3 S.p), store_last (sz3 S.p), (sz3 S.p), dz, dm, s21 S]
        exact Ends.some rfl
      · have dz : (((sumN l : Nat) : Int) == 0) = false := beq_false_of_ne (by omega)
        have dg : decide (((sumN l : Nat) : Int) > 0) = true := decide_eq_true (by omega)
        have dm : (((multi 0 l : Nat) : Int) == ((sumT 0 l l.length : Nat) : Int)) = true := by rw [← total_law l (by omega)]; simp
        simp (disch := first | omega | (simp (disch := first | omega | (simp only [cells_len, ints_len, List.length_append, List.length_cons, List.length_nil, List.length_set]; first | done | omega)) only [cells_len, ints_len, amSide, Int.reduceToNat, Nat.reducePow, Nat.reduceMul]; first | done | omega)) only  [↓amPre, amPost, ↓s_lit', Nat.reduceAdd, Nat.reduceSub, List.replicate, retA, resultsA, resultA, toC, toCL, Nat.reduceEqDiff, he, append_at (un35 S.p) (sz3 S.p) (by3 S.p) (ze3 S.p) (by decide) (by decide) rfl, sl_cells (sz3 S.p), iaddr_sl (un35 S.p) (sz3 S.p), len_sl (un35 S.p), len_nils (un35 S.p), part_sc (ag3 S.p), store_last (sz3 S.p), (sz3 S.p), dz, dg, dm, s21 S]
        exact Ends.some rfl
/-- A list of numbers out of its cell. -/
theorem list_of {h : List AO} {xs : List SV} (hf : Fits (.slice 1 (.int .i64)) h xs) : ∃ (q : SV) (cnt : List Int), Sl h q cnt ∧ xs = [q] := by
  rcases hf with hq | ⟨l, n, cs, hq, ho, hl, hm, hx⟩
  · exact ⟨_, [], .inl ⟨rfl, rfl⟩, hq⟩
  · rw [Nat.mul_one] at hl
    have hcs : cs = (cs.map fun x => match x with | .int _ v => v | _ => 0).map (SV.int .i64) := by
      apply List.ext_getElem?
      intro i
      simp only [List.getElem?_map]
      rcases Nat.lt_or_ge i cs.length with h1 | h1
      · obtain ⟨v, hv, _⟩ := hx i (by omega)
        rw [Nat.mul_one] at hv
        have h2 : cs[i]? = some (.int .i64 v) := by
          have := congrArg (fun l => l[0]?) hv
          simp only [List.getElem?_cons_zero] at this
          rw [List.getElem?_take_of_lt (by omega), List.getElem?_drop] at this
          simpa using this
        rw [h2]; rfl
      · rw [List.getElem?_eq_none h1]; rfl
    refine ⟨_, cs.map fun x => match x with | .int _ v => v | _ => 0, .inr ⟨l, ?_, (List.getElem?_eq_some_iff.1 ho).1, ?_⟩, hq⟩
    · rw [List.length_map, hl]
    · rw [cells_at_ro ho, ← hcs]
end Go.AM
