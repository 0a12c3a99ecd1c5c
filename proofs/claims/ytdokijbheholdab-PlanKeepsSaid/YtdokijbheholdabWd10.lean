/- Words: the document's older ones; the laws. Conditions: none. -/
import Derived.Test.YtdokijbheholdabWd9
set_option linter.unusedVariables false
set_option linter.unusedSimpArgs false
set_option maxRecDepth 100000
namespace Go.AM
open Go.Proofs
-- LENS: Hdr.len, Hdr.fr
theorem Hdr.set_age (x : Hdr) (n : Nat) : x.cells.set 1 (.int .u8 (n : Nat)) = ({ x with age := n } : Hdr).cells := nrfl rfl
/-- One older. -/
theorem old_hdr {w : Nat} (ho : oldOk w = true) : ∃ x y : Hdr, rdOk w = true ∧ rdH w = x ∧ x.ok ∧ (x.kind = 2 ∨ x.kind = 4) ∧ x.age < 16 ∧ x.may = true ∧ x.word = w ∧ y = { x with age := if x.age < 15 then x.age + 1 else 15 } ∧ y.ok ∧ y.may = true ∧ y.word = oldW w := by
  have h1 := ho
  unfold oldOk at h1
  simp only [Bool.and_eq_true, Bool.or_eq_true, decide_eq_true_eq] at h1
  obtain ⟨hr, hk⟩ := h1
  obtain ⟨hf, hq, hm⟩ := rd_fits hr
  have ha := fits_age hf hk
  have hlt : (if (rdH w).age < 15 then (rdH w).age + 1 else 15) < 16 := by split <;> omega
  obtain ⟨p1, p2, p3⟩ := put_word (rdH_ok w) hf hk _ hlt
  have p4 := put_may (rdH_ok w) hm hk _ hlt
  rw [hq] at p1
  exact ⟨rdH w, _, hr, rfl, rdH_ok w, hk, ha, hm, hq, rfl, p3, p4, p1⟩
theorem s25 {P : Program} {T : Tab} {K d : Nat} (S : Sd P T K) (hd : 5 ≤ d) (w : Nat) (hw : w < 18446744073709551616) (lk : Nat) (h : List AO) :
    ev P T K d 25 [.sc (.int .u64 (w : Nat))] lk h = some (.tup [.sc (.int .u64 ((oldA w : Nat) : Int)), .sc (.int .i64 (oldE w))], h) := by
  obtain ⟨d, rfl⟩ : ∃ k, d = k + 1 := ⟨d - 1, by omega⟩
  refine ev_pure (at25 S.t) rfl ?_
  unfold i25 Try.f25 oldA oldE
  cases ho : oldOk w with
  | true =>
    obtain ⟨x, y, hr, hx, xo, hk, ha, hm, hq, hy, yo, ym, yw⟩ := old_hdr ho
    have e2 : ∀ n : Int, n = x.kind → ((n != 2) && (n != 4)) = false := fun n hn => by subst hn; rcases hk with k | k <;> simp [k]
    by_cases h15 : x.age < 15
    · rw [if_pos h15] at hy
      have e1 : IntKind.u8.wrap ((x.age : Int) + 1) = ((x.age + 1 : Nat) : Int) := by rw [wrap_u8 (by omega) (by omega)]; omega
      have e3 : decide ((x.age : Int) < 15) = true := decide_eq_true (by omega)
      have e4 : x.cells.set 1 (.int .u8 ((x.age + 1 : Nat) : Int)) = y.cells := by rw [hy]; rfl
      rcases hk with k | k
      · simp (maxSteps := 1000000) (disch := first | omega | (simp (disch := first | omega | (simp only [Hdr.len, Hdr.fr, List.length_append, List.length_cons, List.length_nil, List.length_set]; first | done | omega)) only [Hdr.len, Hdr.fr, amSide, Int.reduceToNat, Nat.reducePow, Nat.reduceMul]; first | done | omega)) only  [↓amPre, amPost, ↓s_lit', Nat.reduceAdd, Nat.reduceSub, List.replicate, retA, resultsA, resultA, toC, toCL, Nat.reduceEqDiff, (ze25 S.p), (fa25_0 S.p), (fa25_1 S.p), part_all (ag25 S.p) (sz25 S.p), part_at (ag25 S.p) (sz25 S.p), part_sc (ag3 S.p), part_sc (ag5 S.p), store_last (sz25 S.p), (sz25 S.p), store_last (sz5 S.p), (sz5 S.p), cells_self, cells_other, set_self, set_other, s23 S, s17 S _ y yo, hr, hx, ym, yw, k, e1, e3, e4, zeroH_cells, Hdr.len, Hdr.c0, Hdr.c1, Int.reduceBNe, bne_self_eq_false]
        exact Ends.some rfl
      · simp (maxSteps := 1000000) (disch := first | omega | (simp (disch := first | omega | (simp only [Hdr.len, Hdr.fr, List.length_append, List.length_cons, List.length_nil, List.length_set]; first | done | omega)) only [Hdr.len, Hdr.fr, amSide, Int.reduceToNat, Nat.reducePow, Nat.reduceMul]; first | done | omega)) only  [↓amPre, amPost, ↓s_lit', Nat.reduceAdd, Nat.reduceSub, List.replicate, retA, resultsA, resultA, toC, toCL, Nat.reduceEqDiff, (ze25 S.p), (fa25_0 S.p), (fa25_1 S.p), part_all (ag25 S.p) (sz25 S.p), part_at (ag25 S.p) (sz25 S.p), part_sc (ag3 S.p), part_sc (ag5 S.p), store_last (sz25 S.p), (sz25 S.p), store_last (sz5 S.p), (sz5 S.p), cells_self, cells_other, set_self, set_other, s23 S, s17 S _ y yo, hr, hx, ym, yw, k, e1, e3, e4, zeroH_cells, Hdr.len, Hdr.c0, Hdr.c1, Int.reduceBNe, bne_self_eq_false]
        exact Ends.some rfl
    · rw [if_neg h15] at hy
      have e3 : decide ((x.age : Int) < 15) = false := decide_eq_false (by omega)
      have e5 : y = x := by rw [hy]; obtain ⟨a, b, c, d, e, f, g, i⟩ := x; simp only [Hdr.mk.injEq, true_and, and_true]; simp only at h15 ha; omega
      subst e5
      rcases hk with k | k
      · simp (maxSteps := 1000000) (disch := first | omega | (simp (disch := first | omega | (simp only [Hdr.len, Hdr.fr, List.length_append, List.length_cons, List.length_nil, List.length_set]; first | done | omega)) only [Hdr.len, Hdr.fr, amSide, Int.reduceToNat, Nat.reducePow, Nat.reduceMul]; first | done | omega)) only  [↓amPre, amPost, ↓s_lit', Nat.reduceAdd, Nat.reduceSub, List.replicate, retA, resultsA, resultA, toC, toCL, Nat.reduceEqDiff, (ze25 S.p), (fa25_0 S.p), (fa25_1 S.p), part_all (ag25 S.p) (sz25 S.p), part_at (ag25 S.p) (sz25 S.p), part_sc (ag3 S.p), part_sc (ag5 S.p), store_last (sz25 S.p), (sz25 S.p), store_last (sz5 S.p), (sz5 S.p), cells_self, cells_other, set_self, set_other, s23 S, s17 S _ y yo, hr, hx, ym, yw, k, e3, zeroH_cells, Hdr.len, Hdr.c0, Hdr.c1, Int.reduceBNe, bne_self_eq_false]
        exact Ends.some rfl
      · simp (maxSteps := 1000000) (disch := first | omega | (simp (disch := first | omega | (simp only [Hdr.len, Hdr.fr, List.length_append, List.length_cons, List.length_nil, List.length_set]; first | done | omega)) only [Hdr.len, Hdr.fr, amSide, Int.reduceToNat, Nat.reducePow, Nat.reduceMul]; first | done | omega)) only  [↓amPre, amPost, ↓s_lit', Nat.reduceAdd, Nat.reduceSub, List.replicate, retA, resultsA, resultA, toC, toCL, Nat.reduceEqDiff, (ze25 S.p), (fa25_0 S.p), (fa25_1 S.p), part_all (ag25 S.p) (sz25 S.p), part_at (ag25 S.p) (sz25 S.p), part_sc (ag3 S.p), part_sc (ag5 S.p), store_last (sz25 S.p), (sz25 S.p), store_last (sz5 S.p), (sz5 S.p), cells_self, cells_other, set_self, set_other, s23 S, s17 S _ y yo, hr, hx, ym, yw, k, e3, zeroH_cells, Hdr.len, Hdr.c0, Hdr.c1, Int.reduceBNe, bne_self_eq_false]
        exact Ends.some rfl
  | false =>
    cases hr : rdOk w with
    | false =>
      simp (maxSteps := 1000000) (disch := first | omega | (simp (disch := first | omega | (simp only [Hdr.len, Hdr.fr, List.length_append, List.length_cons, List.length_nil, List.length_set]; first | done | omega)) only [Hdr.len, Hdr.fr, amSide, Int.reduceToNat, Nat.reducePow, Nat.reduceMul]; first | done | omega)) only  [↓amPre, amPost, ↓s_lit', Nat.reduceAdd, Nat.reduceSub, List.replicate, retA, resultsA, resultA, toC, toCL, Nat.reduceEqDiff, (ze25 S.p), (fa25_0 S.p), (fa25_1 S.p), part_all (ag25 S.p) (sz25 S.p), part_at (ag25 S.p) (sz25 S.p), part_sc (ag3 S.p), part_sc (ag5 S.p), store_last (sz25 S.p), (sz25 S.p), store_last (sz5 S.p), (sz5 S.p), cells_self, cells_other, set_self, set_other, s23 S, hr, zeroH_cells, Hdr.len, Hdr.c0, Int.reduceBNe, Bool.false_eq_true]
      exact Ends.some rfl
    | true =>
      unfold oldOk at ho
      rw [hr] at ho
      simp only [Bool.true_and, Bool.or_eq_false_iff, decide_eq_false_iff_not] at ho
      generalize hx : rdH w = x at *
      have e2 : (x.kind != 2) = true := by simp [ho.1]
      have e4 : (x.kind != 4) = true := by simp [ho.2]
      simp (maxSteps := 1000000) (disch := first | omega | (simp (disch := first | omega | (simp only [Hdr.len, Hdr.fr, List.length_append, List.length_cons, List.length_nil, List.length_set]; first | done | omega)) only [Hdr.len, Hdr.fr, amSide, Int.reduceToNat, Nat.reducePow, Nat.reduceMul]; first | done | omega)) only  [↓amPre, amPost, ↓s_lit', Nat.reduceAdd, Nat.reduceSub, List.replicate, retA, resultsA, resultA, toC, toCL, Nat.reduceEqDiff, (ze25 S.p), (fa25_0 S.p), (fa25_1 S.p), part_all (ag25 S.p) (sz25 S.p), part_at (ag25 S.p) (sz25 S.p), part_sc (ag3 S.p), part_sc (ag5 S.p), store_last (sz25 S.p), (sz25 S.p), store_last (sz5 S.p), (sz5 S.p), cells_self, cells_other, set_self, set_other, s23 S, hr, hx, e2, e4, zeroH_cells, Hdr.len, Hdr.c0, Int.reduceBNe, bne_self_eq_false, Bool.false_eq_true]
      exact Ends.some rfl
theorem oldA_lt {w : Nat} (hw : w < 18446744073709551616) : oldA w < 18446744073709551616 := by
  unfold oldA oldW
  split
  · exact put_lt (by omega) hw
  · omega
theorem s7 {P : Program} {T : Tab} {K d : Nat} (S : Sd P T K) (hd : 10 ≤ d) (w : Nat) (hw : w < 18446744073709551616) (lk : Nat) (h : List AO) : ev P T K d 7 [.sc (.int .u64 (w : Nat))] lk h = some (.v (.sc (.bool true)), h) := by
  obtain ⟨d, rfl⟩ : ∃ k, d = k + 1 := ⟨d - 1, by omega⟩
  refine ev_pure (at7 S.t) rfl ?_
  unfold i7 Try.f7
  cases ho : oldOk w with
  | false =>
    have e1 : oldA w = 0 := by simp [oldA, ho]
    have e2 : (oldE w != 0) = true := by unfold oldE; rw [ho]; split <;> rfl
    simp (maxSteps := 1000000) (disch := first | omega | (simp (disch := first | omega | (simp only [Hdr.len, Hdr.fr, List.length_append, List.length_cons, List.length_nil, List.length_set]; first | done | omega)) only [Hdr.len, Hdr.fr, amSide, Int.reduceToNat, Nat.reducePow, Nat.reduceMul]; first | done | omega)) only  [↓amPre, amPost, ↓s_lit', Nat.reduceAdd, Nat.reduceSub, List.replicate, retA, resultsA, resultA, toC, toCL, Nat.reduceEqDiff, (ze30 S.p), eql_ag, neq_ag, (eq30 S.p), (fa30_1 S.p), part_all (ag30 S.p) (sz30 S.p), part_at (ag30 S.p) (sz30 S.p), part_sc (ag5 S.p), store_last (sz30 S.p), (sz30 S.p), store_last (sz5 S.p), (sz5 S.p), cells_self, cells_other, set_self, set_other, s24 S, s20 S, e1, e2, Int.cast_ofNat_Int, beq_self_eq_true]
    exact Ends.some rfl
  | true =>
    obtain ⟨x, y, hr, hx, xo, hk, ha, hm, hq, hy, yo, ym, yw⟩ := old_hdr ho
    have e1 : oldA w = y.word := by rw [yw]; simp [oldA, ho]
    have e2 : oldE w = 0 := by unfold oldE; rw [ho, hr]; rfl
    obtain ⟨r1, r2⟩ := may_rd ym
    have hyw := y.word_lt yo
    have g1 : decide ((y.age : Int) < (x.age : Int)) = false := decide_eq_false (by rw [hy]; simp only; split <;> omega)
    have g2 : decide ((y.age : Int) > 15) = false := decide_eq_false (by rw [hy]; simp only; split <;> omega)
    have g3 : y.cells.set 1 (.int .u8 (x.age : Nat)) = x.cells := by rw [hy]; rfl
    have g4 : eqL [1, 1, 1, 1, 1, 1, 1, 1] x.cells x.cells = some true := by rw [eqL_hdr]; simp
    simp (maxSteps := 1000000) (disch := first | omega | (simp (disch := first | omega | (simp only [Hdr.len, Hdr.fr, List.length_append, List.length_cons, List.length_nil, List.length_set]; first | done | omega)) only [Hdr.len, Hdr.fr, amSide, Int.reduceToNat, Nat.reducePow, Nat.reduceMul]; first | done | omega)) only  [↓amPre, amPost, ↓s_lit', Nat.reduceAdd, Nat.reduceSub, List.replicate, retA, resultsA, resultA, toC, toCL, Nat.reduceEqDiff, (ze30 S.p), eql_ag, neq_ag, (eq30 S.p), (fa30_1 S.p), part_all (ag30 S.p) (sz30 S.p), part_at (ag30 S.p) (sz30 S.p), part_sc (ag5 S.p), store_last (sz30 S.p), (sz30 S.p), store_last (sz5 S.p), (sz5 S.p), cells_self, cells_other, set_self, set_other, s24 S, s20 S, s21 S, e1, e2, hr, hx, r1, r2, g1, g2, g3, g4, zeroH_cells, Hdr.len, Hdr.c0, Hdr.c1, Int.reduceBNe, bne_self_eq_false]
    exact Ends.some rfl
theorem s3 {P : Program} {T : Tab} {K d : Nat} (S : Sd P T K) (hd : 10 ≤ d) (x : Hdr) (hx : x.ok) (lk : Nat) (h : List AO) : ev P T K d 3 [.ag x.cells] lk h = some (.v (.sc (.bool true)), h) := by
  obtain ⟨d, rfl⟩ : ∃ k, d = k + 1 := ⟨d - 1, by omega⟩
  refine ev_pure (at3 S.t) rfl ?_
  unfold i3 Try.f3
  have hr := mayR_eq x hx
  simp (maxSteps := 1000000) (disch := first | omega | (simp (disch := first | omega | (simp only [Hdr.len, Hdr.fr, List.length_append, List.length_cons, List.length_nil, List.length_set]; first | done | omega)) only [Hdr.len, Hdr.fr, amSide, Int.reduceToNat, Nat.reducePow, Nat.reduceMul]; first | done | omega)) only  [↓amPre, amPost, ↓s_lit', Nat.reduceAdd, Nat.reduceSub, List.replicate, retA, resultsA, resultA, toC, toCL, Nat.reduceEqDiff, eql_bool (un4 S.p), neq_bool (un4 S.p), part_all (ag25 S.p) (sz25 S.p), part_at (ag25 S.p) (sz25 S.p), cells_self, cells_other, set_self, set_other, s16 S, s15 S _ x hx, s17 S _ x hx, s18 S _ x hx, s19 S, s20 S, hr, beq_self_eq_true, Hdr.len]
  exact Ends.some rfl
theorem s6 {P : Program} {T : Tab} {K d : Nat} (S : Sd P T K) (hd : 10 ≤ d) (w : Nat) (hw : w < 18446744073709551616) (lk : Nat) (h : List AO) : ev P T K d 6 [.sc (.int .u64 (w : Nat))] lk h = some (.v (.sc (.bool true)), h) := by
  obtain ⟨d, rfl⟩ : ∃ k, d = k + 1 := ⟨d - 1, by omega⟩
  refine ev_pure (at6 S.t) rfl ?_
  unfold i6 Try.f6
  have g4 : eqL [1, 1, 1, 1, 1, 1, 1, 1] (rdH w).cells (rdH w).cells = some true := by rw [eqL_hdr]; simp
  simp (maxSteps := 1000000) (disch := first | omega | (simp (disch := first | omega | (simp only [Hdr.len, Hdr.fr, List.length_append, List.length_cons, List.length_nil, List.length_set]; first | done | omega)) only [Hdr.len, Hdr.fr, amSide, Int.reduceToNat, Nat.reducePow, Nat.reduceMul]; first | done | omega)) only  [↓amPre, amPost, ↓s_lit', Nat.reduceAdd, Nat.reduceSub, List.replicate, retA, resultsA, resultA, toC, toCL, Nat.reduceEqDiff, (ze25 S.p), (ze30 S.p), eql_ag, neq_ag, (eq25 S.p), (fa25_0 S.p), part_all (ag25 S.p) (sz25 S.p), part_at (ag25 S.p) (sz25 S.p), part_sc (ag3 S.p), part_all (ag30 S.p) (sz30 S.p), part_at (ag30 S.p) (sz30 S.p), store_last (sz25 S.p), (sz25 S.p), store_last (sz30 S.p), (sz30 S.p), cells_self, cells_other, set_self, set_other, s21 S, s22 S, s23 S, s24 S, s25 S, s26 S, s20 S, g4, beq_self_eq_true, zeroH_cells, Hdr.len, Hdr.c0]
  exact Ends.some rfl
end Go.AM
