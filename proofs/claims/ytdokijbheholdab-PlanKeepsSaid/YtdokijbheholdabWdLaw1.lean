/- Words: the laws on what is coded and read. Conditions: none. -/
import Derived.Test.YtdokijbheholdabWd5
set_option linter.unusedVariables false
set_option linter.unusedSimpArgs false
set_option maxRecDepth 100000
namespace Go.AM
open Go.Proofs
-- LENS: Hdr.len, Hdr.fr
theorem s22 {P : Program} {T : Tab} {K d : Nat} (S : Sd P T K) (hd : 8 ≤ d) (w : Nat) (hw : w < 18446744073709551616) (lk : Nat) (h : List AO) : ev P T K d 22 [.sc (.int .u64 (w : Nat))] lk h = some (.v (.sc (.int .i64 (rdH w).kind)), h) := by
  obtain ⟨d, rfl⟩ : ∃ k, d = k + 1 := ⟨d - 1, by omega⟩
  refine ev_pure (at22 S.t) rfl ?_
  unfold i22 Try.f22
  simp (maxSteps := 1000000) (disch := first | omega | (simp (disch := first | omega | (simp only [Hdr.len, Hdr.fr, List.length_append, List.length_cons, List.length_nil, List.length_set]; first | done | omega)) only [Hdr.len, Hdr.fr, amSide, Int.reduceToNat, Nat.reducePow, Nat.reduceMul]; first | done | omega)) only  [↓amPre, amPost, ↓s_lit', Nat.reduceAdd, Nat.reduceSub, List.replicate, retA, resultsA, resultA, toC, toCL, Nat.reduceEqDiff, (ze30 S.p), (fa30_0 S.p), part_sc (ag3 S.p), store_last (sz30 S.p), (sz30 S.p), cells_self, cells_other, set_self, set_other, Hdr.c0, zeroH_cells, s21 S]
  exact Ends.some rfl
theorem s20 {P : Program} {T : Tab} {K d : Nat} (S : Sd P T K) (hd : 9 ≤ d) (lk : Nat) (h : List AO) : ev P T K d 20 [] lk h = some (.v (.sc (.bool true)), h) := by
  obtain ⟨d, rfl⟩ : ∃ k, d = k + 1 := ⟨d - 1, by omega⟩
  refine ev_pure (at20 S.t) rfl ?_
  unfold i20 Try.f20
  have a1 : ∀ lk h, ev P T K d 15 [.ag [.int .i64 2, .int .u8 0, .int .u8 0, .int .u32 0, .int .u16 0, .int .u16 0, .int .u16 0, .int .u32 0]] lk h = some (.tup [.sc (.int .u64 1), .sc (.int .i64 0)], h) := fun lk h =>
    s15 S (by omega) ⟨2, 0, 0, 0, 0, 0, 0, 0⟩ (by simp [Hdr.ok]) lk h
  have a2 : ∀ lk h, ev P T K d 15 [.ag [.int .i64 1, .int .u8 0, .int .u8 0, .int .u32 0, .int .u16 1, .int .u16 0, .int .u16 0, .int .u32 0]] lk h = some (.tup [.sc (.int .u64 16777216), .sc (.int .i64 0)], h) := fun lk h =>
    s15 S (by omega) ⟨1, 0, 0, 0, 1, 0, 0, 0⟩ (by simp [Hdr.ok]) lk h
  have a3 : ∀ lk h, ev P T K d 22 [.sc (.int .u64 0)] lk h = some (.v (.sc (.int .i64 5)), h) := fun lk h => s22 S (by omega) 0 (by omega) lk h
  simp (maxSteps := 1000000) (disch := first | omega | (simp (disch := first | omega | (simp only [Hdr.len, Hdr.fr, List.length_append, List.length_cons, List.length_nil, List.length_set]; first | done | omega)) only [Hdr.len, Hdr.fr, amSide, Int.reduceToNat, Nat.reducePow, Nat.reduceMul]; first | done | omega)) only  [↓amPre, amPost, ↓s_lit', Nat.reduceAdd, Nat.reduceSub, List.replicate, retA, resultsA, resultA, toC, toCL, Nat.reduceEqDiff, (bu30 S.p), splice_def, cells_self, cells_other, set_self, set_other, a1, a2, a3, beq_self_eq_true]
  exact Ends.some rfl
theorem takeH_kind (k : Int) (w : Nat) : (takeH k w).kind = k := by
  unfold takeH
  repeat' split
  all_goals simp_all
theorem s5 {P : Program} {T : Tab} {K d : Nat} (S : Sd P T K) (hd : 10 ≤ d) (w : Nat) (hw : w < 18446744073709551616) (lk : Nat) (h : List AO) : ev P T K d 5 [.sc (.int .u64 (w : Nat))] lk h = some (.v (.sc (.bool true)), h) := by
  obtain ⟨d, rfl⟩ : ∃ k, d = k + 1 := ⟨d - 1, by omega⟩
  refine ev_pure (at5 S.t) rfl ?_
  unfold i5 Try.f5
  cases hr : rdOk w with
  | false =>
    have e1 : rdH w = zeroH := by simp [rdH, hr]
    have e2 : eqL [1, 1, 1, 1, 1, 1, 1, 1] zeroH.cells zeroH.cells = some true := by rw [eqL_hdr]; simp
    rw [zeroH_cells] at e2
    have e3 : zeroH.kind = 0 := rfl
    simp (maxSteps := 1000000) (disch := first | omega | (simp (disch := first | omega | (simp only [Hdr.len, Hdr.fr, List.length_append, List.length_cons, List.length_nil, List.length_set]; first | done | omega)) only [Hdr.len, Hdr.fr, amSide, Int.reduceToNat, Nat.reducePow, Nat.reduceMul]; first | done | omega)) only  [↓amPre, amPost, ↓s_lit', Nat.reduceAdd, Nat.reduceSub, List.replicate, retA, resultsA, resultA, toC, toCL, Nat.reduceEqDiff, (ze30 S.p), eql_ag, neq_ag, (eq30 S.p), (bu30 S.p), part_all (ag30 S.p) (sz30 S.p), part_at (ag30 S.p) (sz30 S.p), store_last (sz30 S.p), (sz30 S.p), splice_def, cells_self, cells_other, set_self, set_other, zeroH_cells, s21 S, s22 S, s20 S, e1, e2, e3, hr, Int.reduceBNe, beq_self_eq_true, Bool.false_eq_true]
    exact Ends.some rfl
  | true =>
    have e1 : rdH w = takeH (kindW w) w := by simp [rdH, hr]
    have ho := takeH_ok (kindW w) w
    have hm : (takeH (kindW w) w).may = true ∧ (takeH (kindW w) w).word = w := by
      unfold rdOk at hr
      simp only [Bool.and_eq_true, decide_eq_true_eq] at hr
      refine ⟨?_, hr.2⟩
      unfold Hdr.may
      rw [hr.1, takeH_kind, hr.2]; simp
    generalize hx : takeH (kindW w) w = x at *
    simp (maxSteps := 1000000) (disch := first | omega | (simp (disch := first | omega | (simp only [Hdr.len, Hdr.fr, List.length_append, List.length_cons, List.length_nil, List.length_set]; first | done | omega)) only [Hdr.len, Hdr.fr, amSide, Int.reduceToNat, Nat.reducePow, Nat.reduceMul]; first | done | omega)) only  [↓amPre, amPost, ↓s_lit', Nat.reduceAdd, Nat.reduceSub, List.replicate, retA, resultsA, resultA, toC, toCL, Nat.reduceEqDiff, (ze30 S.p), eql_ag, neq_ag, (eq30 S.p), (bu30 S.p), part_all (ag30 S.p) (sz30 S.p), part_at (ag30 S.p) (sz30 S.p), store_last (sz30 S.p), (sz30 S.p), cells_self, cells_other, set_self, set_other, zeroH_cells, s21 S, s15 S _ x ho, s18 S _ x ho, s20 S, e1, hm, hr, Int.reduceBNe, beq_self_eq_true, bne_self_eq_false, Hdr.len]
    exact Ends.some rfl
end Go.AM
