/- Words: what is coded is read. Conditions: none. -/
import Derived.Test.YtdokijbheholdabWdLaw1
set_option linter.unusedVariables false
set_option linter.unusedSimpArgs false
set_option maxRecDepth 100000
namespace Go.AM
open Go.Proofs
-- LENS: Hdr.len, Hdr.fr
theorem s16 {P : Program} {T : Tab} {K d : Nat} (S : Sd P T K) (hd : 1 ≤ d) (x : Hdr) (lk : Nat) (h : List AO) : ev P T K d 16 [.ag x.cells] lk h = some (.v (.ag x.cells), h) := by
  obtain ⟨d, rfl⟩ : ∃ k, d = k + 1 := ⟨d - 1, by omega⟩
  refine ev_pure (at16 S.t) (by simp only [freeA, freeC, Hdr.cells, freeL, freeS, Option.bind_some, Option.map_some, Option.isSome_some]) ?_
  unfold i16 Try.f16
  simp (maxSteps := 1000000) (disch := first | omega | (simp (disch := first | omega | (simp only [Hdr.len, Hdr.fr, List.length_append, List.length_cons, List.length_nil, List.length_set]; first | done | omega)) only [Hdr.len, Hdr.fr, amSide, Int.reduceToNat, Nat.reducePow, Nat.reduceMul]; first | done | omega)) only  [↓amPre, amPost, ↓s_lit', Nat.reduceAdd, Nat.reduceSub, List.replicate, retA, resultsA, resultA, toC, toCL, Nat.reduceEqDiff, (ze30 S.p), (bu30 S.p), (fa25_0 S.p), (fa25_1 S.p), (fa25_2 S.p), (fa25_3 S.p), (fa25_4 S.p), (fa25_5 S.p), (fa25_6 S.p), (fa25_7 S.p), part_sc (ag22 S.p), part_sc (ag23 S.p), part_sc (ag3 S.p), part_all (ag30 S.p) (sz30 S.p), part_at (ag30 S.p) (sz30 S.p), part_sc (ag5 S.p), store_last (sz30 S.p), (sz30 S.p), splice_def, cells_self, cells_other, set_self, set_other, Hdr.c0, Hdr.c1, Hdr.c2, Hdr.c3, Hdr.c4, Hdr.c5, Hdr.c6, Hdr.c7]
  exact Ends.some rfl
theorem s26 {P : Program} {T : Tab} {K d : Nat} (S : Sd P T K) (hd : 1 ≤ d) (x : Hdr) (lk : Nat) (h : List AO) : ev P T K d 26 [.ag x.cells] lk h = some (.v (.ag x.cells), h) := by
  obtain ⟨d, rfl⟩ : ∃ k, d = k + 1 := ⟨d - 1, by omega⟩
  refine ev_pure (at26 S.t) (by simp only [freeA, freeC, Hdr.cells, freeL, freeS, Option.bind_some, Option.map_some, Option.isSome_some]) ?_
  unfold i26 Try.f26
  simp (maxSteps := 1000000) (disch := first | omega | (simp (disch := first | omega | (simp only [Hdr.len, Hdr.fr, List.length_append, List.length_cons, List.length_nil, List.length_set]; first | done | omega)) only [Hdr.len, Hdr.fr, amSide, Int.reduceToNat, Nat.reducePow, Nat.reduceMul]; first | done | omega)) only  [↓amPre, amPost, ↓s_lit', Nat.reduceAdd, Nat.reduceSub, List.replicate, retA, resultsA, resultA, toC, toCL, Nat.reduceEqDiff, (ze25 S.p), (bu25 S.p), (fa30_0 S.p), (fa30_1 S.p), (fa30_2 S.p), (fa30_3 S.p), (fa30_4 S.p), (fa30_5 S.p), (fa30_6 S.p), (fa30_7 S.p), part_sc (ag22 S.p), part_sc (ag23 S.p), part_all (ag25 S.p) (sz25 S.p), part_at (ag25 S.p) (sz25 S.p), part_sc (ag3 S.p), part_sc (ag5 S.p), store_last (sz25 S.p), (sz25 S.p), splice_def, cells_self, cells_other, set_self, set_other, Hdr.c0, Hdr.c1, Hdr.c2, Hdr.c3, Hdr.c4, Hdr.c5, Hdr.c6, Hdr.c7]
  exact Ends.some rfl
theorem may_kind {x : Hdr} (h : x.may = true) : kindW x.word = x.kind := by
  unfold Hdr.may at h
  simp only [Bool.and_eq_true] at h
  have hf := h.1
  unfold Hdr.word kindW
  rw [if_pos hf]
  unfold Hdr.fits at hf
  by_cases k1 : x.kind = 1
  · simp only [k1, if_true, decide_eq_true_eq, ne_eq] at hf ⊢
    rw [if_pos (by omega), if_neg (by omega)]
  by_cases k2 : x.kind = 2
  · simp only [k2, if_true, Int.reduceEq, if_false]
    rw [if_neg (by omega), if_pos (by omega)]
  by_cases k3 : x.kind = 3
  · simp only [k3, if_true, Int.reduceEq, if_false]
    rw [if_neg (by omega), if_neg (by omega), if_pos (by omega)]
  by_cases k4 : x.kind = 4
  · simp only [k4, if_true, Int.reduceEq, if_false]
    rw [if_neg (by omega), if_neg (by omega), if_neg (by omega), if_pos (by omega)]
  · simp only [k1, k2, k3, k4, if_false, decide_eq_true_eq] at hf ⊢
    simp [hf]
theorem may_rd {x : Hdr} (h : x.may = true) : rdOk x.word = true ∧ rdH x.word = x := by
  have hk := may_kind h
  have h' := h
  unfold Hdr.may at h'
  simp only [Bool.and_eq_true, decide_eq_true_eq] at h'
  have h1 : rdOk x.word = true := by
    unfold rdOk
    rw [hk, h'.2, h'.1]; simp
  refine ⟨h1, ?_⟩
  unfold rdH
  rw [if_pos h1, hk, h'.2]
theorem s4 {P : Program} {T : Tab} {K d : Nat} (S : Sd P T K) (hd : 10 ≤ d) (x : Hdr) (hx : x.ok) (lk : Nat) (h : List AO) : ev P T K d 4 [.ag x.cells] lk h = some (.v (.sc (.bool true)), h) := by
  obtain ⟨d, rfl⟩ : ∃ k, d = k + 1 := ⟨d - 1, by omega⟩
  refine ev_pure (at4 S.t) rfl ?_
  unfold i4 Try.f4
  cases hm : x.may with
  | false =>
    simp (maxSteps := 1000000) (disch := first | omega | (simp (disch := first | omega | (simp only [Hdr.len, Hdr.fr, List.length_append, List.length_cons, List.length_nil, List.length_set]; first | done | omega)) only [Hdr.len, Hdr.fr, amSide, Int.reduceToNat, Nat.reducePow, Nat.reduceMul]; first | done | omega)) only  [↓amPre, amPost, ↓s_lit', Nat.reduceAdd, Nat.reduceSub, List.replicate, retA, resultsA, resultA, toC, toCL, Nat.reduceEqDiff, (ze30 S.p), eql_ag, neq_ag, (eq30 S.p), (fa25_0 S.p), part_all (ag25 S.p) (sz25 S.p), part_at (ag25 S.p) (sz25 S.p), part_sc (ag3 S.p), part_all (ag30 S.p) (sz30 S.p), part_at (ag30 S.p) (sz30 S.p), store_last (sz30 S.p), (sz30 S.p), cells_self, cells_other, set_self, set_other, s16 S, s15 S _ x hx, s18 S _ x hx, s20 S, hm, Int.reduceBNe, beq_self_eq_true, Bool.false_eq_true, Hdr.c0, Int.cast_ofNat_Int]
    exact Ends.some rfl
  | true =>
    obtain ⟨r1, r2⟩ := may_rd hm
    have hw := x.word_lt hx
    have e2 : eqL [1, 1, 1, 1, 1, 1, 1, 1] x.cells x.cells = some true := by rw [eqL_hdr]; simp
    simp (maxSteps := 1000000) (disch := first | omega | (simp (disch := first | omega | (simp only [Hdr.len, Hdr.fr, List.length_append, List.length_cons, List.length_nil, List.length_set]; first | done | omega)) only [Hdr.len, Hdr.fr, amSide, Int.reduceToNat, Nat.reducePow, Nat.reduceMul]; first | done | omega)) only  [↓amPre, amPost, ↓s_lit', Nat.reduceAdd, Nat.reduceSub, List.replicate, retA, resultsA, resultA, toC, toCL, Nat.reduceEqDiff, (ze30 S.p), eql_ag, neq_ag, (eq30 S.p), (fa25_0 S.p), part_all (ag25 S.p) (sz25 S.p), part_at (ag25 S.p) (sz25 S.p), part_sc (ag3 S.p), part_all (ag30 S.p) (sz30 S.p), part_at (ag30 S.p) (sz30 S.p), store_last (sz30 S.p), (sz30 S.p), cells_self, cells_other, set_self, set_other, s16 S, s15 S _ x hx, s18 S _ x hx, s20 S, s21 S, s22 S, hm, r1, r2, e2, Int.reduceBNe, beq_self_eq_true, bne_self_eq_false, Hdr.len, Hdr.c0, zeroH_cells]
    exact Ends.some rfl
end Go.AM
