/- Headers and words: the document's answers; older words. Conditions: none. -/
import Derived.Test.YtdokijbheholdabWdLaw2
set_option linter.unusedVariables false
set_option linter.unusedSimpArgs false
set_option maxRecDepth 100000
namespace Go.AM
open Go.Proofs
-- LENS: Hdr.len, Hdr.fr
def keptH (x : Hdr) : Hdr :=
  if x.kind = 1 then ⟨1, 0, 0, 0, x.own, x.rcd, 0, 0⟩ else if x.kind = 2 then ⟨2, x.age, 0, x.hash, 0, 0, 0, 0⟩ else if x.kind = 3 then ⟨3, 0, 0, 0, 0, 0, x.slot, x.gen⟩ else if x.kind = 4 then ⟨4, x.age, x.ep, 0, x.own, 0, 0, 0⟩ else ⟨x.kind, 0, 0, 0, 0, 0, 0, 0⟩
theorem take_kept (x : Hdr) (hx : x.ok) (hf : x.fits = true) : takeH x.kind x.word = keptH x := by
  obtain ⟨b1, b2, b3, b4, b5, b6, b7⟩ := hx
  unfold takeH keptH Hdr.word
  rw [if_pos hf]
  unfold Hdr.fits at hf
  by_cases k1 : x.kind = 1
  · simp only [k1, if_true]
    simp only [Hdr.mk.injEq, true_and, and_true]
    omega
  by_cases k2 : x.kind = 2
  · simp only [k2, if_true, Int.reduceEq, if_false, Bool.and_eq_true, decide_eq_true_eq] at hf ⊢
    simp only [Hdr.mk.injEq, true_and, and_true]
    omega
  by_cases k3 : x.kind = 3
  · simp only [k3, if_true, Int.reduceEq, if_false, decide_eq_true_eq] at hf ⊢
    simp only [Hdr.mk.injEq, true_and, and_true]
    omega
  by_cases k4 : x.kind = 4
  · simp only [k4, if_true, Int.reduceEq, if_false, decide_eq_true_eq] at hf ⊢
    simp only [Hdr.mk.injEq, true_and, and_true]
    omega
  · simp only [k1, k2, k3, k4, if_false]
theorem may_eq (x : Hdr) (hx : x.ok) : x.may = (x.fits && decide (keptH x = x)) := by
  unfold Hdr.may
  cases hf : x.fits with
  | false => rfl
  | true => rw [take_kept x hx hf]
def mayR (x : Hdr) : Bool := decide (1 ≤ x.kind ∧ x.kind ≤ 5) && decide (keptH x = x) && decide (x.age < 16) && decide (x.hash < 2147483648) && decide (x.gen < 16777216) && (decide (x.kind ≠ 1) || decide (0 < x.own))
theorem mayR_eq (x : Hdr) (hx : x.ok) : mayR x = x.may := by
  rw [may_eq x hx]
  unfold mayR
  by_cases hq : keptH x = x
  · simp only [hq, decide_true, Bool.and_true]
    unfold keptH at hq
    unfold Hdr.fits
    obtain ⟨k, a, e, hs, o, r, s, g⟩ := x
    by_cases k1 : k = 1
    · subst k1
      simp only [if_true, Hdr.mk.injEq, true_and, and_true] at hq
      obtain ⟨rfl, rfl, rfl, rfl, rfl⟩ := hq
      simp
      by_cases ho : o = 0
      · simp [ho]
      · simp [ho]; omega
    by_cases k2 : k = 2
    · subst k2
      simp only [Int.reduceEq, if_true, if_false, Hdr.mk.injEq, true_and, and_true] at hq
      obtain ⟨rfl, rfl, rfl, rfl, rfl⟩ := hq
      simp
    by_cases k3 : k = 3
    · subst k3
      simp only [Int.reduceEq, if_true, if_false, Hdr.mk.injEq, true_and, and_true] at hq
      obtain ⟨rfl, rfl, rfl, rfl, rfl⟩ := hq
      simp
    by_cases k4 : k = 4
    · subst k4
      simp only [Int.reduceEq, if_true, if_false, Hdr.mk.injEq, true_and, and_true] at hq
      obtain ⟨rfl, rfl, rfl, rfl⟩ := hq
      simp
    · simp only [k1, k2, k3, k4, if_false, Hdr.mk.injEq, true_and] at hq
      obtain ⟨rfl, rfl, rfl, rfl, rfl, rfl, rfl⟩ := hq
      by_cases k5 : k = 5
      · subst k5; simp
      · simp [k1, k2, k3, k4, k5]; omega
  · simp [hq]
theorem s51 {P : Program} {T : Tab} {K d : Nat} (S : Sd P T K) (hd : 1 ≤ d) (x : Hdr) (lk : Nat) (h : List AO) : ev P T K d 51 [.ag x.cells] lk h = some (.v (.ag (keptH x).cells), h) := by
  obtain ⟨d, rfl⟩ : ∃ k, d = k + 1 := ⟨d - 1, by omega⟩
  refine ev_pure (at51 S.t) (by simp only [freeA, freeC, Hdr.cells, freeL, freeS, Option.bind_some, Option.map_some, Option.isSome_some]) ?_
  unfold i51 Try.f51 keptH
  by_cases k1 : x.kind = 1
  · simp (maxSteps := 1000000) (disch := first | omega | (simp (disch := first | omega | (simp only [Hdr.len, Hdr.fr, List.length_append, List.length_cons, List.length_nil, List.length_set]; first | done | omega)) only [Hdr.len, Hdr.fr, amSide, Int.reduceToNat, Nat.reducePow, Nat.reduceMul]; first | done | omega)) only  [↓amPre, amPost, ↓s_lit', Nat.reduceAdd, Nat.reduceSub, List.replicate, retA, resultsA, resultA, toC, toCL, Nat.reduceEqDiff, (ze25 S.p), (bu25 S.p), (fa25_0 S.p), (fa25_1 S.p), (fa25_2 S.p), (fa25_3 S.p), (fa25_4 S.p), (fa25_5 S.p), (fa25_6 S.p), (fa25_7 S.p), part_sc (ag22 S.p), part_sc (ag23 S.p), part_all (ag25 S.p) (sz25 S.p), part_at (ag25 S.p) (sz25 S.p), part_sc (ag3 S.p), part_sc (ag5 S.p), store_last (sz25 S.p), (sz25 S.p), splice_def, cells_self, cells_other, set_self, set_other, k1, Int.reduceBEq, beq_self_eq_true, Hdr.c0, Hdr.c1, Hdr.c2, Hdr.c3, Hdr.c4, Hdr.c5, Hdr.c6, Hdr.c7]
    exact Ends.some rfl
  by_cases k2 : x.kind = 2
  · simp (maxSteps := 1000000) (disch := first | omega | (simp (disch := first | omega | (simp only [Hdr.len, Hdr.fr, List.length_append, List.length_cons, List.length_nil, List.length_set]; first | done | omega)) only [Hdr.len, Hdr.fr, amSide, Int.reduceToNat, Nat.reducePow, Nat.reduceMul]; first | done | omega)) only  [↓amPre, amPost, ↓s_lit', Nat.reduceAdd, Nat.reduceSub, List.replicate, retA, resultsA, resultA, toC, toCL, Nat.reduceEqDiff, (ze25 S.p), (bu25 S.p), (fa25_0 S.p), (fa25_1 S.p), (fa25_2 S.p), (fa25_3 S.p), (fa25_4 S.p), (fa25_5 S.p), (fa25_6 S.p), (fa25_7 S.p), part_sc (ag22 S.p), part_sc (ag23 S.p), part_all (ag25 S.p) (sz25 S.p), part_at (ag25 S.p) (sz25 S.p), part_sc (ag3 S.p), part_sc (ag5 S.p), store_last (sz25 S.p), (sz25 S.p), splice_def, cells_self, cells_other, set_self, set_other, k2, Int.reduceBEq, Int.reduceEq, beq_self_eq_true, Hdr.c0, Hdr.c1, Hdr.c2, Hdr.c3, Hdr.c4, Hdr.c5, Hdr.c6, Hdr.c7]
    exact Ends.some rfl
  by_cases k3 : x.kind = 3
  · simp (maxSteps := 1000000) (disch := first | omega | (simp (disch := first | omega | (simp only [Hdr.len, Hdr.fr, List.length_append, List.length_cons, List.length_nil, List.length_set]; first | done | omega)) only [Hdr.len, Hdr.fr, amSide, Int.reduceToNat, Nat.reducePow, Nat.reduceMul]; first | done | omega)) only  [↓amPre, amPost, ↓s_lit', Nat.reduceAdd, Nat.reduceSub, List.replicate, retA, resultsA, resultA, toC, toCL, Nat.reduceEqDiff, (ze25 S.p), (bu25 S.p), (fa25_0 S.p), (fa25_1 S.p), (fa25_2 S.p), (fa25_3 S.p), (fa25_4 S.p), (fa25_5 S.p), (fa25_6 S.p), (fa25_7 S.p), part_sc (ag22 S.p), part_sc (ag23 S.p), part_all (ag25 S.p) (sz25 S.p), part_at (ag25 S.p) (sz25 S.p), part_sc (ag3 S.p), part_sc (ag5 S.p), store_last (sz25 S.p), (sz25 S.p), splice_def, cells_self, cells_other, set_self, set_other, k3, Int.reduceBEq, Int.reduceEq, beq_self_eq_true, Hdr.c0, Hdr.c1, Hdr.c2, Hdr.c3, Hdr.c4, Hdr.c5, Hdr.c6, Hdr.c7]
    exact Ends.some rfl
  by_cases k4 : x.kind = 4
  · simp (maxSteps := 1000000) (disch := first | omega | (simp (disch := first | omega | (simp only [Hdr.len, Hdr.fr, List.length_append, List.length_cons, List.length_nil, List.length_set]; first | done | omega)) only [Hdr.len, Hdr.fr, amSide, Int.reduceToNat, Nat.reducePow, Nat.reduceMul]; first | done | omega)) only  [↓amPre, amPost, ↓s_lit', Nat.reduceAdd, Nat.reduceSub, List.replicate, retA, resultsA, resultA, toC, toCL, Nat.reduceEqDiff, (ze25 S.p), (bu25 S.p), (fa25_0 S.p), (fa25_1 S.p), (fa25_2 S.p), (fa25_3 S.p), (fa25_4 S.p), (fa25_5 S.p), (fa25_6 S.p), (fa25_7 S.p), part_sc (ag22 S.p), part_sc (ag23 S.p), part_all (ag25 S.p) (sz25 S.p), part_at (ag25 S.p) (sz25 S.p), part_sc (ag3 S.p), part_sc (ag5 S.p), store_last (sz25 S.p), (sz25 S.p), splice_def, cells_self, cells_other, set_self, set_other, k4, Int.reduceBEq, Int.reduceEq, beq_self_eq_true, Hdr.c0, Hdr.c1, Hdr.c2, Hdr.c3, Hdr.c4, Hdr.c5, Hdr.c6, Hdr.c7]
    exact Ends.some rfl
  · have e1 : (x.kind == 1) = false := beq_false_of_ne k1
    have e2 : (x.kind == 2) = false := beq_false_of_ne k2
    have e3 : (x.kind == 3) = false := beq_false_of_ne k3
    have e4 : (x.kind == 4) = false := beq_false_of_ne k4
    simp (maxSteps := 1000000) (disch := first | omega | (simp (disch := first | omega | (simp only [Hdr.len, Hdr.fr, List.length_append, List.length_cons, List.length_nil, List.length_set]; first | done | omega)) only [Hdr.len, Hdr.fr, amSide, Int.reduceToNat, Nat.reducePow, Nat.reduceMul]; first | done | omega)) only  [↓amPre, amPost, ↓s_lit', Nat.reduceAdd, Nat.reduceSub, List.replicate, retA, resultsA, resultA, toC, toCL, Nat.reduceEqDiff, (ze25 S.p), (bu25 S.p), (fa25_0 S.p), (fa25_1 S.p), (fa25_2 S.p), (fa25_3 S.p), (fa25_4 S.p), (fa25_5 S.p), (fa25_6 S.p), (fa25_7 S.p), part_sc (ag22 S.p), part_sc (ag23 S.p), part_all (ag25 S.p) (sz25 S.p), part_at (ag25 S.p) (sz25 S.p), part_sc (ag3 S.p), part_sc (ag5 S.p), store_last (sz25 S.p), (sz25 S.p), splice_def, cells_self, cells_other, set_self, set_other, e1, e2, e3, e4, k1, k2, k3, k4, Hdr.c0]
    exact Ends.some rfl
theorem s19 {P : Program} {T : Tab} {K d : Nat} (S : Sd P T K) (hd : 2 ≤ d) (x : Hdr) (lk : Nat) (h : List AO) : ev P T K d 19 [.ag x.cells] lk h = some (.v (.sc (.bool (mayR x))), h) := by
  obtain ⟨d, rfl⟩ : ∃ k, d = k + 1 := ⟨d - 1, by omega⟩
  refine ev_pure (at19 S.t) rfl ?_
  unfold i19 Try.f19 mayR
  by_cases q1 : x.kind < 1
  · have e1 : decide (x.kind < 1) = true := decide_eq_true q1
    have e2 : decide (1 ≤ x.kind ∧ x.kind ≤ 5) = false := decide_eq_false (by omega)
    simp (maxSteps := 1000000) (disch := first | omega | (simp (disch := first | omega | (simp only [Hdr.len, Hdr.fr, List.length_append, List.length_cons, List.length_nil, List.length_set]; first | done | omega)) only [Hdr.len, Hdr.fr, amSide, Int.reduceToNat, Nat.reducePow, Nat.reduceMul]; first | done | omega)) only  [↓amPre, amPost, ↓s_lit', Nat.reduceAdd, Nat.reduceSub, List.replicate, retA, resultsA, resultA, toC, toCL, Nat.reduceEqDiff, eql_ag, neq_ag, (eq25 S.p), (fa25_0 S.p), (fa25_1 S.p), (fa25_3 S.p), (fa25_4 S.p), (fa25_7 S.p), part_sc (ag22 S.p), part_sc (ag23 S.p), part_all (ag25 S.p) (sz25 S.p), part_at (ag25 S.p) (sz25 S.p), part_sc (ag3 S.p), part_sc (ag5 S.p), cells_self, cells_other, e1, e2, Bool.false_and, Hdr.c0]
    exact Ends.some rfl
  have e1 : decide (x.kind < 1) = false := decide_eq_false q1
  by_cases q2 : x.kind > 5
  · have e2 : decide (x.kind > 5) = true := decide_eq_true q2
    have e3 : decide (1 ≤ x.kind ∧ x.kind ≤ 5) = false := decide_eq_false (by omega)
    simp (maxSteps := 1000000) (disch := first | omega | (simp (disch := first | omega | (simp only [Hdr.len, Hdr.fr, List.length_append, List.length_cons, List.length_nil, List.length_set]; first | done | omega)) only [Hdr.len, Hdr.fr, amSide, Int.reduceToNat, Nat.reducePow, Nat.reduceMul]; first | done | omega)) only  [↓amPre, amPost, ↓s_lit', Nat.reduceAdd, Nat.reduceSub, List.replicate, retA, resultsA, resultA, toC, toCL, Nat.reduceEqDiff, eql_ag, neq_ag, (eq25 S.p), (fa25_0 S.p), (fa25_1 S.p), (fa25_3 S.p), (fa25_4 S.p), (fa25_7 S.p), part_sc (ag22 S.p), part_sc (ag23 S.p), part_all (ag25 S.p) (sz25 S.p), part_at (ag25 S.p) (sz25 S.p), part_sc (ag3 S.p), part_sc (ag5 S.p), cells_self, cells_other, e1, e2, e3, Bool.false_and, Hdr.c0]
    exact Ends.some rfl
  have e2 : decide (x.kind > 5) = false := decide_eq_false q2
  have e3 : decide (1 ≤ x.kind ∧ x.kind ≤ 5) = true := decide_eq_true (by omega)
  by_cases q3 : keptH x = x
  · have e4 : decide (keptH x = x) = true := decide_eq_true q3
    by_cases q4 : x.age < 16
    · have e5 : decide ((x.age : Int) < 16) = true := decide_eq_true (by omega)
      have f5 : decide (x.age < 16) = true := decide_eq_true q4
      by_cases q5 : x.hash < 2147483648
      · have e6 : decide ((x.hash : Int) < 2147483648) = true := decide_eq_true (by omega)
        have f6 : decide (x.hash < 2147483648) = true := decide_eq_true q5
        by_cases q6 : x.gen < 16777216
        · have e7 : decide ((x.gen : Int) < 16777216) = true := decide_eq_true (by omega)
          have f7 : decide (x.gen < 16777216) = true := decide_eq_true q6
          by_cases q7 : x.kind = 1
          · have f8 : decide (x.kind ≠ 1) = false := decide_eq_false (by omega)
            have f9 : decide ((x.own : Int) > 0) = decide (0 < x.own) := by
              by_cases q : 0 < x.own
              · rw [decide_eq_true q, decide_eq_true (by omega)]
              · rw [decide_eq_false q, decide_eq_false (by omega)]
            simp (maxSteps := 1000000) (disch := first | omega | (simp (disch := first | omega | (simp only [Hdr.len, Hdr.fr, List.length_append, List.length_cons, List.length_nil, List.length_set]; first | done | omega)) only [Hdr.len, Hdr.fr, amSide, Int.reduceToNat, Nat.reducePow, Nat.reduceMul]; first | done | omega)) only  [↓amPre, amPost, ↓s_lit', Nat.reduceAdd, Nat.reduceSub, List.replicate, retA, resultsA, resultA, toC, toCL, Nat.reduceEqDiff, eql_ag, neq_ag, (eq25 S.p), (fa25_0 S.p), (fa25_1 S.p), (fa25_3 S.p), (fa25_4 S.p), (fa25_7 S.p), part_sc (ag22 S.p), part_sc (ag23 S.p), part_all (ag25 S.p) (sz25 S.p), part_at (ag25 S.p) (sz25 S.p), part_sc (ag3 S.p), part_sc (ag5 S.p), cells_self, cells_other, s51 S, eqL_hdr, e1, e2, e3, e4, e5, e6, e7, f5, f6, f7, q7, f9, Int.reduceLT, Int.reduceGT, Int.reduceLE, Int.reduceBNe, bne_self_eq_false, decide_false, decide_true, Bool.false_or, Bool.true_and, Hdr.c0, Hdr.c1, Hdr.c3, Hdr.c7, Hdr.c4, Hdr.len, ne_eq, not_true_eq_false, and_self]
            exact Ends.some rfl
          · have f8 : decide (x.kind ≠ 1) = true := decide_eq_true q7
            have e8 : (x.kind != 1) = true := by simp [q7]
            simp (maxSteps := 1000000) (disch := first | omega | (simp (disch := first | omega | (simp only [Hdr.len, Hdr.fr, List.length_append, List.length_cons, List.length_nil, List.length_set]; first | done | omega)) only [Hdr.len, Hdr.fr, amSide, Int.reduceToNat, Nat.reducePow, Nat.reduceMul]; first | done | omega)) only  [↓amPre, amPost, ↓s_lit', Nat.reduceAdd, Nat.reduceSub, List.replicate, retA, resultsA, resultA, toC, toCL, Nat.reduceEqDiff, eql_ag, neq_ag, (eq25 S.p), (fa25_0 S.p), (fa25_1 S.p), (fa25_3 S.p), (fa25_4 S.p), (fa25_7 S.p), part_sc (ag22 S.p), part_sc (ag23 S.p), part_all (ag25 S.p) (sz25 S.p), part_at (ag25 S.p) (sz25 S.p), part_sc (ag3 S.p), part_sc (ag5 S.p), cells_self, cells_other, s51 S, eqL_hdr, e1, e2, e3, e4, e5, e6, e7, e8, f5, f6, f7, f8, Bool.true_or, Bool.true_and, Hdr.c0, Hdr.c1, Hdr.c3, Hdr.c7, Hdr.c4, Hdr.len]
            exact Ends.some rfl
        · have e7 : decide ((x.gen : Int) < 16777216) = false := decide_eq_false (by omega)
          have f7 : decide (x.gen < 16777216) = false := decide_eq_false q6
          simp (maxSteps := 1000000) (disch := first | omega | (simp (disch := first | omega | (simp only [Hdr.len, Hdr.fr, List.length_append, List.length_cons, List.length_nil, List.length_set]; first | done | omega)) only [Hdr.len, Hdr.fr, amSide, Int.reduceToNat, Nat.reducePow, Nat.reduceMul]; first | done | omega)) only  [↓amPre, amPost, ↓s_lit', Nat.reduceAdd, Nat.reduceSub, List.replicate, retA, resultsA, resultA, toC, toCL, Nat.reduceEqDiff, eql_ag, neq_ag, (eq25 S.p), (fa25_0 S.p), (fa25_1 S.p), (fa25_3 S.p), (fa25_4 S.p), (fa25_7 S.p), part_sc (ag22 S.p), part_sc (ag23 S.p), part_all (ag25 S.p) (sz25 S.p), part_at (ag25 S.p) (sz25 S.p), part_sc (ag3 S.p), part_sc (ag5 S.p), cells_self, cells_other, s51 S, eqL_hdr, e1, e2, e3, e4, e5, e6, e7, f5, f6, f7, Bool.and_false, Bool.false_and, Hdr.c0, Hdr.c1, Hdr.c3, Hdr.c7, Hdr.c4, Hdr.len]
          exact Ends.some rfl
      · have e6 : decide ((x.hash : Int) < 2147483648) = false := decide_eq_false (by omega)
        have f6 : decide (x.hash < 2147483648) = false := decide_eq_false q5
        simp (maxSteps := 1000000) (disch := first | omega | (simp (disch := first | omega | (simp only [Hdr.len, Hdr.fr, List.length_append, List.length_cons, List.length_nil, List.length_set]; first | done | omega)) only [Hdr.len, Hdr.fr, amSide, Int.reduceToNat, Nat.reducePow, Nat.reduceMul]; first | done | omega)) only  [↓amPre, amPost, ↓s_lit', Nat.reduceAdd, Nat.reduceSub, List.replicate, retA, resultsA, resultA, toC, toCL, Nat.reduceEqDiff, eql_ag, neq_ag, (eq25 S.p), (fa25_0 S.p), (fa25_1 S.p), (fa25_3 S.p), (fa25_4 S.p), (fa25_7 S.p), part_sc (ag22 S.p), part_sc (ag23 S.p), part_all (ag25 S.p) (sz25 S.p), part_at (ag25 S.p) (sz25 S.p), part_sc (ag3 S.p), part_sc (ag5 S.p), cells_self, cells_other, s51 S, eqL_hdr, e1, e2, e3, e4, e5, e6, f5, f6, Bool.and_false, Bool.false_and, Hdr.c0, Hdr.c1, Hdr.c3, Hdr.c7, Hdr.c4, Hdr.len]
        exact Ends.some rfl
    · have e5 : decide ((x.age : Int) < 16) = false := decide_eq_false (by omega)
      have f5 : decide (x.age < 16) = false := decide_eq_false q4
      simp (maxSteps := 1000000) (disch := first | omega | (simp (disch := first | omega | (simp only [Hdr.len, Hdr.fr, List.length_append, List.length_cons, List.length_nil, List.length_set]; first | done | omega)) only [Hdr.len, Hdr.fr, amSide, Int.reduceToNat, Nat.reducePow, Nat.reduceMul]; first | done | omega)) only  [↓amPre, amPost, ↓s_lit', Nat.reduceAdd, Nat.reduceSub, List.replicate, retA, resultsA, resultA, toC, toCL, Nat.reduceEqDiff, eql_ag, neq_ag, (eq25 S.p), (fa25_0 S.p), (fa25_1 S.p), (fa25_3 S.p), (fa25_4 S.p), (fa25_7 S.p), part_sc (ag22 S.p), part_sc (ag23 S.p), part_all (ag25 S.p) (sz25 S.p), part_at (ag25 S.p) (sz25 S.p), part_sc (ag3 S.p), part_sc (ag5 S.p), cells_self, cells_other, s51 S, eqL_hdr, e1, e2, e3, e4, e5, f5, Bool.and_false, Bool.false_and, Hdr.c0, Hdr.c1, Hdr.c3, Hdr.c7, Hdr.c4, Hdr.len]
      exact Ends.some rfl
  · have e4 : decide (keptH x = x) = false := decide_eq_false q3
    simp (maxSteps := 1000000) (disch := first | omega | (simp (disch := first | omega | (simp only [Hdr.len, Hdr.fr, List.length_append, List.length_cons, List.length_nil, List.length_set]; first | done | omega)) only [Hdr.len, Hdr.fr, amSide, Int.reduceToNat, Nat.reducePow, Nat.reduceMul]; first | done | omega)) only  [↓amPre, amPost, ↓s_lit', Nat.reduceAdd, Nat.reduceSub, List.replicate, retA, resultsA, resultA, toC, toCL, Nat.reduceEqDiff, eql_ag, neq_ag, (eq25 S.p), (fa25_0 S.p), (fa25_1 S.p), (fa25_3 S.p), (fa25_4 S.p), (fa25_7 S.p), part_sc (ag22 S.p), part_sc (ag23 S.p), part_all (ag25 S.p) (sz25 S.p), part_at (ag25 S.p) (sz25 S.p), part_sc (ag3 S.p), part_sc (ag5 S.p), cells_self, cells_other, s51 S, eqL_hdr, e1, e2, e3, e4, Bool.and_false, Bool.false_and, Hdr.c0, Hdr.c1, Hdr.c3, Hdr.c7, Hdr.c4, Hdr.len]
    exact Ends.some rfl
end Go.AM
