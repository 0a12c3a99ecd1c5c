/- Words: older ones; the laws. Conditions: none. -/
import Derived.Test.YtdokijbheholdabWd8
set_option linter.unusedVariables false
set_option linter.unusedSimpArgs false
set_option maxRecDepth 100000
namespace Go.AM
open Go.Proofs
-- LENS: Hdr.len, Hdr.fr
/-- One older: its word. -/
def oldW (w : Nat) : Nat := putN 3 4 w (if (rdH w).age < 15 then (rdH w).age + 1 else 15)
def oldOk (w : Nat) : Bool := rdOk w && (decide ((rdH w).kind = 2) || decide ((rdH w).kind = 4))
def oldE (w : Nat) : Int := if rdOk w then if oldOk w then 0 else 1 else 3
def oldA (w : Nat) : Nat := if oldOk w then oldW w else 0
theorem rd_fits {w : Nat} (h : rdOk w = true) : (rdH w).fits = true ∧ (rdH w).word = w ∧ (rdH w).may = true := by
  have e1 : rdH w = takeH (kindW w) w := by simp [rdH, h]
  have h' := h
  rw [rd_may] at h'
  unfold rdOk at h
  simp only [Bool.and_eq_true, decide_eq_true_eq] at h h'
  rw [e1]
  exact ⟨h.1, h.2, h'.1⟩
theorem fits_age {x : Hdr} (hf : x.fits = true) (hk : x.kind = 2 ∨ x.kind = 4) : x.age < 16 := by
  unfold Hdr.fits at hf
  rcases hk with k | k
  · simp only [k, Int.reduceEq, if_false, if_true, Bool.and_eq_true, decide_eq_true_eq] at hf; exact hf.1
  · simp only [k, Int.reduceEq, if_false, if_true, decide_eq_true_eq] at hf; exact hf
theorem s24 {P : Program} {T : Tab} {K d : Nat} (S : Sd P T K) (hd : 8 ≤ d) (w : Nat) (hw : w < 18446744073709551616) (lk : Nat) (h : List AO) :
    ev P T K d 24 [.sc (.int .u64 (w : Nat))] lk h = some (.tup [.sc (.int .u64 ((oldA w : Nat) : Int)), .sc (.int .i64 (oldE w))], h) := by
  obtain ⟨d, rfl⟩ : ∃ k, d = k + 1 := ⟨d - 1, by omega⟩
  refine ev_pure (at24 S.t) rfl ?_
  unfold i24 Try.f24 oldA oldE oldOk oldW
  cases hr : rdOk w with
  | false =>
    simp (maxSteps := 1000000) (disch := first | omega | (simp (disch := first | omega | (simp only [Hdr.len, Hdr.fr, List.length_append, List.length_cons, List.length_nil, List.length_set]; first | done | omega)) only [Hdr.len, Hdr.fr, amSide, Int.reduceToNat, Nat.reducePow, Nat.reduceMul]; first | done | omega)) only  [↓amPre, amPost, ↓s_lit', Nat.reduceAdd, Nat.reduceSub, List.replicate, retA, resultsA, resultA, toC, toCL, Nat.reduceEqDiff, (ze30 S.p), conv_int (un5 S.p) (un26 S.p), (fa30_0 S.p), (fa30_1 S.p), part_sc (ag3 S.p), part_sc (ag5 S.p), store_last (sz30 S.p), (sz30 S.p), cells_self, cells_other, set_self, set_other, s21 S, hr, zeroH_cells, Hdr.len, Hdr.c0, Int.reduceBNe, Bool.false_eq_true, Bool.false_and]
    exact Ends.some rfl
  | true =>
    obtain ⟨hf, hq, _⟩ := rd_fits hr
    generalize hx : rdH w = x at *
    by_cases k2 : x.kind = 2
    · have ha := fits_age hf (.inl k2)
      have e3 : (15 < (x.age : Int) + 1) = (¬ x.age < 15) := by simp only [eq_iff_iff]; omega
      have e4 : ((x.age : Int) + 1).toNat = x.age + 1 := by omega
      have e5 : (0 : Int) ≤ (x.age : Int) + 1 := by omega
      by_cases h15 : x.age < 15
      · simp (maxSteps := 1000000) (disch := first | omega | (simp (disch := first | omega | (simp only [Hdr.len, Hdr.fr, List.length_append, List.length_cons, List.length_nil, List.length_set]; first | done | omega)) only [Hdr.len, Hdr.fr, amSide, Int.reduceToNat, Nat.reducePow, Nat.reduceMul]; first | done | omega)) only  [↓amPre, amPost, ↓s_lit', Nat.reduceAdd, Nat.reduceSub, List.replicate, retA, resultsA, resultA, toC, toCL, Nat.reduceEqDiff, (ze30 S.p), conv_int (un5 S.p) (un26 S.p), (fa30_0 S.p), (fa30_1 S.p), part_sc (ag3 S.p), part_sc (ag5 S.p), store_last (sz30 S.p), (sz30 S.p), cells_self, cells_other, set_self, set_other, s21 S, s53 S, s54i S, hr, hx, k2, e3, e4, h15, wrap_u8, wrap_u64, zeroH_cells, Hdr.len, Hdr.c0, Hdr.c1, Int.reduceBNe, bne_self_eq_false, decide_true, Bool.true_or, Bool.and_self, Int.toNat_natCast, Int.reduceToNat, not_true_eq_false]
        exact Ends.some rfl
      · simp (maxSteps := 1000000) (disch := first | omega | (simp (disch := first | omega | (simp only [Hdr.len, Hdr.fr, List.length_append, List.length_cons, List.length_nil, List.length_set]; first | done | omega)) only [Hdr.len, Hdr.fr, amSide, Int.reduceToNat, Nat.reducePow, Nat.reduceMul]; first | done | omega)) only  [↓amPre, amPost, ↓s_lit', Nat.reduceAdd, Nat.reduceSub, List.replicate, retA, resultsA, resultA, toC, toCL, Nat.reduceEqDiff, (ze30 S.p), conv_int (un5 S.p) (un26 S.p), (fa30_0 S.p), (fa30_1 S.p), part_sc (ag3 S.p), part_sc (ag5 S.p), store_last (sz30 S.p), (sz30 S.p), cells_self, cells_other, set_self, set_other, s21 S, s53 S, s54i S, hr, hx, k2, e3, e4, h15, wrap_u8, wrap_u64, zeroH_cells, Hdr.len, Hdr.c0, Hdr.c1, Int.reduceBNe, bne_self_eq_false, decide_true, Bool.true_or, Bool.and_self, Int.toNat_natCast, Int.reduceToNat, not_false_eq_true]
        exact Ends.some rfl
    by_cases k4 : x.kind = 4
    · have ha := fits_age hf (.inr k4)
      have e3 : (15 < (x.age : Int) + 1) = (¬ x.age < 15) := by simp only [eq_iff_iff]; omega
      have e4 : ((x.age : Int) + 1).toNat = x.age + 1 := by omega
      by_cases h15 : x.age < 15
      · simp (maxSteps := 1000000) (disch := first | omega | (simp (disch := first | omega | (simp only [Hdr.len, Hdr.fr, List.length_append, List.length_cons, List.length_nil, List.length_set]; first | done | omega)) only [Hdr.len, Hdr.fr, amSide, Int.reduceToNat, Nat.reducePow, Nat.reduceMul]; first | done | omega)) only  [↓amPre, amPost, ↓s_lit', Nat.reduceAdd, Nat.reduceSub, List.replicate, retA, resultsA, resultA, toC, toCL, Nat.reduceEqDiff, (ze30 S.p), conv_int (un5 S.p) (un26 S.p), (fa30_0 S.p), (fa30_1 S.p), part_sc (ag3 S.p), part_sc (ag5 S.p), store_last (sz30 S.p), (sz30 S.p), cells_self, cells_other, set_self, set_other, s21 S, s53 S, s54i S, hr, hx, k4, e3, e4, h15, wrap_u8, wrap_u64, zeroH_cells, Hdr.len, Hdr.c0, Hdr.c1, Int.reduceBNe, Int.reduceEq, bne_self_eq_false, decide_true, decide_false, Bool.or_true, Bool.and_self, Int.toNat_natCast, Int.reduceToNat, not_true_eq_false]
        exact Ends.some rfl
      · simp (maxSteps := 1000000) (disch := first | omega | (simp (disch := first | omega | (simp only [Hdr.len, Hdr.fr, List.length_append, List.length_cons, List.length_nil, List.length_set]; first | done | omega)) only [Hdr.len, Hdr.fr, amSide, Int.reduceToNat, Nat.reducePow, Nat.reduceMul]; first | done | omega)) only  [↓amPre, amPost, ↓s_lit', Nat.reduceAdd, Nat.reduceSub, List.replicate, retA, resultsA, resultA, toC, toCL, Nat.reduceEqDiff, (ze30 S.p), conv_int (un5 S.p) (un26 S.p), (fa30_0 S.p), (fa30_1 S.p), part_sc (ag3 S.p), part_sc (ag5 S.p), store_last (sz30 S.p), (sz30 S.p), cells_self, cells_other, set_self, set_other, s21 S, s53 S, s54i S, hr, hx, k4, e3, e4, h15, wrap_u8, wrap_u64, zeroH_cells, Hdr.len, Hdr.c0, Hdr.c1, Int.reduceBNe, Int.reduceEq, bne_self_eq_false, decide_true, decide_false, Bool.or_true, Bool.and_self, Int.toNat_natCast, Int.reduceToNat, not_false_eq_true]
        exact Ends.some rfl
    · have e2 : (x.kind != 2) = true := by simp [k2]
      have e4 : (x.kind != 4) = true := by simp [k4]
      simp (maxSteps := 1000000) (disch := first | omega | (simp (disch := first | omega | (simp only [Hdr.len, Hdr.fr, List.length_append, List.length_cons, List.length_nil, List.length_set]; first | done | omega)) only [Hdr.len, Hdr.fr, amSide, Int.reduceToNat, Nat.reducePow, Nat.reduceMul]; first | done | omega)) only  [↓amPre, amPost, ↓s_lit', Nat.reduceAdd, Nat.reduceSub, List.replicate, retA, resultsA, resultA, toC, toCL, Nat.reduceEqDiff, (ze30 S.p), conv_int (un5 S.p) (un26 S.p), (fa30_0 S.p), (fa30_1 S.p), part_sc (ag3 S.p), part_sc (ag5 S.p), store_last (sz30 S.p), (sz30 S.p), cells_self, cells_other, set_self, set_other, s21 S, hr, hx, e2, e4, k2, k4, decide_false, zeroH_cells, Hdr.len, Hdr.c0, Int.reduceBNe, bne_self_eq_false, Bool.or_self, Bool.and_false, Bool.false_eq_true]
      exact Ends.some rfl
/-- The word of the same header, of another age. -/
theorem put_word {x : Hdr} (hx : x.ok) (hf : x.fits = true) (hk : x.kind = 2 ∨ x.kind = 4) (a : Nat) (ha : a < 16) : ({ x with age := a } : Hdr).word = putN 3 4 x.word a ∧ ({ x with age := a } : Hdr).fits = true ∧ ({ x with age := a } : Hdr).ok := by
  obtain ⟨b1, b2, b3, b4, b5, b6, b7⟩ := hx
  have f2 : ({ x with age := a } : Hdr).fits = true := by
    unfold Hdr.fits at hf ⊢
    rcases hk with k | k
    · simp only [k, Int.reduceEq, if_false, if_true, Bool.and_eq_true, decide_eq_true_eq] at hf ⊢; exact ⟨ha, hf.2⟩
    · simp only [k, Int.reduceEq, if_false, if_true, decide_eq_true_eq] at hf ⊢; exact ha
  refine ⟨?_, f2, by simp only [Hdr.ok]; omega⟩
  have hag := fits_age hf hk
  unfold Hdr.word putN
  rw [if_pos hf, if_pos f2]
  rcases hk with k | k
  · simp only [k, Int.reduceEq, if_false, if_true, Nat.reducePow, Nat.reduceAdd]; omega
  · simp only [k, Int.reduceEq, if_false, if_true, Nat.reducePow, Nat.reduceAdd]; omega
theorem put_may {x : Hdr} (hx : x.ok) (hm : x.may = true) (hk : x.kind = 2 ∨ x.kind = 4) (a : Nat) (ha : a < 16) : ({ x with age := a } : Hdr).may = true := by
  have h1 := may_eq x hx
  rw [hm] at h1
  simp only [Bool.true_eq, Bool.and_eq_true, decide_eq_true_eq] at h1
  obtain ⟨hf, hq⟩ := h1
  obtain ⟨_, f2, o2⟩ := put_word hx hf hk a ha
  rw [may_eq _ o2, f2]
  simp only [Bool.true_and, decide_eq_true_eq]
  unfold keptH at hq ⊢
  rcases hk with k | k
  · simp only [k, Int.reduceEq, if_false, if_true] at hq ⊢
    have q2 := congrArg Hdr.ep hq
    have q4 := congrArg Hdr.own hq
    have q5 := congrArg Hdr.rcd hq
    have q6 := congrArg Hdr.slot hq
    have q7 := congrArg Hdr.gen hq
    simp only at q2 q4 q5 q6 q7
    rw [Hdr.mk.injEq]
    exact ⟨rfl, rfl, q2, rfl, q4, q5, q6, q7⟩
  · simp only [k, Int.reduceEq, if_false, if_true] at hq ⊢
    have q3 := congrArg Hdr.hash hq
    have q5 := congrArg Hdr.rcd hq
    have q6 := congrArg Hdr.slot hq
    have q7 := congrArg Hdr.gen hq
    simp only at q3 q5 q6 q7
    rw [Hdr.mk.injEq]
    exact ⟨rfl, rfl, rfl, q3, rfl, q5, q6, q7⟩
end Go.AM
