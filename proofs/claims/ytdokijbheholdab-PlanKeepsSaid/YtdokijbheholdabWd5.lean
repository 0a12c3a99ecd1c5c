/- Headers and words: what the program answers, and what the document does. Conditions: none. -/
import Derived.Test.YtdokijbheholdabWd4
set_option linter.unusedVariables false
set_option linter.unusedSimpArgs false
set_option maxRecDepth 100000
namespace Go.AM
open Go.Proofs
-- LENS: Hdr.len, Hdr.fr
theorem Hdr.fr (x : Hdr) : (freeL x.cells).isSome = true := nrfl rfl
theorem Hdr.word_lt (x : Hdr) (hx : x.ok) : x.word < 18446744073709551616 := by
  obtain ⟨b1, b2, b3, b4, b5, b6, b7⟩ := hx
  unfold Hdr.word Hdr.fits
  repeat' split
  all_goals first
    | omega
    | (simp only [Bool.and_eq_true, decide_eq_true_eq] at *; omega)
theorem Hdr.fits_kind (x : Hdr) (h : x.fits = true) : 0 ≤ x.kind ∧ x.kind ≤ 5 := by
  unfold Hdr.fits at h
  repeat' split at h
  all_goals first
    | omega
    | (simp only [decide_eq_true_eq] at h; omega)
/-- May a header be? -/
def Hdr.may (x : Hdr) : Bool := x.fits && decide (takeH x.kind x.word = x)
theorem s18 {P : Program} {T : Tab} {K d : Nat} (S : Sd P T K) (hd : 7 ≤ d) (x : Hdr) (hx : x.ok) (lk : Nat) (h : List AO) : ev P T K d 18 [.ag x.cells] lk h = some (.v (.sc (.bool x.may)), h) := by
  obtain ⟨d, rfl⟩ : ∃ k, d = k + 1 := ⟨d - 1, by omega⟩
  refine ev_pure (at18 S.t) rfl ?_
  unfold i18 Try.f18
  have hw := x.word_lt hx
  unfold Hdr.may
  cases hf : x.fits with
  | false =>
    simp (maxSteps := 1000000) (disch := first | omega | (simp (disch := first | omega | (simp only [Hdr.len, Hdr.fr, List.length_append, List.length_cons, List.length_nil, List.length_set]; first | done | omega)) only [Hdr.len, Hdr.fr, amSide, Int.reduceToNat, Nat.reducePow, Nat.reduceMul]; first | done | omega)) only  [↓amPre, amPost, ↓s_lit', Nat.reduceAdd, Nat.reduceSub, List.replicate, retA, resultsA, resultA, toC, toCL, Nat.reduceEqDiff, eql_ag, neq_ag, (eq30 S.p), (fa30_0 S.p), part_sc (ag3 S.p), part_all (ag30 S.p) (sz30 S.p), part_at (ag30 S.p) (sz30 S.p), cells_self, cells_other, Hdr.c0, s49 S _ x hx, hf, Bool.false_and]
    exact Ends.some rfl
  | true =>
    have hk := x.fits_kind hf
    simp (maxSteps := 1000000) (disch := first | omega | (simp (disch := first | omega | (simp only [Hdr.len, Hdr.fr, List.length_append, List.length_cons, List.length_nil, List.length_set]; first | done | omega)) only [Hdr.len, Hdr.fr, amSide, Int.reduceToNat, Nat.reducePow, Nat.reduceMul]; first | done | omega)) only  [↓amPre, amPost, ↓s_lit', Nat.reduceAdd, Nat.reduceSub, List.replicate, retA, resultsA, resultA, toC, toCL, Nat.reduceEqDiff, eql_ag, neq_ag, (eq30 S.p), (fa30_0 S.p), part_sc (ag3 S.p), part_all (ag30 S.p) (sz30 S.p), part_at (ag30 S.p) (sz30 S.p), cells_self, cells_other, Hdr.c0, s49 S _ x hx, hf, s50 S _ x.kind hk x.word hw, eqL_hdr, Bool.true_and]
    exact Ends.some rfl
theorem s15 {P : Program} {T : Tab} {K d : Nat} (S : Sd P T K) (hd : 8 ≤ d) (x : Hdr) (hx : x.ok) (lk : Nat) (h : List AO) :
    ev P T K d 15 [.ag x.cells] lk h = some (.tup [.sc (.int .u64 ((if x.may then x.word else 0 : Nat) : Int)), .sc (.int .i64 (if x.may then 0 else 1))], h) := by
  obtain ⟨d, rfl⟩ : ∃ k, d = k + 1 := ⟨d - 1, by omega⟩
  refine ev_pure (at15 S.t) rfl ?_
  unfold i15 Try.f15
  cases hm : x.may with
  | false =>
    simp (maxSteps := 1000000) (disch := first | omega | (simp (disch := first | omega | (simp only [Hdr.len, Hdr.fr, List.length_append, List.length_cons, List.length_nil, List.length_set]; first | done | omega)) only [Hdr.len, Hdr.fr, amSide, Int.reduceToNat, Nat.reducePow, Nat.reduceMul]; first | done | omega)) only  [↓amPre, amPost, ↓s_lit', Nat.reduceAdd, Nat.reduceSub, List.replicate, retA, resultsA, resultA, toC, toCL, Nat.reduceEqDiff, part_all (ag30 S.p) (sz30 S.p), part_at (ag30 S.p) (sz30 S.p), cells_self, cells_other, Hdr.c0, s49 S _ x hx, s18 S _ x hx, hm]
    exact Ends.some rfl
  | true =>
    simp (maxSteps := 1000000) (disch := first | omega | (simp (disch := first | omega | (simp only [Hdr.len, Hdr.fr, List.length_append, List.length_cons, List.length_nil, List.length_set]; first | done | omega)) only [Hdr.len, Hdr.fr, amSide, Int.reduceToNat, Nat.reducePow, Nat.reduceMul]; first | done | omega)) only  [↓amPre, amPost, ↓s_lit', Nat.reduceAdd, Nat.reduceSub, List.replicate, retA, resultsA, resultA, toC, toCL, Nat.reduceEqDiff, part_all (ag30 S.p) (sz30 S.p), part_at (ag30 S.p) (sz30 S.p), cells_self, cells_other, Hdr.c0, s49 S _ x hx, s18 S _ x hx, hm]
    exact Ends.some rfl
/-- The kind that a word's lowest bits tell. -/
def kindW (w : Nat) : Int := if w % 8 = 0 then (if w = 0 then 5 else 1) else if w % 8 = 1 then 2 else if w % 8 = 2 then 3 else if w % 8 = 5 then 4 else 0
theorem kindW_le (w : Nat) : 0 ≤ kindW w ∧ kindW w ≤ 5 := by
  unfold kindW; repeat' split
  all_goals omega
theorem nat_beq (x y : Nat) : ((x : Int) == (y : Int)) = decide (x = y) := by
  by_cases h : x = y
  · subst h; simp
  · rw [decide_eq_false h]; exact beq_false_of_ne (by omega)
theorem nat_beq0 (x : Nat) : ((x : Int) == 0) = decide (x = 0) := nat_beq x 0
theorem nat_beq1 (x : Nat) : ((x : Int) == 1) = decide (x = 1) := nat_beq x 1
theorem nat_beq2 (x : Nat) : ((x : Int) == 2) = decide (x = 2) := nat_beq x 2
theorem nat_beq5 (x : Nat) : ((x : Int) == 5) = decide (x = 5) := nat_beq x 5
theorem nat_bne (x y : Nat) : ((x : Int) != (y : Int)) = decide (x ≠ y) := by
  simp only [bne, nat_beq, decide_not]
theorem s52 {P : Program} {T : Tab} {K d : Nat} (S : Sd P T K) (hd : 4 ≤ d) (w : Nat) (hw : w < 18446744073709551616) (lk : Nat) (h : List AO) : ev P T K d 52 [.sc (.int .u64 (w : Nat))] lk h = some (.v (.sc (.int .i64 (kindW w))), h) := by
  obtain ⟨d, rfl⟩ : ∃ k, d = k + 1 := ⟨d - 1, by omega⟩
  refine ev_pure (at52 S.t) rfl ?_
  unfold i52 Try.f52
  by_cases h0 : w % 8 = 0
  · by_cases hz : w = 0
    · subst hz
      simp (maxSteps := 1000000) (disch := first | omega | (simp (disch := first | omega | (simp only [Hdr.len, Hdr.fr, List.length_append, List.length_cons, List.length_nil, List.length_set]; first | done | omega)) only [Hdr.len, Hdr.fr, amSide, Int.reduceToNat, Nat.reducePow, Nat.reduceMul]; first | done | omega)) only  [↓amPre, amPost, ↓s_lit', Nat.reduceAdd, Nat.reduceSub, List.replicate, retA, resultsA, resultA, toC, toCL, Nat.reduceEqDiff, if_true, s65 S, s66i S, Int.reduceToNat, Nat.reducePow, Nat.div_one, nat_beq0, Nat.zero_mod, decide_true]
      exact Ends.some rfl
    · have e1 : kindW w = 1 := by simp [kindW, h0, hz]
      simp (maxSteps := 1000000) (disch := first | omega | (simp (disch := first | omega | (simp only [Hdr.len, Hdr.fr, List.length_append, List.length_cons, List.length_nil, List.length_set]; first | done | omega)) only [Hdr.len, Hdr.fr, amSide, Int.reduceToNat, Nat.reducePow, Nat.reduceMul]; first | done | omega)) only  [↓amPre, amPost, ↓s_lit', Nat.reduceAdd, Nat.reduceSub, List.replicate, retA, resultsA, resultA, toC, toCL, Nat.reduceEqDiff, if_true, s65 S, s66i S, Int.reduceToNat, Nat.reducePow, Nat.div_one, nat_beq0, h0, hz, decide_true, decide_false, e1]
      exact Ends.some rfl
  by_cases h1 : w % 8 = 1
  · have e1 : kindW w = 2 := by simp [kindW, h1]
    simp (maxSteps := 1000000) (disch := first | omega | (simp (disch := first | omega | (simp only [Hdr.len, Hdr.fr, List.length_append, List.length_cons, List.length_nil, List.length_set]; first | done | omega)) only [Hdr.len, Hdr.fr, amSide, Int.reduceToNat, Nat.reducePow, Nat.reduceMul]; first | done | omega)) only  [↓amPre, amPost, ↓s_lit', Nat.reduceAdd, Nat.reduceSub, List.replicate, retA, resultsA, resultA, toC, toCL, Nat.reduceEqDiff, if_true, s65 S, s66i S, Int.reduceToNat, Nat.reducePow, Nat.div_one, nat_beq0, nat_beq1, h0, h1, decide_true, decide_false, e1, Nat.reduceEqDiff, Nat.one_ne_zero]
    exact Ends.some rfl
  by_cases h2 : w % 8 = 2
  · have e1 : kindW w = 3 := by simp [kindW, h2]
    simp (maxSteps := 1000000) (disch := first | omega | (simp (disch := first | omega | (simp only [Hdr.len, Hdr.fr, List.length_append, List.length_cons, List.length_nil, List.length_set]; first | done | omega)) only [Hdr.len, Hdr.fr, amSide, Int.reduceToNat, Nat.reducePow, Nat.reduceMul]; first | done | omega)) only  [↓amPre, amPost, ↓s_lit', Nat.reduceAdd, Nat.reduceSub, List.replicate, retA, resultsA, resultA, toC, toCL, Nat.reduceEqDiff, if_true, s65 S, s66i S, Int.reduceToNat, Nat.reducePow, Nat.div_one, nat_beq0, nat_beq1, nat_beq2, h0, h1, h2, decide_true, decide_false, e1, Nat.reduceEqDiff]
    exact Ends.some rfl
  by_cases h5 : w % 8 = 5
  · have e1 : kindW w = 4 := by simp [kindW, h5]
    simp (maxSteps := 1000000) (disch := first | omega | (simp (disch := first | omega | (simp only [Hdr.len, Hdr.fr, List.length_append, List.length_cons, List.length_nil, List.length_set]; first | done | omega)) only [Hdr.len, Hdr.fr, amSide, Int.reduceToNat, Nat.reducePow, Nat.reduceMul]; first | done | omega)) only  [↓amPre, amPost, ↓s_lit', Nat.reduceAdd, Nat.reduceSub, List.replicate, retA, resultsA, resultA, toC, toCL, Nat.reduceEqDiff, if_true, s65 S, s66i S, Int.reduceToNat, Nat.reducePow, Nat.div_one, nat_beq0, nat_beq1, nat_beq2, nat_beq5, h0, h1, h2, h5, decide_true, decide_false, e1, Nat.reduceEqDiff]
    exact Ends.some rfl
  · have e1 : kindW w = 0 := by simp [kindW, h0, h1, h2, h5]
    simp (maxSteps := 1000000) (disch := first | omega | (simp (disch := first | omega | (simp only [Hdr.len, Hdr.fr, List.length_append, List.length_cons, List.length_nil, List.length_set]; first | done | omega)) only [Hdr.len, Hdr.fr, amSide, Int.reduceToNat, Nat.reducePow, Nat.reduceMul]; first | done | omega)) only  [↓amPre, amPost, ↓s_lit', Nat.reduceAdd, Nat.reduceSub, List.replicate, retA, resultsA, resultA, toC, toCL, Nat.reduceEqDiff, if_true, s65 S, s66i S, Int.reduceToNat, Nat.reducePow, Nat.div_one, nat_beq0, nat_beq1, nat_beq2, nat_beq5, h0, h1, h2, h5, decide_true, decide_false, e1, Nat.reduceEqDiff]
    exact Ends.some rfl
theorem takeH_ok (k : Int) (w : Nat) : (takeH k w).ok := by
  unfold takeH Hdr.ok
  repeat' split
  all_goals simp
  all_goals omega
/-- What is read. -/
def rdOk (w : Nat) : Bool := (takeH (kindW w) w).fits && decide ((takeH (kindW w) w).word = w)
def zeroH : Hdr := ⟨0, 0, 0, 0, 0, 0, 0, 0⟩
def rdH (w : Nat) : Hdr := if rdOk w then takeH (kindW w) w else zeroH
theorem zeroH_cells : zeroH.cells = [.int .i64 0, .int .u8 0, .int .u8 0, .int .u32 0, .int .u16 0, .int .u16 0, .int .u16 0, .int .u32 0] := nrfl rfl
theorem s21 {P : Program} {T : Tab} {K d : Nat} (S : Sd P T K) (hd : 7 ≤ d) (w : Nat) (hw : w < 18446744073709551616) (lk : Nat) (h : List AO) :
    ev P T K d 21 [.sc (.int .u64 (w : Nat))] lk h = some (.tup [.ag (rdH w).cells, .sc (.int .i64 (if rdOk w then 0 else 3))], h) := by
  obtain ⟨d, rfl⟩ : ∃ k, d = k + 1 := ⟨d - 1, by omega⟩
  refine ev_pure (at21 S.t) (by simp only [freeA, freeCL, freeC, Hdr.cells, freeL, freeS, Option.bind_some, Option.map_some, Option.isSome_some]) ?_
  unfold i21 Try.f21
  have hk := kindW_le w
  have ho := takeH_ok (kindW w) w
  have hd1 : takeH (kindW w) w = takeH (kindW w) w := rfl
  unfold rdH rdOk
  generalize hx : takeH (kindW w) w = x at ho ⊢
  have hs : ∀ d lk h, 5 ≤ d → ev P T K d 50 [.sc (.int .i64 (kindW w)), .sc (.int .u64 (w : Nat))] lk h = some (.v (.ag x.cells), h) := fun d lk h h5 => by rw [← hx]; exact s50 S h5 _ hk w hw lk h
  cases hf : x.fits with
  | false =>
    simp (maxSteps := 1000000) (disch := first | omega | (simp (disch := first | omega | (simp only [Hdr.len, Hdr.fr, List.length_append, List.length_cons, List.length_nil, List.length_set]; first | done | omega)) only [Hdr.len, Hdr.fr, amSide, Int.reduceToNat, Nat.reducePow, Nat.reduceMul]; first | done | omega)) only  [↓amPre, amPost, ↓s_lit', Nat.reduceAdd, Nat.reduceSub, List.replicate, retA, resultsA, resultA, toC, toCL, Nat.reduceEqDiff, (ze30 S.p), (bu30 S.p), part_all (ag30 S.p) (sz30 S.p), part_at (ag30 S.p) (sz30 S.p), store_last (sz30 S.p), (sz30 S.p), cells_self, cells_other, set_self, set_other, s52 S, hs, s49 S _ x ho, hf, Bool.false_and, Bool.false_eq_true, zeroH_cells, Hdr.len]
    exact Ends.some rfl
  | true =>
    by_cases hq : x.word = w
    · simp (maxSteps := 1000000) (disch := first | omega | (simp (disch := first | omega | (simp only [Hdr.len, Hdr.fr, List.length_append, List.length_cons, List.length_nil, List.length_set]; first | done | omega)) only [Hdr.len, Hdr.fr, amSide, Int.reduceToNat, Nat.reducePow, Nat.reduceMul]; first | done | omega)) only  [↓amPre, amPost, ↓s_lit', Nat.reduceAdd, Nat.reduceSub, List.replicate, retA, resultsA, resultA, toC, toCL, Nat.reduceEqDiff, (ze30 S.p), (bu30 S.p), part_all (ag30 S.p) (sz30 S.p), part_at (ag30 S.p) (sz30 S.p), store_last (sz30 S.p), (sz30 S.p), cells_self, cells_other, set_self, set_other, s52 S, hs, s49 S _ x ho, hf, Bool.true_and, nat_bne, hq, decide_true, zeroH_cells, Hdr.len, ne_eq, not_true_eq_false, decide_false]
      exact Ends.some rfl
    · simp (maxSteps := 1000000) (disch := first | omega | (simp (disch := first | omega | (simp only [Hdr.len, Hdr.fr, List.length_append, List.length_cons, List.length_nil, List.length_set]; first | done | omega)) only [Hdr.len, Hdr.fr, amSide, Int.reduceToNat, Nat.reducePow, Nat.reduceMul]; first | done | omega)) only  [↓amPre, amPost, ↓s_lit', Nat.reduceAdd, Nat.reduceSub, List.replicate, retA, resultsA, resultA, toC, toCL, Nat.reduceEqDiff, (ze30 S.p), (bu30 S.p), part_all (ag30 S.p) (sz30 S.p), part_at (ag30 S.p) (sz30 S.p), store_last (sz30 S.p), (sz30 S.p), cells_self, cells_other, set_self, set_other, s52 S, hs, s49 S _ x ho, hf, Bool.true_and, nat_bne, hq, decide_false, zeroH_cells, Hdr.len, ne_eq, not_false_eq_true, decide_true, Bool.false_eq_true]
      exact Ends.some rfl
end Go.AM
