/- Classes: what the program and the document answer. Conditions: none. -/
import Derived.Test.YtdokijbheholdabWd10
set_option linter.unusedVariables false
set_option linter.unusedSimpArgs false
set_option maxRecDepth 100000
namespace Go.AM
open Go.Proofs
-- LENS: Hdr.len, Hdr.fr, Kls.len, Kls.fr
/-- A class. -/
structure Kls where
  bias : Bool
  ep : Nat
  cnt : Int
def Kls.ok (c : Kls) : Prop := c.ep < 256
def Kls.cells (c : Kls) : List SV := [.bool c.bias, .int .u8 (c.ep : Nat), .int .i64 c.cnt]
theorem Kls.len (c : Kls) : c.cells.length = 3 := nrfl rfl
theorem Kls.fr (c : Kls) : (freeL c.cells).isSome = true := nrfl rfl
theorem Kls.c0 (c : Kls) : c.cells[0]? = some (.bool c.bias) := nrfl rfl
theorem Kls.c1 (c : Kls) : c.cells[1]? = some (.int .u8 (c.ep : Nat)) := nrfl rfl
theorem Kls.c2 (c : Kls) : c.cells[2]? = some (.int .i64 c.cnt) := nrfl rfl
/-- Is a word Biased? -/
def biW (w : Nat) : Bool := rdOk w && decide ((rdH w).kind = 4)
theorem Hdr.set_ep (x : Hdr) (n : Nat) : x.cells.set 2 (.int .u8 (n : Nat)) = ({ x with ep := n } : Hdr).cells := nrfl rfl
theorem s55 {P : Program} {T : Tab} {K d : Nat} (S : Sd P T K) (hd : 8 ≤ d) (w : Nat) (hw : w < 18446744073709551616) (lk : Nat) (h : List AO) :
    ev P T K d 55 [.sc (.int .u64 (w : Nat))] lk h = some (.tup [.ag (rdH w).cells, .sc (.bool (biW w))], h) := by
  obtain ⟨d, rfl⟩ : ∃ k, d = k + 1 := ⟨d - 1, by omega⟩
  refine ev_pure (at55 S.t) (by simp only [freeA, freeCL, freeC, Hdr.cells, freeL, freeS, Option.bind_some, Option.map_some, Option.isSome_some]) ?_
  unfold i55 Try.f55 biW
  cases hr : rdOk w with
  | false =>
    simp (maxSteps := 1000000) (disch := first | omega | (simp (disch := first | omega | (simp only [Hdr.len, Hdr.fr, Kls.len, Kls.fr, List.length_append, List.length_cons, List.length_nil, List.length_set]; first | done | omega)) only [Hdr.len, Hdr.fr, Kls.len, Kls.fr, amSide, Int.reduceToNat, Nat.reducePow, Nat.reduceMul]; first | done | omega)) only  [↓amPre, amPost, ↓s_lit', Nat.reduceAdd, Nat.reduceSub, List.replicate, retA, resultsA, resultA, toC, toCL, Nat.reduceEqDiff, (ze30 S.p), (fa30_0 S.p), part_sc (ag3 S.p), part_all (ag30 S.p) (sz30 S.p), part_at (ag30 S.p) (sz30 S.p), store_last (sz30 S.p), (sz30 S.p), cells_self, cells_other, set_self, set_other, s21 S, hr, zeroH_cells, Hdr.len, Hdr.c0, Int.reduceBEq, Bool.false_eq_true, Bool.false_and]
    exact Ends.some rfl
  | true =>
    have e1 : ((rdH w).kind == 4) = decide ((rdH w).kind = 4) := by
      by_cases k : (rdH w).kind = 4
      · rw [k]; rfl
      · rw [decide_eq_false k]; exact beq_false_of_ne k
    simp (maxSteps := 1000000) (disch := first | omega | (simp (disch := first | omega | (simp only [Hdr.len, Hdr.fr, Kls.len, Kls.fr, List.length_append, List.length_cons, List.length_nil, List.length_set]; first | done | omega)) only [Hdr.len, Hdr.fr, Kls.len, Kls.fr, amSide, Int.reduceToNat, Nat.reducePow, Nat.reduceMul]; first | done | omega)) only  [↓amPre, amPost, ↓s_lit', Nat.reduceAdd, Nat.reduceSub, List.replicate, retA, resultsA, resultA, toC, toCL, Nat.reduceEqDiff, (ze30 S.p), (fa30_0 S.p), part_sc (ag3 S.p), part_all (ag30 S.p) (sz30 S.p), part_at (ag30 S.p) (sz30 S.p), store_last (sz30 S.p), (sz30 S.p), cells_self, cells_other, set_self, set_other, s21 S, hr, e1, zeroH_cells, Hdr.len, Hdr.c0, Int.reduceBEq, beq_self_eq_true, Bool.true_and]
    exact Ends.some rfl
def validK (c : Kls) (w : Nat) : Bool := biW w && c.bias && decide ((rdH w).ep = c.ep)
theorem s32 {P : Program} {T : Tab} {K d : Nat} (S : Sd P T K) (hd : 9 ≤ d) (c : Kls) (w : Nat) (hw : w < 18446744073709551616) (lk : Nat) (h : List AO) :
    ev P T K d 32 [.ag c.cells, .sc (.int .u64 (w : Nat))] lk h = some (.v (.sc (.bool (validK c w))), h) := by
  obtain ⟨d, rfl⟩ : ∃ k, d = k + 1 := ⟨d - 1, by omega⟩
  refine ev_pure (at32 S.t) rfl ?_
  unfold i32 Try.f32 validK
  cases hb : biW w <;> cases hc : c.bias
  all_goals
    simp (maxSteps := 1000000) (disch := first | omega | (simp (disch := first | omega | (simp only [Hdr.len, Hdr.fr, Kls.len, Kls.fr, List.length_append, List.length_cons, List.length_nil, List.length_set]; first | done | omega)) only [Hdr.len, Hdr.fr, Kls.len, Kls.fr, amSide, Int.reduceToNat, Nat.reducePow, Nat.reduceMul]; first | done | omega)) only  [↓amPre, amPost, ↓s_lit', Nat.reduceAdd, Nat.reduceSub, List.replicate, retA, resultsA, resultA, toC, toCL, Nat.reduceEqDiff, (ze30 S.p), (fa30_2 S.p), (fa50_0 S.p), (fa50_1 S.p), part_sc (ag4 S.p), part_sc (ag5 S.p), store_last (sz30 S.p), (sz30 S.p), cells_self, cells_other, set_self, set_other, s55 S, hb, hc, zeroH_cells, Hdr.len, Hdr.c0, Hdr.c2, Kls.c0, Kls.c1, nat_beq, Bool.false_and, Bool.true_and]
    exact Ends.some rfl
theorem s33 {P : Program} {T : Tab} {K d : Nat} (S : Sd P T K) (hd : 9 ≤ d) (c : Kls) (w : Nat) (hw : w < 18446744073709551616) (lk : Nat) (h : List AO) :
    ev P T K d 33 [.ag c.cells, .sc (.int .u64 (w : Nat))] lk h = some (.v (.sc (.bool (validK c w))), h) := by
  obtain ⟨d, rfl⟩ : ∃ k, d = k + 1 := ⟨d - 1, by omega⟩
  refine ev_pure (at33 S.t) rfl ?_
  unfold i33 Try.f33 validK biW
  have e1 : ((rdH w).kind == 4) = decide ((rdH w).kind = 4) := by
    by_cases k : (rdH w).kind = 4
    · rw [k]; rfl
    · rw [decide_eq_false k]; exact beq_false_of_ne k
  cases hr : rdOk w with
  | false =>
    simp (maxSteps := 1000000) (disch := first | omega | (simp (disch := first | omega | (simp only [Hdr.len, Hdr.fr, Kls.len, Kls.fr, List.length_append, List.length_cons, List.length_nil, List.length_set]; first | done | omega)) only [Hdr.len, Hdr.fr, Kls.len, Kls.fr, amSide, Int.reduceToNat, Nat.reducePow, Nat.reduceMul]; first | done | omega)) only  [↓amPre, amPost, ↓s_lit', Nat.reduceAdd, Nat.reduceSub, List.replicate, retA, resultsA, resultA, toC, toCL, Nat.reduceEqDiff, (ze25 S.p), (fa25_0 S.p), (fa25_2 S.p), (fa47_0 S.p), (fa47_1 S.p), part_sc (ag3 S.p), part_sc (ag4 S.p), part_sc (ag5 S.p), store_last (sz25 S.p), (sz25 S.p), cells_self, cells_other, set_self, set_other, s23 S, hr, zeroH_cells, Hdr.len, Hdr.c0, Hdr.c2, Kls.c0, Kls.c1, Int.reduceBEq, Bool.false_eq_true, Bool.false_and]
    exact Ends.some rfl
  | true =>
    cases hk : decide ((rdH w).kind = 4) <;> cases hc : c.bias
    all_goals
      simp (maxSteps := 1000000) (disch := first | omega | (simp (disch := first | omega | (simp only [Hdr.len, Hdr.fr, Kls.len, Kls.fr, List.length_append, List.length_cons, List.length_nil, List.length_set]; first | done | omega)) only [Hdr.len, Hdr.fr, Kls.len, Kls.fr, amSide, Int.reduceToNat, Nat.reducePow, Nat.reduceMul]; first | done | omega)) only  [↓amPre, amPost, ↓s_lit', Nat.reduceAdd, Nat.reduceSub, List.replicate, retA, resultsA, resultA, toC, toCL, Nat.reduceEqDiff, (ze25 S.p), (fa25_0 S.p), (fa25_2 S.p), (fa47_0 S.p), (fa47_1 S.p), part_sc (ag3 S.p), part_sc (ag4 S.p), part_sc (ag5 S.p), store_last (sz25 S.p), (sz25 S.p), cells_self, cells_other, set_self, set_other, s23 S, hr, hk, hc, e1, zeroH_cells, Hdr.len, Hdr.c0, Hdr.c2, Kls.c0, Kls.c1, nat_beq, Int.reduceBEq, beq_self_eq_true, Bool.false_and, Bool.true_and]
      exact Ends.some rfl
def hdrK (c : Kls) : Nat := if c.bias then 5 + c.ep * 256 else 1
theorem may_b (e : Nat) : (⟨4, 0, e, 0, 0, 0, 0, 0⟩ : Hdr).may = true ↔ (⟨4, 0, e, 0, 0, 0, 0, 0⟩ : Hdr).may = true := Iff.rfl
theorem hdr_b (e : Nat) (he : e < 256) : (⟨4, 0, e, 0, 0, 0, 0, 0⟩ : Hdr).ok ∧ (⟨4, 0, e, 0, 0, 0, 0, 0⟩ : Hdr).may = true ∧ (⟨4, 0, e, 0, 0, 0, 0, 0⟩ : Hdr).word = 5 + e * 256 := by
  have ho : (⟨4, 0, e, 0, 0, 0, 0, 0⟩ : Hdr).ok := by simp [Hdr.ok, he]
  refine ⟨ho, ?_, ?_⟩
  · rw [may_eq _ ho]; simp [Hdr.fits, keptH]
  · simp [Hdr.word, Hdr.fits]
theorem hdr_n : (⟨2, 0, 0, 0, 0, 0, 0, 0⟩ : Hdr).ok ∧ (⟨2, 0, 0, 0, 0, 0, 0, 0⟩ : Hdr).may = true ∧ (⟨2, 0, 0, 0, 0, 0, 0, 0⟩ : Hdr).word = 1 := by
  have ho : (⟨2, 0, 0, 0, 0, 0, 0, 0⟩ : Hdr).ok := by simp [Hdr.ok]
  refine ⟨ho, ?_, ?_⟩
  · rw [may_eq _ ho]; simp [Hdr.fits, keptH]
  · simp [Hdr.word, Hdr.fits]
theorem s15n {P : Program} {T : Tab} {K d : Nat} (S : Sd P T K) (hd : 8 ≤ d) (lk : Nat) (h : List AO) :
    ev P T K d 15 [.ag [.int .i64 2, .int .u8 0, .int .u8 0, .int .u32 0, .int .u16 0, .int .u16 0, .int .u16 0, .int .u32 0]] lk h = some (.tup [.sc (.int .u64 1), .sc (.int .i64 0)], h) := by
  obtain ⟨o, m, w⟩ := hdr_n
  have := s15 S hd _ o lk h
  rw [m, w] at this; exact this
theorem s17n {P : Program} {T : Tab} {K d : Nat} (S : Sd P T K) (hd : 3 ≤ d) (lk : Nat) (h : List AO) :
    ev P T K d 17 [.ag [.int .i64 2, .int .u8 0, .int .u8 0, .int .u32 0, .int .u16 0, .int .u16 0, .int .u16 0, .int .u32 0]] lk h = some (.tup [.sc (.int .u64 1), .sc (.int .i64 0)], h) := by
  obtain ⟨o, m, w⟩ := hdr_n
  have := s17 S hd _ o lk h
  rw [m, w] at this; exact this
theorem s15b {P : Program} {T : Tab} {K d : Nat} (S : Sd P T K) (hd : 8 ≤ d) (e : Nat) (he : e < 256) (lk : Nat) (h : List AO) :
    ev P T K d 15 [.ag [.int .i64 4, .int .u8 0, .int .u8 (e : Nat), .int .u32 0, .int .u16 0, .int .u16 0, .int .u16 0, .int .u32 0]] lk h = some (.tup [.sc (.int .u64 ((5 + e * 256 : Nat) : Int)), .sc (.int .i64 0)], h) := by
  obtain ⟨o, m, w⟩ := hdr_b e he
  have := s15 S hd _ o lk h
  rw [m, w] at this; exact this
theorem s17b {P : Program} {T : Tab} {K d : Nat} (S : Sd P T K) (hd : 3 ≤ d) (e : Nat) (he : e < 256) (lk : Nat) (h : List AO) :
    ev P T K d 17 [.ag [.int .i64 4, .int .u8 0, .int .u8 (e : Nat), .int .u32 0, .int .u16 0, .int .u16 0, .int .u16 0, .int .u32 0]] lk h = some (.tup [.sc (.int .u64 ((5 + e * 256 : Nat) : Int)), .sc (.int .i64 0)], h) := by
  obtain ⟨o, m, w⟩ := hdr_b e he
  have := s17 S hd _ o lk h
  rw [m, w] at this; exact this
theorem s30 {P : Program} {T : Tab} {K d : Nat} (S : Sd P T K) (hd : 9 ≤ d) (c : Kls) (hc : c.ok) (lk : Nat) (h : List AO) : ev P T K d 30 [.ag c.cells] lk h = some (.v (.sc (.int .u64 ((hdrK c : Nat) : Int))), h) := by
  obtain ⟨d, rfl⟩ : ∃ k, d = k + 1 := ⟨d - 1, by omega⟩
  refine ev_pure (at30 S.t) rfl ?_
  unfold i30 Try.f30 hdrK
  unfold Kls.ok at hc
  cases hb : c.bias
  all_goals
    simp (maxSteps := 1000000) (disch := first | omega | (simp (disch := first | omega | (simp only [Hdr.len, Hdr.fr, Kls.len, Kls.fr, List.length_append, List.length_cons, List.length_nil, List.length_set]; first | done | omega)) only [Hdr.len, Hdr.fr, Kls.len, Kls.fr, amSide, Int.reduceToNat, Nat.reducePow, Nat.reduceMul]; first | done | omega)) only  [↓amPre, amPost, ↓s_lit', Nat.reduceAdd, Nat.reduceSub, List.replicate, retA, resultsA, resultA, toC, toCL, Nat.reduceEqDiff, (ze30 S.p), (bu30 S.p), (fa50_0 S.p), (fa50_1 S.p), part_all (ag30 S.p) (sz30 S.p), part_at (ag30 S.p) (sz30 S.p), part_sc (ag4 S.p), part_sc (ag5 S.p), store_last (sz30 S.p), (sz30 S.p), splice_def, cells_self, cells_other, set_self, set_other, s15n S, s15b S, hb, Hdr.len, Kls.c0, Kls.c1, Bool.false_eq_true]
    exact Ends.some rfl
theorem s31 {P : Program} {T : Tab} {K d : Nat} (S : Sd P T K) (hd : 9 ≤ d) (c : Kls) (hc : c.ok) (lk : Nat) (h : List AO) : ev P T K d 31 [.ag c.cells] lk h = some (.v (.sc (.int .u64 ((hdrK c : Nat) : Int))), h) := by
  obtain ⟨d, rfl⟩ : ∃ k, d = k + 1 := ⟨d - 1, by omega⟩
  refine ev_pure (at31 S.t) rfl ?_
  unfold i31 Try.f31 hdrK
  unfold Kls.ok at hc
  cases hb : c.bias
  all_goals
    simp (maxSteps := 1000000) (disch := first | omega | (simp (disch := first | omega | (simp only [Hdr.len, Hdr.fr, Kls.len, Kls.fr, List.length_append, List.length_cons, List.length_nil, List.length_set]; first | done | omega)) only [Hdr.len, Hdr.fr, Kls.len, Kls.fr, amSide, Int.reduceToNat, Nat.reducePow, Nat.reduceMul]; first | done | omega)) only  [↓amPre, amPost, ↓s_lit', Nat.reduceAdd, Nat.reduceSub, List.replicate, retA, resultsA, resultA, toC, toCL, Nat.reduceEqDiff, (ze25 S.p), (bu25 S.p), (fa47_0 S.p), (fa47_1 S.p), part_all (ag25 S.p) (sz25 S.p), part_at (ag25 S.p) (sz25 S.p), part_sc (ag4 S.p), part_sc (ag5 S.p), store_last (sz25 S.p), (sz25 S.p), splice_def, cells_self, cells_other, set_self, set_other, s17n S, s17b S, hb, Hdr.len, Kls.c0, Kls.c1, Bool.false_eq_true]
    exact Ends.some rfl
/-- A word made Fresh: its header. -/
def frH (w : Nat) (c : Kls) : Hdr := { rdH w with ep := c.ep }
theorem fr_may {w : Nat} {c : Kls} (hc : c.ok) (hb : biW w = true) : (frH w c).ok ∧ (frH w c).may = true ∧ (frH w c).kind = 4 := by
  unfold Kls.ok at hc
  unfold biW at hb
  simp only [Bool.and_eq_true, decide_eq_true_eq] at hb
  obtain ⟨hr, hk⟩ := hb
  obtain ⟨hf, _, hm⟩ := rd_fits hr
  have ha := fits_age hf (.inr hk)
  have ho := rdH_ok w
  rw [may_eq _ ho] at hm
  simp only [Bool.and_eq_true, decide_eq_true_eq] at hm
  have hq := hm.2
  unfold keptH at hq
  simp only [hk, Int.reduceEq, if_true, if_false] at hq
  have q3 := congrArg Hdr.hash hq
  have q5 := congrArg Hdr.rcd hq
  have q6 := congrArg Hdr.slot hq
  have q7 := congrArg Hdr.gen hq
  simp only at q3 q5 q6 q7
  obtain ⟨b1, b2, b3, b4, b5, b6, b7⟩ := ho
  have o2 : (frH w c).ok := by simp only [Hdr.ok, frH]; omega
  refine ⟨o2, ?_, hk⟩
  rw [may_eq _ o2]
  simp only [Hdr.fits, keptH, frH, hk, Int.reduceEq, if_true, if_false, Bool.and_eq_true, decide_eq_true_eq, Hdr.mk.injEq]
  exact ⟨ha, trivial, trivial, trivial, q3, trivial, q5, q6, q7⟩
def frW (w : Nat) (c : Kls) : Nat := if biW w then (frH w c).word else 0
theorem s27 {P : Program} {T : Tab} {K d : Nat} (S : Sd P T K) (hd : 9 ≤ d) (c : Kls) (hc : c.ok) (w : Nat) (hw : w < 18446744073709551616) (lk : Nat) (h : List AO) :
    ev P T K d 27 [.sc (.int .u64 (w : Nat)), .ag c.cells] lk h = some (.tup [.sc (.int .u64 ((frW w c : Nat) : Int)), .sc (.bool (biW w))], h) := by
  obtain ⟨d, rfl⟩ : ∃ k, d = k + 1 := ⟨d - 1, by omega⟩
  refine ev_pure (at27 S.t) rfl ?_
  unfold i27 Try.f27 frW
  cases hb : biW w with
  | false =>
    simp (maxSteps := 1000000) (disch := first | omega | (simp (disch := first | omega | (simp only [Hdr.len, Hdr.fr, Kls.len, Kls.fr, List.length_append, List.length_cons, List.length_nil, List.length_set]; first | done | omega)) only [Hdr.len, Hdr.fr, Kls.len, Kls.fr, amSide, Int.reduceToNat, Nat.reducePow, Nat.reduceMul]; first | done | omega)) only  [↓amPre, amPost, ↓s_lit', Nat.reduceAdd, Nat.reduceSub, List.replicate, retA, resultsA, resultA, toC, toCL, Nat.reduceEqDiff, (ze30 S.p), (fa30_2 S.p), (fa50_1 S.p), part_all (ag30 S.p) (sz30 S.p), part_at (ag30 S.p) (sz30 S.p), part_sc (ag5 S.p), store_last (sz30 S.p), (sz30 S.p), store_last (sz5 S.p), (sz5 S.p), cells_self, cells_other, set_self, set_other, s55 S, hb, zeroH_cells, Hdr.len, Bool.false_eq_true]
    exact Ends.some rfl
  | true =>
    obtain ⟨yo, ym, yk⟩ := fr_may hc hb
    have e1 : (rdH w).cells.set 2 (.int .u8 (c.ep : Nat)) = (frH w c).cells := rfl
    simp (maxSteps := 1000000) (disch := first | omega | (simp (disch := first | omega | (simp only [Hdr.len, Hdr.fr, Kls.len, Kls.fr, List.length_append, List.length_cons, List.length_nil, List.length_set]; first | done | omega)) only [Hdr.len, Hdr.fr, Kls.len, Kls.fr, amSide, Int.reduceToNat, Nat.reducePow, Nat.reduceMul]; first | done | omega)) only  [↓amPre, amPost, ↓s_lit', Nat.reduceAdd, Nat.reduceSub, List.replicate, retA, resultsA, resultA, toC, toCL, Nat.reduceEqDiff, (ze30 S.p), (fa30_2 S.p), (fa50_1 S.p), part_all (ag30 S.p) (sz30 S.p), part_at (ag30 S.p) (sz30 S.p), part_sc (ag5 S.p), store_last (sz30 S.p), (sz30 S.p), store_last (sz5 S.p), (sz5 S.p), cells_self, cells_other, set_self, set_other, s55 S, s15 S _ (frH w c) yo, ym, e1, hb, zeroH_cells, Hdr.len, Kls.c1, beq_self_eq_true]
    exact Ends.some rfl
theorem s29 {P : Program} {T : Tab} {K d : Nat} (S : Sd P T K) (hd : 9 ≤ d) (c : Kls) (hc : c.ok) (w : Nat) (hw : w < 18446744073709551616) (lk : Nat) (h : List AO) :
    ev P T K d 29 [.sc (.int .u64 (w : Nat)), .ag c.cells] lk h = some (.tup [.sc (.int .u64 ((frW w c : Nat) : Int)), .sc (.bool (biW w))], h) := by
  obtain ⟨d, rfl⟩ : ∃ k, d = k + 1 := ⟨d - 1, by omega⟩
  refine ev_pure (at29 S.t) rfl ?_
  unfold i29 Try.f29 frW
  cases hb : biW w with
  | false =>
    cases hr : rdOk w with
    | false =>
      simp (maxSteps := 1000000) (disch := first | omega | (simp (disch := first | omega | (simp only [Hdr.len, Hdr.fr, Kls.len, Kls.fr, List.length_append, List.length_cons, List.length_nil, List.length_set]; first | done | omega)) only [Hdr.len, Hdr.fr, Kls.len, Kls.fr, amSide, Int.reduceToNat, Nat.reducePow, Nat.reduceMul]; first | done | omega)) only  [↓amPre, amPost, ↓s_lit', Nat.reduceAdd, Nat.reduceSub, List.replicate, retA, resultsA, resultA, toC, toCL, Nat.reduceEqDiff, (ze25 S.p), (fa25_0 S.p), (fa25_2 S.p), (fa47_1 S.p), part_all (ag25 S.p) (sz25 S.p), part_at (ag25 S.p) (sz25 S.p), part_sc (ag3 S.p), part_sc (ag5 S.p), store_last (sz25 S.p), (sz25 S.p), store_last (sz5 S.p), (sz5 S.p), cells_self, cells_other, set_self, set_other, s23 S, hr, zeroH_cells, Hdr.len, Hdr.c0, Int.reduceBNe, Bool.false_eq_true]
      exact Ends.some rfl
    | true =>
      have e1 : ((rdH w).kind != 4) = true := by
        unfold biW at hb; rw [hr] at hb; simp only [Bool.true_and, decide_eq_false_iff_not] at hb; simp [hb]
      simp (maxSteps := 1000000) (disch := first | omega | (simp (disch := first | omega | (simp only [Hdr.len, Hdr.fr, Kls.len, Kls.fr, List.length_append, List.length_cons, List.length_nil, List.length_set]; first | done | omega)) only [Hdr.len, Hdr.fr, Kls.len, Kls.fr, amSide, Int.reduceToNat, Nat.reducePow, Nat.reduceMul]; first | done | omega)) only  [↓amPre, amPost, ↓s_lit', Nat.reduceAdd, Nat.reduceSub, List.replicate, retA, resultsA, resultA, toC, toCL, Nat.reduceEqDiff, (ze25 S.p), (fa25_0 S.p), (fa25_2 S.p), (fa47_1 S.p), part_all (ag25 S.p) (sz25 S.p), part_at (ag25 S.p) (sz25 S.p), part_sc (ag3 S.p), part_sc (ag5 S.p), store_last (sz25 S.p), (sz25 S.p), store_last (sz5 S.p), (sz5 S.p), cells_self, cells_other, set_self, set_other, s23 S, hr, e1, zeroH_cells, Hdr.len, Hdr.c0, bne_self_eq_false, Bool.false_eq_true]
      exact Ends.some rfl
  | true =>
    obtain ⟨yo, ym, yk⟩ := fr_may hc hb
    have hb2 := hb
    unfold biW at hb2
    simp only [Bool.and_eq_true, decide_eq_true_eq] at hb2
    have e1 : (rdH w).cells.set 2 (.int .u8 (c.ep : Nat)) = (frH w c).cells := rfl
    simp (maxSteps := 1000000) (disch := first | omega | (simp (disch := first | omega | (simp only [Hdr.len, Hdr.fr, Kls.len, Kls.fr, List.length_append, List.length_cons, List.length_nil, List.length_set]; first | done | omega)) only [Hdr.len, Hdr.fr, Kls.len, Kls.fr, amSide, Int.reduceToNat, Nat.reducePow, Nat.reduceMul]; first | done | omega)) only  [↓amPre, amPost, ↓s_lit', Nat.reduceAdd, Nat.reduceSub, List.replicate, retA, resultsA, resultA, toC, toCL, Nat.reduceEqDiff, (ze25 S.p), (fa25_0 S.p), (fa25_2 S.p), (fa47_1 S.p), part_all (ag25 S.p) (sz25 S.p), part_at (ag25 S.p) (sz25 S.p), part_sc (ag3 S.p), part_sc (ag5 S.p), store_last (sz25 S.p), (sz25 S.p), store_last (sz5 S.p), (sz5 S.p), cells_self, cells_other, set_self, set_other, s23 S, s17 S _ (frH w c) yo, ym, e1, hb2, zeroH_cells, Hdr.len, Hdr.c0, Kls.c1, bne_self_eq_false]
    exact Ends.some rfl
theorem s28 {P : Program} {T : Tab} {K d : Nat} (S : Sd P T K) (hd : 1 ≤ d) (c : Kls) (lk : Nat) (h : List AO) : ev P T K d 28 [.ag c.cells] lk h = some (.v (.ag c.cells), h) := by
  obtain ⟨d, rfl⟩ : ∃ k, d = k + 1 := ⟨d - 1, by omega⟩
  refine ev_pure (at28 S.t) (by simp only [freeA, freeC, Kls.cells, freeL, freeS, Option.bind_some, Option.map_some, Option.isSome_some]) ?_
  unfold i28 Try.f28
  simp (maxSteps := 1000000) (disch := first | omega | (simp (disch := first | omega | (simp only [Hdr.len, Hdr.fr, Kls.len, Kls.fr, List.length_append, List.length_cons, List.length_nil, List.length_set]; first | done | omega)) only [Hdr.len, Hdr.fr, Kls.len, Kls.fr, amSide, Int.reduceToNat, Nat.reducePow, Nat.reduceMul]; first | done | omega)) only  [↓amPre, amPost, ↓s_lit', Nat.reduceAdd, Nat.reduceSub, List.replicate, retA, resultsA, resultA, toC, toCL, Nat.reduceEqDiff, (ze50 S.p), (bu50 S.p), (fa47_0 S.p), (fa47_1 S.p), (fa47_2 S.p), part_sc (ag3 S.p), part_sc (ag4 S.p), part_sc (ag5 S.p), part_all (ag50 S.p) (sz50 S.p), part_at (ag50 S.p) (sz50 S.p), store_last (sz50 S.p), (sz50 S.p), splice_def, cells_self, cells_other, set_self, set_other, Kls.c0, Kls.c1, Kls.c2]
  exact Ends.some rfl
def anew (c : Kls) : Kls := { c with ep := (c.ep + 1) % 256 }
def never (c : Kls) : Kls := { c with bias := false }
theorem s35 {P : Program} {T : Tab} {K d : Nat} (S : Sd P T K) (hd : 1 ≤ d) (c : Kls) (lk : Nat) (h : List AO) : ev P T K d 35 [.ag c.cells] lk h = some (.v (.ag (anew c).cells), h) := by
  obtain ⟨d, rfl⟩ : ∃ k, d = k + 1 := ⟨d - 1, by omega⟩
  refine ev_pure (at35 S.t) (by simp only [freeA, freeC, Kls.cells, freeL, freeS, Option.bind_some, Option.map_some, Option.isSome_some]) ?_
  unfold i35 Try.f35
  have e1 : IntKind.u8.wrap ((c.ep : Int) + 1) = (((c.ep + 1) % 256 : Nat) : Int) := by
    simp only [IntKind.wrap, IntKind.bits, IntKind.signed]; simp
  have e2 : c.cells.set 1 (.int .u8 (((c.ep + 1) % 256 : Nat) : Int)) = (anew c).cells := rfl
  simp (maxSteps := 1000000) (disch := first | omega | (simp (disch := first | omega | (simp only [Hdr.len, Hdr.fr, Kls.len, Kls.fr, List.length_append, List.length_cons, List.length_nil, List.length_set]; first | done | omega)) only [Hdr.len, Hdr.fr, Kls.len, Kls.fr, amSide, Int.reduceToNat, Nat.reducePow, Nat.reduceMul]; first | done | omega)) only  [↓amPre, amPost, ↓s_lit', Nat.reduceAdd, Nat.reduceSub, List.replicate, retA, resultsA, resultA, toC, toCL, Nat.reduceEqDiff, (ze50 S.p), (fa50_1 S.p), part_sc (ag5 S.p), part_all (ag50 S.p) (sz50 S.p), part_at (ag50 S.p) (sz50 S.p), store_last (sz5 S.p), (sz5 S.p), store_last (sz50 S.p), (sz50 S.p), cells_self, cells_other, set_self, set_other, Kls.len, Kls.c1, e1, e2]
  exact Ends.some rfl
theorem s36 {P : Program} {T : Tab} {K d : Nat} (S : Sd P T K) (hd : 1 ≤ d) (c : Kls) (lk : Nat) (h : List AO) : ev P T K d 36 [.ag c.cells] lk h = some (.v (.ag (never c).cells), h) := by
  obtain ⟨d, rfl⟩ : ∃ k, d = k + 1 := ⟨d - 1, by omega⟩
  refine ev_pure (at36 S.t) (by simp only [freeA, freeC, Kls.cells, freeL, freeS, Option.bind_some, Option.map_some, Option.isSome_some]) ?_
  unfold i36 Try.f36
  have e2 : c.cells.set 0 (.bool false) = (never c).cells := rfl
  simp (maxSteps := 1000000) (disch := first | omega | (simp (disch := first | omega | (simp only [Hdr.len, Hdr.fr, Kls.len, Kls.fr, List.length_append, List.length_cons, List.length_nil, List.length_set]; first | done | omega)) only [Hdr.len, Hdr.fr, Kls.len, Kls.fr, amSide, Int.reduceToNat, Nat.reducePow, Nat.reduceMul]; first | done | omega)) only  [↓amPre, amPost, ↓s_lit', Nat.reduceAdd, Nat.reduceSub, List.replicate, retA, resultsA, resultA, toC, toCL, Nat.reduceEqDiff, (ze50 S.p), (fa50_0 S.p), part_all (ag50 S.p) (sz50 S.p), part_at (ag50 S.p) (sz50 S.p), store_last (sz4 S.p), (sz4 S.p), store_last (sz50 S.p), (sz50 S.p), cells_self, cells_other, set_self, set_other, Kls.len, Kls.c0, e2]
  exact Ends.some rfl
end Go.AM
