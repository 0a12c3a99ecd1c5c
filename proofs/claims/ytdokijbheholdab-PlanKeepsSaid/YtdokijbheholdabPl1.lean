/- Plans: the change of one object. Conditions: none. -/
import Derived.Test.YtdokijbheholdabKl2
set_option linter.unusedVariables false
set_option linter.unusedSimpArgs false
set_option maxRecDepth 100000
namespace Go.AM
open Go.Proofs
-- LENS: Hdr.len, Hdr.fr, Obj.len, chg_len, chg_fr
/-- A slice of whole numbers. -/
def Sl (h : List AO) (q : SV) (cnt : List Int) : Prop := (q = .nils ∧ cnt = []) ∨ ∃ l, q = .sl l 0 cnt.length 1 ∧ l < h.length ∧ cellsAt h l = some (cnt.map (SV.int .i64))
theorem Sl.push {h : List AO} {q : SV} {cnt : List Int} (H : Sl h q cnt) (o : AO) : Sl (h ++ [o]) q cnt := by
  rcases H with H | ⟨l, h1, h2, h3⟩
  · exact .inl H
  · exact .inr ⟨l, h1, by simp; omega, by rw [cells_other l o h2]; exact h3⟩
def Obj (w : Nat) (k : Int) (q : SV) : List SV := [.int .u64 (w : Nat), .int .i64 k, q]
theorem Obj.len (w : Nat) (k : Int) (q : SV) : (Obj w k q).length = 3 := nrfl rfl
theorem Obj.c0 (w : Nat) (k : Int) (q : SV) : (Obj w k q)[0]? = some (.int .u64 (w : Nat)) := nrfl rfl
theorem Obj.c1 (w : Nat) (k : Int) (q : SV) : (Obj w k q)[1]? = some (.int .i64 k) := nrfl rfl
theorem Obj.c2 (w : Nat) (k : Int) (q : SV) : (Obj w k q)[2]? = some q := nrfl rfl
def chg (o : Int) (w : Nat) (u : Int) (s : Nat) : List SV := [.int .i64 o, .int .u64 (w : Nat), .int .i64 u, .int .u64 (s : Nat)]
theorem chg_len (o : Int) (w : Nat) (u : Int) (s : Nat) : (chg o w u s).length = 4 := nrfl rfl
theorem chg_fr (o : Int) (w : Nat) (u : Int) (s : Nat) : (freeL (chg o w u s)).isSome = true := nrfl rfl
theorem chg_0 (o : Int) (w : Nat) (u : Int) (s : Nat) : (chg o w u s)[0]? = some (.int .i64 o) := nrfl rfl
theorem chg_1 (o : Int) (w : Nat) (u : Int) (s : Nat) : (chg o w u s)[1]? = some (.int .u64 (w : Nat)) := nrfl rfl
theorem chg_2 (o : Int) (w : Nat) (u : Int) (s : Nat) : (chg o w u s)[2]? = some (.int .i64 u) := nrfl rfl
theorem chg_3 (o : Int) (w : Nat) (u : Int) (s : Nat) : (chg o w u s)[3]? = some (.int .u64 (s : Nat)) := nrfl rfl
/-- Who owns, by a word. -/
def ownW (w : Nat) : Int := if (rdH w).kind = 4 ∨ (rdH w).kind = 1 then ((rdH w).own : Int) - 1 else -1
theorem kind_beq (a b : Int) : (a == b) = decide (a = b) := by
  by_cases k : a = b
  · rw [k]; simp
  · rw [decide_eq_false k]; exact beq_false_of_ne k
theorem ownW_le (w : Nat) : -1 ≤ ownW w ∧ ownW w ≤ 65534 := by
  have := rdH_ok w
  unfold Hdr.ok at this
  unfold ownW
  split <;> omega
theorem s42 {P : Program} {T : Tab} {K d : Nat} (S : Sd P T K) (hd : 8 ≤ d) (w : Nat) (hw : w < 18446744073709551616) (lk : Nat) (h : List AO) :
    ev P T K d 42 [.sc (.int .u64 (w : Nat))] lk h = some (.v (.sc (.int .i64 (ownW w))), h) := by
  obtain ⟨d, rfl⟩ : ∃ k, d = k + 1 := ⟨d - 1, by omega⟩
  refine ev_pure (at42 S.t) rfl ?_
  unfold i42 Try.f42
  have hb := rdH_ok w
  unfold Hdr.ok at hb
  unfold ownW
  generalize hx : rdH w = x at *
  obtain ⟨_, _, _, b4, _, _, _⟩ := hb
  have e0 : IntKind.i64.wrap (x.own : Int) = (x.own : Int) := wrap_i64 (by omega) (by omega)
  have e1 : IntKind.i64.wrap ((x.own : Int) + -1) = (x.own : Int) - 1 := by rw [wrap_i64 (by omega) (by omega)]; omega
  by_cases k4 : x.kind = 4
  · simp (maxSteps := 1000000) (disch := first | omega | (simp (disch := first | omega | (simp only [Hdr.len, Hdr.fr, Obj.len, chg_len, chg_fr, List.length_append, List.length_cons, List.length_nil, List.length_set]; first | done | omega)) only [Hdr.len, Hdr.fr, Obj.len, chg_len, chg_fr, amSide, Int.reduceToNat, Nat.reducePow, Nat.reduceMul]; first | done | omega)) only  [↓amPre, amPost, ↓s_lit', Nat.reduceAdd, Nat.reduceSub, List.replicate, retA, resultsA, resultA, toC, toCL, Nat.reduceEqDiff, (ze30 S.p), conv_int (un23 S.p) (un3 S.p), (fa30_0 S.p), (fa30_4 S.p), part_sc (ag23 S.p), part_sc (ag3 S.p), store_last (sz30 S.p), (sz30 S.p), cells_self, cells_other, set_self, set_other, s21 S, hx, zeroH_cells, Hdr.len, Hdr.c0, Hdr.c4, k4, beq_self_eq_true, e0, e1, true_or]
    exact Ends.some rfl
  by_cases k1 : x.kind = 1
  · simp (maxSteps := 1000000) (disch := first | omega | (simp (disch := first | omega | (simp only [Hdr.len, Hdr.fr, Obj.len, chg_len, chg_fr, List.length_append, List.length_cons, List.length_nil, List.length_set]; first | done | omega)) only [Hdr.len, Hdr.fr, Obj.len, chg_len, chg_fr, amSide, Int.reduceToNat, Nat.reducePow, Nat.reduceMul]; first | done | omega)) only  [↓amPre, amPost, ↓s_lit', Nat.reduceAdd, Nat.reduceSub, List.replicate, retA, resultsA, resultA, toC, toCL, Nat.reduceEqDiff, (ze30 S.p), conv_int (un23 S.p) (un3 S.p), (fa30_0 S.p), (fa30_4 S.p), part_sc (ag23 S.p), part_sc (ag3 S.p), store_last (sz30 S.p), (sz30 S.p), cells_self, cells_other, set_self, set_other, s21 S, hx, zeroH_cells, Hdr.len, Hdr.c0, Hdr.c4, k1, Int.reduceBEq, beq_self_eq_true, e0, e1, or_true]
    exact Ends.some rfl
  · have f4 : (x.kind == 4) = false := beq_false_of_ne k4
    have f1 : (x.kind == 1) = false := beq_false_of_ne k1
    simp (maxSteps := 1000000) (disch := first | omega | (simp (disch := first | omega | (simp only [Hdr.len, Hdr.fr, Obj.len, chg_len, chg_fr, List.length_append, List.length_cons, List.length_nil, List.length_set]; first | done | omega)) only [Hdr.len, Hdr.fr, Obj.len, chg_len, chg_fr, amSide, Int.reduceToNat, Nat.reducePow, Nat.reduceMul]; first | done | omega)) only  [↓amPre, amPost, ↓s_lit', Nat.reduceAdd, Nat.reduceSub, List.replicate, retA, resultsA, resultA, toC, toCL, Nat.reduceEqDiff, (ze30 S.p), conv_int (un23 S.p) (un3 S.p), (fa30_0 S.p), (fa30_4 S.p), part_sc (ag23 S.p), part_sc (ag3 S.p), store_last (sz30 S.p), (sz30 S.p), cells_self, cells_other, set_self, set_other, s21 S, hx, zeroH_cells, Hdr.len, Hdr.c0, f4, f1, k4, k1, or_self]
    exact Ends.some rfl
theorem s43 {P : Program} {T : Tab} {K d : Nat} (S : Sd P T K) (hd : 8 ≤ d) (w : Nat) (hw : w < 18446744073709551616) (lk : Nat) (h : List AO) :
    ev P T K d 43 [.sc (.int .u64 (w : Nat))] lk h = some (.v (.sc (.int .i64 (ownW w))), h) := by
  obtain ⟨d, rfl⟩ : ∃ k, d = k + 1 := ⟨d - 1, by omega⟩
  refine ev_pure (at43 S.t) rfl ?_
  unfold i43 Try.f43
  have hb := rdH_ok w
  unfold Hdr.ok at hb
  have hz : rdOk w = false → (rdH w).kind = 0 := fun hr => by simp [rdH, hr, zeroH]
  unfold ownW
  generalize hx : rdH w = x at *
  obtain ⟨_, _, _, b4, _, _, _⟩ := hb
  have e0 : IntKind.i64.wrap (x.own : Int) = (x.own : Int) := wrap_i64 (by omega) (by omega)
  have e1 : IntKind.i64.wrap ((x.own : Int) - 1) = (x.own : Int) - 1 := by rw [wrap_i64 (by omega) (by omega)]
  cases hr : rdOk w with
  | false =>
    have k0 := hz hr
    simp (maxSteps := 1000000) (disch := first | omega | (simp (disch := first | omega | (simp only [Hdr.len, Hdr.fr, Obj.len, chg_len, chg_fr, List.length_append, List.length_cons, List.length_nil, List.length_set]; first | done | omega)) only [Hdr.len, Hdr.fr, Obj.len, chg_len, chg_fr, amSide, Int.reduceToNat, Nat.reducePow, Nat.reduceMul]; first | done | omega)) only  [↓amPre, amPost, ↓s_lit', Nat.reduceAdd, Nat.reduceSub, List.replicate, retA, resultsA, resultA, toC, toCL, Nat.reduceEqDiff, (ze25 S.p), conv_int (un23 S.p) (un3 S.p), (fa25_0 S.p), (fa25_4 S.p), part_sc (ag23 S.p), part_sc (ag3 S.p), store_last (sz25 S.p), (sz25 S.p), cells_self, cells_other, set_self, set_other, s23 S, hx, hr, zeroH_cells, Hdr.len, Hdr.c0, Hdr.c4, k0, Int.reduceBEq, Int.reduceEq, Bool.false_eq_true, or_self]
    exact Ends.some rfl
  | true =>
    by_cases k4 : x.kind = 4
    · simp (maxSteps := 1000000) (disch := first | omega | (simp (disch := first | omega | (simp only [Hdr.len, Hdr.fr, Obj.len, chg_len, chg_fr, List.length_append, List.length_cons, List.length_nil, List.length_set]; first | done | omega)) only [Hdr.len, Hdr.fr, Obj.len, chg_len, chg_fr, amSide, Int.reduceToNat, Nat.reducePow, Nat.reduceMul]; first | done | omega)) only  [↓amPre, amPost, ↓s_lit', Nat.reduceAdd, Nat.reduceSub, List.replicate, retA, resultsA, resultA, toC, toCL, Nat.reduceEqDiff, (ze25 S.p), conv_int (un23 S.p) (un3 S.p), (fa25_0 S.p), (fa25_4 S.p), part_sc (ag23 S.p), part_sc (ag3 S.p), store_last (sz25 S.p), (sz25 S.p), cells_self, cells_other, set_self, set_other, s23 S, hx, hr, zeroH_cells, Hdr.len, Hdr.c0, Hdr.c4, k4, beq_self_eq_true, e0, e1, true_or]
      exact Ends.some rfl
    by_cases k1 : x.kind = 1
    · simp (maxSteps := 1000000) (disch := first | omega | (simp (disch := first | omega | (simp only [Hdr.len, Hdr.fr, Obj.len, chg_len, chg_fr, List.length_append, List.length_cons, List.length_nil, List.length_set]; first | done | omega)) only [Hdr.len, Hdr.fr, Obj.len, chg_len, chg_fr, amSide, Int.reduceToNat, Nat.reducePow, Nat.reduceMul]; first | done | omega)) only  [↓amPre, amPost, ↓s_lit', Nat.reduceAdd, Nat.reduceSub, List.replicate, retA, resultsA, resultA, toC, toCL, Nat.reduceEqDiff, (ze25 S.p), conv_int (un23 S.p) (un3 S.p), (fa25_0 S.p), (fa25_4 S.p), part_sc (ag23 S.p), part_sc (ag3 S.p), store_last (sz25 S.p), (sz25 S.p), cells_self, cells_other, set_self, set_other, s23 S, hx, hr, zeroH_cells, Hdr.len, Hdr.c0, Hdr.c4, k1, Int.reduceBEq, beq_self_eq_true, e0, e1, or_true]
      exact Ends.some rfl
    · have f4 : (x.kind == 4) = false := beq_false_of_ne k4
      have f1 : (x.kind == 1) = false := beq_false_of_ne k1
      simp (maxSteps := 1000000) (disch := first | omega | (simp (disch := first | omega | (simp only [Hdr.len, Hdr.fr, Obj.len, chg_len, chg_fr, List.length_append, List.length_cons, List.length_nil, List.length_set]; first | done | omega)) only [Hdr.len, Hdr.fr, Obj.len, chg_len, chg_fr, amSide, Int.reduceToNat, Nat.reducePow, Nat.reduceMul]; first | done | omega)) only  [↓amPre, amPost, ↓s_lit', Nat.reduceAdd, Nat.reduceSub, List.replicate, retA, resultsA, resultA, toC, toCL, Nat.reduceEqDiff, (ze25 S.p), conv_int (un23 S.p) (un3 S.p), (fa25_0 S.p), (fa25_4 S.p), part_sc (ag23 S.p), part_sc (ag3 S.p), store_last (sz25 S.p), (sz25 S.p), cells_self, cells_other, set_self, set_other, s23 S, hx, hr, zeroH_cells, Hdr.len, Hdr.c0, f4, f1, k4, k1, beq_self_eq_true, or_self]
      exact Ends.some rfl
/-- Has a thread a record? -/
def hasC (cnt : List Int) (u : Int) : Bool := decide (0 ≤ u) && decide (u < cnt.length) && decide (0 < cnt.getD u.toNat 0)
theorem cnt_at (cnt : List Int) (i : Nat) (hi : i < cnt.length) : (cnt.map (SV.int .i64))[i]? = some (.int .i64 (cnt.getD i 0)) := by
  simp [List.getElem?_eq_getElem hi]
theorem s57 {P : Program} {T : Tab} {K d : Nat} (S : Sd P T K) (hd : 1 ≤ d) (w : Nat) (k : Int) (q : SV) (cnt : List Int) (u : Int) (lk : Nat) (h : List AO) (hS : Sl h q cnt) :
    ev P T K d 57 [.ag (Obj w k q), .sc (.int .i64 u)] lk h = some (.v (.sc (.bool (hasC cnt u))), h) := by
  obtain ⟨d, rfl⟩ : ∃ k, d = k + 1 := ⟨d - 1, by omega⟩
  refine ev_pure (at57 S.t) rfl ?_
  unfold i57 Try.f57 hasC
  by_cases h0 : 0 ≤ u
  · have d0 : decide (u ≥ 0) = true := decide_eq_true h0
    have d0' : decide (0 ≤ u) = true := decide_eq_true h0
    rcases hS with ⟨rfl, rfl⟩ | ⟨l, rfl, hl, hc⟩
    · have d1 : decide (u < 0) = false := decide_eq_false (by omega)
      have d2 : decide (u < ((0 : Nat) : Int)) = false := decide_eq_false (by simp; omega)
      simp (maxSteps := 1000000) (disch := first | omega | (simp (disch := first | omega | (simp only [Hdr.len, Hdr.fr, Obj.len, chg_len, chg_fr, List.length_append, List.length_cons, List.length_nil, List.length_set]; first | done | omega)) only [Hdr.len, Hdr.fr, Obj.len, chg_len, chg_fr, amSide, Int.reduceToNat, Nat.reducePow, Nat.reduceMul]; first | done | omega)) only  [↓amPre, amPost, ↓s_lit', Nat.reduceAdd, Nat.reduceSub, List.replicate, retA, resultsA, resultA, toC, toCL, Nat.reduceEqDiff, (fa62_2 S.p), iaddr_sl (un60 S.p) (sz3 S.p), len_sl (un60 S.p), len_nils (un60 S.p), part_sc (ag3 S.p), part_sc (ag60 S.p), cells_self, cells_other, set_self, set_other, Obj.len, Obj.c2, d0, d0', d1, d2, Bool.and_false, Bool.false_and]
      exact Ends.some rfl
    · by_cases h1 : u < cnt.length
      · have d1 : decide (u < (cnt.length : Int)) = true := decide_eq_true h1
        obtain ⟨n, rfl⟩ := Int.eq_ofNat_of_zero_le h0
        have hn : n < cnt.length := by omega
        have e2 : (0 ≤ (n : Int) ∧ (n : Int) < (cnt.length : Int)) = True := by simp; omega
        simp (maxSteps := 1000000) (disch := first | omega | (simp (disch := first | omega | (simp only [Hdr.len, Hdr.fr, Obj.len, chg_len, chg_fr, List.length_append, List.length_cons, List.length_nil, List.length_set]; first | done | omega)) only [Hdr.len, Hdr.fr, Obj.len, chg_len, chg_fr, amSide, Int.reduceToNat, Nat.reducePow, Nat.reduceMul]; first | done | omega)) only  [↓amPre, amPost, ↓s_lit', Nat.reduceAdd, Nat.reduceSub, List.replicate, retA, resultsA, resultA, toC, toCL, Nat.reduceEqDiff, (fa62_2 S.p), iaddr_sl (un60 S.p) (sz3 S.p), len_sl (un60 S.p), len_nils (un60 S.p), part_sc (ag3 S.p), part_sc (ag60 S.p), cells_self, cells_other, set_self, set_other, Obj.len, Obj.c2, d0, d0', d1, e2, hc, cnt_at, Int.toNat_natCast, Nat.mul_one, Nat.zero_add, Bool.true_and, gt_iff_lt]
        exact Ends.some rfl
      · have d1 : decide (u < (cnt.length : Int)) = false := decide_eq_false h1
        simp (maxSteps := 1000000) (disch := first | omega | (simp (disch := first | omega | (simp only [Hdr.len, Hdr.fr, Obj.len, chg_len, chg_fr, List.length_append, List.length_cons, List.length_nil, List.length_set]; first | done | omega)) only [Hdr.len, Hdr.fr, Obj.len, chg_len, chg_fr, amSide, Int.reduceToNat, Nat.reducePow, Nat.reduceMul]; first | done | omega)) only  [↓amPre, amPost, ↓s_lit', Nat.reduceAdd, Nat.reduceSub, List.replicate, retA, resultsA, resultA, toC, toCL, Nat.reduceEqDiff, (fa62_2 S.p), iaddr_sl (un60 S.p) (sz3 S.p), len_sl (un60 S.p), len_nils (un60 S.p), part_sc (ag3 S.p), part_sc (ag60 S.p), cells_self, cells_other, set_self, set_other, Obj.len, Obj.c2, d0, d0', d1, Bool.and_false, Bool.false_and]
        exact Ends.some rfl
  · have d0 : decide (u ≥ 0) = false := decide_eq_false h0
    have d0' : decide (0 ≤ u) = false := decide_eq_false h0
    simp (maxSteps := 1000000) (disch := first | omega | (simp (disch := first | omega | (simp only [Hdr.len, Hdr.fr, Obj.len, chg_len, chg_fr, List.length_append, List.length_cons, List.length_nil, List.length_set]; first | done | omega)) only [Hdr.len, Hdr.fr, Obj.len, chg_len, chg_fr, amSide, Int.reduceToNat, Nat.reducePow, Nat.reduceMul]; first | done | omega)) only  [↓amPre, amPost, ↓s_lit', Nat.reduceAdd, Nat.reduceSub, List.replicate, retA, resultsA, resultA, toC, toCL, Nat.reduceEqDiff, (fa62_2 S.p), iaddr_sl (un60 S.p) (sz3 S.p), len_sl (un60 S.p), len_nils (un60 S.p), part_sc (ag3 S.p), part_sc (ag60 S.p), cells_self, cells_other, set_self, set_other, Obj.len, Obj.c2, d0, d0', Bool.false_and]
    exact Ends.some rfl
theorem s56 {P : Program} {T : Tab} {K d : Nat} (S : Sd P T K) (hd : 9 ≤ d) (w : Nat) (hw : w < 18446744073709551616) (k : Int) (q : SV) (cnt : List Int) (lk : Nat) (h : List AO) (hS : Sl h q cnt) :
    ev P T K d 56 [.ag (Obj w k q)] lk h = some (.v (.sc (.int .i64 (if hasC cnt (ownW w) then ownW w else -1))), h) := by
  obtain ⟨d, rfl⟩ : ∃ k, d = k + 1 := ⟨d - 1, by omega⟩
  refine ev_pure (at56 S.t) rfl ?_
  unfold i56 Try.f56 hasC
  have s42' : ∀ lk h, ev P T K d 42 [.sc (.int .u64 (w : Nat))] lk h = some (.v (.sc (.int .i64 (ownW w))), h) := fun lk h => s42 S (by omega) w hw lk h
  generalize ownW w = u at *
  by_cases h0 : u < 0
  · have d0 : decide (u < 0) = true := decide_eq_true h0
    have d0' : decide (0 ≤ u) = false := decide_eq_false (by omega)
    simp (maxSteps := 1000000) (disch := first | omega | (simp (disch := first | omega | (simp only [Hdr.len, Hdr.fr, Obj.len, chg_len, chg_fr, List.length_append, List.length_cons, List.length_nil, List.length_set]; first | done | omega)) only [Hdr.len, Hdr.fr, Obj.len, chg_len, chg_fr, amSide, Int.reduceToNat, Nat.reducePow, Nat.reduceMul]; first | done | omega)) only  [↓amPre, amPost, ↓s_lit', Nat.reduceAdd, Nat.reduceSub, List.replicate, retA, resultsA, resultA, toC, toCL, Nat.reduceEqDiff, (fa67_0 S.p), (fa67_2 S.p), iaddr_sl (un60 S.p) (sz3 S.p), len_sl (un60 S.p), len_nils (un60 S.p), part_sc (ag26 S.p), part_sc (ag3 S.p), part_sc (ag60 S.p), cells_self, cells_other, set_self, set_other, Obj.len, Obj.c0, Obj.c2, s42', d0, d0', Bool.false_and, Bool.false_eq_true]
    exact Ends.some rfl
  · have d0 : decide (u < 0) = false := decide_eq_false h0
    have d0' : decide (0 ≤ u) = true := decide_eq_true (by omega)
    rcases hS with ⟨rfl, rfl⟩ | ⟨l, rfl, hl, hc⟩
    · have d1 : decide (u ≥ 0) = true := decide_eq_true (by omega)
      have d2 : decide (u < ((0 : Nat) : Int)) = false := decide_eq_false (by simp; omega)
      simp (maxSteps := 1000000) (disch := first | omega | (simp (disch := first | omega | (simp only [Hdr.len, Hdr.fr, Obj.len, chg_len, chg_fr, List.length_append, List.length_cons, List.length_nil, List.length_set]; first | done | omega)) only [Hdr.len, Hdr.fr, Obj.len, chg_len, chg_fr, amSide, Int.reduceToNat, Nat.reducePow, Nat.reduceMul]; first | done | omega)) only  [↓amPre, amPost, ↓s_lit', Nat.reduceAdd, Nat.reduceSub, List.replicate, retA, resultsA, resultA, toC, toCL, Nat.reduceEqDiff, (fa67_0 S.p), (fa67_2 S.p), iaddr_sl (un60 S.p) (sz3 S.p), len_sl (un60 S.p), len_nils (un60 S.p), part_sc (ag26 S.p), part_sc (ag3 S.p), part_sc (ag60 S.p), cells_self, cells_other, set_self, set_other, Obj.len, Obj.c0, Obj.c2, s42', d0, d0', d1, d2, Bool.and_false, Bool.false_and, Bool.false_eq_true]
      exact Ends.some rfl
    · by_cases h1 : u < cnt.length
      · have d1 : decide (u ≥ (cnt.length : Int)) = false := decide_eq_false (by omega)
        have d2 : decide (u < (cnt.length : Int)) = true := decide_eq_true h1
        obtain ⟨n, rfl⟩ := Int.eq_ofNat_of_zero_le (show 0 ≤ u by omega)
        have hn : n < cnt.length := by omega
        have e2 : (0 ≤ (n : Int) ∧ (n : Int) < (cnt.length : Int)) = True := by simp; omega
        by_cases h3 : cnt.getD n 0 < 1
        · have d3 : decide (cnt.getD n 0 < 1) = true := decide_eq_true h3
          have d4 : decide (0 < cnt.getD n 0) = false := decide_eq_false (by omega)
          simp (maxSteps := 1000000) (disch := first | omega | (simp (disch := first | omega | (simp only [Hdr.len, Hdr.fr, Obj.len, chg_len, chg_fr, List.length_append, List.length_cons, List.length_nil, List.length_set]; first | done | omega)) only [Hdr.len, Hdr.fr, Obj.len, chg_len, chg_fr, amSide, Int.reduceToNat, Nat.reducePow, Nat.reduceMul]; first | done | omega)) only  [↓amPre, amPost, ↓s_lit', Nat.reduceAdd, Nat.reduceSub, List.replicate, retA, resultsA, resultA, toC, toCL, Nat.reduceEqDiff, (fa67_0 S.p), (fa67_2 S.p), iaddr_sl (un60 S.p) (sz3 S.p), len_sl (un60 S.p), len_nils (un60 S.p), part_sc (ag26 S.p), part_sc (ag3 S.p), part_sc (ag60 S.p), cells_self, cells_other, set_self, set_other, Obj.len, Obj.c0, Obj.c2, s42', d0, d0', d1, d2, d3, d4, e2, hc, cnt_at, Int.toNat_natCast, Nat.mul_one, Nat.zero_add, Bool.and_false, Bool.false_eq_true]
          exact Ends.some rfl
        · have d3 : decide (cnt.getD n 0 < 1) = false := decide_eq_false h3
          have d4 : decide (0 < cnt.getD n 0) = true := decide_eq_true (by omega)
          simp (maxSteps := 1000000) (disch := first | omega | (simp (disch := first | omega | (simp only [Hdr.len, Hdr.fr, Obj.len, chg_len, chg_fr, List.length_append, List.length_cons, List.length_nil, List.length_set]; first | done | omega)) only [Hdr.len, Hdr.fr, Obj.len, chg_len, chg_fr, amSide, Int.reduceToNat, Nat.reducePow, Nat.reduceMul]; first | done | omega)) only  [↓amPre, amPost, ↓s_lit', Nat.reduceAdd, Nat.reduceSub, List.replicate, retA, resultsA, resultA, toC, toCL, Nat.reduceEqDiff, (fa67_0 S.p), (fa67_2 S.p), iaddr_sl (un60 S.p) (sz3 S.p), len_sl (un60 S.p), len_nils (un60 S.p), part_sc (ag26 S.p), part_sc (ag3 S.p), part_sc (ag60 S.p), cells_self, cells_other, set_self, set_other, Obj.len, Obj.c0, Obj.c2, s42', d0, d0', d1, d2, d3, d4, e2, hc, cnt_at, Int.toNat_natCast, Nat.mul_one, Nat.zero_add, Bool.and_self]
          exact Ends.some rfl
      · have d1 : decide (u ≥ (cnt.length : Int)) = true := decide_eq_true (by omega)
        have d2 : decide (u < (cnt.length : Int)) = false := decide_eq_false h1
        simp (maxSteps := 1000000) (disch := first | omega | (simp (disch := first | omega | (simp only [Hdr.len, Hdr.fr, Obj.len, chg_len, chg_fr, List.length_append, List.length_cons, List.length_nil, List.length_set]; first | done | omega)) only [Hdr.len, Hdr.fr, Obj.len, chg_len, chg_fr, amSide, Int.reduceToNat, Nat.reducePow, Nat.reduceMul]; first | done | omega)) only  [↓amPre, amPost, ↓s_lit', Nat.reduceAdd, Nat.reduceSub, List.replicate, retA, resultsA, resultA, toC, toCL, Nat.reduceEqDiff, (fa67_0 S.p), (fa67_2 S.p), iaddr_sl (un60 S.p) (sz3 S.p), len_sl (un60 S.p), len_nils (un60 S.p), part_sc (ag26 S.p), part_sc (ag3 S.p), part_sc (ag60 S.p), cells_self, cells_other, set_self, set_other, Obj.len, Obj.c0, Obj.c2, s42', d0, d0', d1, d2, Bool.and_false, Bool.false_and, Bool.false_eq_true]
        exact Ends.some rfl
end Go.AM
