/- Plans: the change of one object, by the program and by the document. Conditions: none. -/
import Derived.Test.YtdokijbheholdabPl1
set_option linter.unusedVariables false
set_option linter.unusedSimpArgs false
set_option maxRecDepth 100000
namespace Go.AM
open Go.Proofs
-- LENS: Hdr.len, Hdr.fr, Obj.len, chg_len, chg_fr
theorem hdr_a (a : Nat) (ha : a < 16) : (⟨2, a, 0, 0, 0, 0, 0, 0⟩ : Hdr).ok ∧ (⟨2, a, 0, 0, 0, 0, 0, 0⟩ : Hdr).may = true ∧ (⟨2, a, 0, 0, 0, 0, 0, 0⟩ : Hdr).word = 1 + a * 8 := by
  have ho : (⟨2, a, 0, 0, 0, 0, 0, 0⟩ : Hdr).ok := by simp [Hdr.ok]; omega
  refine ⟨ho, ?_, ?_⟩
  · rw [may_eq _ ho]; simp [Hdr.fits, keptH, ha]
  · simp [Hdr.word, Hdr.fits, ha]
theorem hdr_t (o r : Nat) (h1 : 0 < o) (h2 : o < 65536) (h3 : r < 65536) : (⟨1, 0, 0, 0, o, r, 0, 0⟩ : Hdr).ok ∧ (⟨1, 0, 0, 0, o, r, 0, 0⟩ : Hdr).may = true ∧ (⟨1, 0, 0, 0, o, r, 0, 0⟩ : Hdr).word = r * 256 + o * 16777216 := by
  have ho : (⟨1, 0, 0, 0, o, r, 0, 0⟩ : Hdr).ok := by simp [Hdr.ok]; omega
  have hz : ¬ o = 0 := by omega
  refine ⟨ho, ?_, ?_⟩
  · rw [may_eq _ ho]; simp [Hdr.fits, keptH, hz]
  · simp [Hdr.word, Hdr.fits, hz]
theorem s15a {P : Program} {T : Tab} {K d : Nat} (S : Sd P T K) (hd : 8 ≤ d) (a : Nat) (ha : a < 16) (lk : Nat) (h : List AO) :
    ev P T K d 15 [.ag [.int .i64 2, .int .u8 (a : Nat), .int .u8 0, .int .u32 0, .int .u16 0, .int .u16 0, .int .u16 0, .int .u32 0]] lk h = some (.tup [.sc (.int .u64 ((1 + a * 8 : Nat) : Int)), .sc (.int .i64 0)], h) := by
  obtain ⟨o, m, w⟩ := hdr_a a ha
  have := s15 S hd _ o lk h
  rw [m, w] at this; exact this
theorem s17a {P : Program} {T : Tab} {K d : Nat} (S : Sd P T K) (hd : 3 ≤ d) (a : Nat) (ha : a < 16) (lk : Nat) (h : List AO) :
    ev P T K d 17 [.ag [.int .i64 2, .int .u8 (a : Nat), .int .u8 0, .int .u32 0, .int .u16 0, .int .u16 0, .int .u16 0, .int .u32 0]] lk h = some (.tup [.sc (.int .u64 ((1 + a * 8 : Nat) : Int)), .sc (.int .i64 0)], h) := by
  obtain ⟨o, m, w⟩ := hdr_a a ha
  have := s17 S hd _ o lk h
  rw [m, w] at this; exact this
theorem s15t {P : Program} {T : Tab} {K d : Nat} (S : Sd P T K) (hd : 8 ≤ d) (o r : Nat) (h1 : 0 < o) (h2 : o < 65536) (h3 : r < 65536) (lk : Nat) (h : List AO) :
    ev P T K d 15 [.ag [.int .i64 1, .int .u8 0, .int .u8 0, .int .u32 0, .int .u16 (o : Nat), .int .u16 (r : Nat), .int .u16 0, .int .u32 0]] lk h = some (.tup [.sc (.int .u64 ((r * 256 + o * 16777216 : Nat) : Int)), .sc (.int .i64 0)], h) := by
  obtain ⟨ok, m, w⟩ := hdr_t o r h1 h2 h3
  have := s15 S hd _ ok lk h
  rw [m, w] at this; exact this
theorem s17t {P : Program} {T : Tab} {K d : Nat} (S : Sd P T K) (hd : 3 ≤ d) (o r : Nat) (h1 : 0 < o) (h2 : o < 65536) (h3 : r < 65536) (lk : Nat) (h : List AO) :
    ev P T K d 17 [.ag [.int .i64 1, .int .u8 0, .int .u8 0, .int .u32 0, .int .u16 (o : Nat), .int .u16 (r : Nat), .int .u16 0, .int .u32 0]] lk h = some (.tup [.sc (.int .u64 ((r * 256 + o * 16777216 : Nat) : Int)), .sc (.int .i64 0)], h) := by
  obtain ⟨ok, m, w⟩ := hdr_t o r h1 h2 h3
  have := s17 S hd _ ok lk h
  rw [m, w] at this; exact this
/-- Does an object change? -/
def oneOk (o : Int) (w : Nat) : Bool := biW w && (decide (0 ≤ o) && decide (o ≤ 65535))
def neuW (w : Nat) : Nat := 1 + (rdH w).age * 8
def thinW (o : Int) (w : Nat) : Nat := o.toNat * 256 + (rdH w).own * 16777216
/-- Its change. -/
def oneC (o : Int) (w : Nat) (cnt : List Int) : List SV :=
  if oneOk o w then if hasC cnt (ownW w) then chg o (thinW o w) (ownW w) (neuW w) else chg o (neuW w) (-1) 0 else chg 0 0 0 0
theorem bi_facts {w : Nat} (hb : biW w = true) : rdOk w = true ∧ (rdH w).kind = 4 ∧ (rdH w).age < 16 ∧ (rdH w).own < 65536 ∧ ownW w = ((rdH w).own : Int) - 1 := by
  unfold biW at hb
  simp only [Bool.and_eq_true, decide_eq_true_eq] at hb
  obtain ⟨hr, hk⟩ := hb
  obtain ⟨hf, _, hm⟩ := rd_fits hr
  have ho := rdH_ok w
  unfold Hdr.ok at ho
  exact ⟨hr, hk, fits_age hf (.inr hk), ho.2.2.2.1, by unfold ownW; rw [if_pos (.inl hk)]⟩
theorem has_pos {cnt : List Int} {u : Int} (h : hasC cnt u = true) : 0 ≤ u := by
  unfold hasC at h; simp only [Bool.and_eq_true, decide_eq_true_eq] at h; exact h.1.1
theorem oneC_fr (o : Int) (w : Nat) (cnt : List Int) : (freeL (oneC o w cnt)).isSome = true := by
  unfold oneC
  by_cases h1 : oneOk o w = true
  · rw [if_pos h1]
    by_cases h2 : hasC cnt (ownW w) = true
    · rw [if_pos h2]; exact chg_fr _ _ _ _
    · rw [if_neg h2]; exact chg_fr _ _ _ _
  · rw [if_neg h1]; exact chg_fr _ _ _ _
theorem zero_chg : ([.int .i64 0, .int .u64 0, .int .i64 0, .int .u64 0] : List SV) = chg 0 0 0 0 := rfl
theorem s39 {P : Program} {T : Tab} {K d : Nat} (S : Sd P T K) (hd : 10 ≤ d) (o : Int) (w : Nat) (hw : w < 18446744073709551616) (k : Int) (q : SV) (cnt : List Int) (lk : Nat) (h : List AO) (hS : Sl h q cnt) :
    ev P T K d 39 [.sc (.int .i64 o), .ag (Obj w k q)] lk h = some (.tup [.ag (oneC o w cnt), .sc (.bool (oneOk o w))], h) := by
  obtain ⟨d, rfl⟩ : ∃ k, d = k + 1 := ⟨d - 1, by omega⟩
  refine ev_pure (at39 S.t) (by have := oneC_fr o w cnt; simp only [fr_tup, fr_ccons, fr_cag, fr_csc, fr_bool, fr_cnil, this, Bool.and_true]) ?_
  unfold i39 Try.f39 oneC oneOk
  cases hb : biW w with
  | false =>
    have e1 : ((rdH w).kind != 4) = true := by
      simp only [bne_iff_ne, ne_eq]
      intro hk
      unfold biW at hb
      cases hr : rdOk w with
      | true => rw [hr, hk] at hb; cases hb
      | false => simp [rdH, hr, zeroH] at hk
    simp (maxSteps := 1000000) (disch := first | omega | (simp (disch := first | omega | (simp only [Hdr.len, Hdr.fr, Obj.len, chg_len, chg_fr, List.length_append, List.length_cons, List.length_nil, List.length_set]; first | done | omega)) only [Hdr.len, Hdr.fr, Obj.len, chg_len, chg_fr, amSide, Int.reduceToNat, Nat.reducePow, Nat.reduceMul]; first | done | omega)) only  [↓amPre, amPost, ↓s_lit', Nat.reduceAdd, Nat.reduceSub, List.replicate, retA, resultsA, resultA, toC, toCL, Nat.reduceEqDiff, (ze30 S.p), (ze64 S.p), (bu30 S.p), (bu64 S.p), conv_int (un3 S.p) (un23 S.p), (fa30_0 S.p), (fa30_1 S.p), (fa30_4 S.p), (fa67_0 S.p), part_sc (ag23 S.p), part_sc (ag26 S.p), part_sc (ag3 S.p), part_sc (ag5 S.p), part_all (ag64 S.p) (sz64 S.p), part_at (ag64 S.p) (sz64 S.p), part_all (ag67 S.p) (sz67 S.p), part_at (ag67 S.p) (sz67 S.p), store_last (sz30 S.p), (sz30 S.p), store_last (sz64 S.p), (sz64 S.p), cells_self, cells_other, set_self, set_other, s21 S, e1, zeroH_cells, Hdr.len, Hdr.c0, Obj.len, Obj.c0, Bool.false_and, Bool.false_eq_true]
    exact Ends.some rfl
  | true =>
    obtain ⟨hr, hk, ha, hown, hu⟩ := bi_facts hb
    by_cases o1 : o < 0
    · have d1 : decide (o < 0) = true := decide_eq_true o1
      have d2 : decide (0 ≤ o) = false := decide_eq_false (by omega)
      simp (maxSteps := 1000000) (disch := first | omega | (simp (disch := first | omega | (simp only [Hdr.len, Hdr.fr, Obj.len, chg_len, chg_fr, List.length_append, List.length_cons, List.length_nil, List.length_set]; first | done | omega)) only [Hdr.len, Hdr.fr, Obj.len, chg_len, chg_fr, amSide, Int.reduceToNat, Nat.reducePow, Nat.reduceMul]; first | done | omega)) only  [↓amPre, amPost, ↓s_lit', Nat.reduceAdd, Nat.reduceSub, List.replicate, retA, resultsA, resultA, toC, toCL, Nat.reduceEqDiff, (ze30 S.p), (ze64 S.p), (bu30 S.p), (bu64 S.p), conv_int (un3 S.p) (un23 S.p), (fa30_0 S.p), (fa30_1 S.p), (fa30_4 S.p), (fa67_0 S.p), part_sc (ag23 S.p), part_sc (ag26 S.p), part_sc (ag3 S.p), part_sc (ag5 S.p), part_all (ag64 S.p) (sz64 S.p), part_at (ag64 S.p) (sz64 S.p), part_all (ag67 S.p) (sz67 S.p), part_at (ag67 S.p) (sz67 S.p), store_last (sz30 S.p), (sz30 S.p), store_last (sz64 S.p), (sz64 S.p), cells_self, cells_other, set_self, set_other, s21 S, hk, d1, d2, zeroH_cells, Hdr.len, Hdr.c0, Obj.len, Obj.c0, bne_self_eq_false, Bool.false_and, Bool.and_false, Bool.false_eq_true]
      exact Ends.some rfl
    have d1 : decide (o < 0) = false := decide_eq_false o1
    have d2 : decide (0 ≤ o) = true := decide_eq_true (by omega)
    by_cases o2 : o > 65535
    · have d3 : decide (o > 65535) = true := decide_eq_true o2
      have d4 : decide (o ≤ 65535) = false := decide_eq_false (by omega)
      simp (maxSteps := 1000000) (disch := first | omega | (simp (disch := first | omega | (simp only [Hdr.len, Hdr.fr, Obj.len, chg_len, chg_fr, List.length_append, List.length_cons, List.length_nil, List.length_set]; first | done | omega)) only [Hdr.len, Hdr.fr, Obj.len, chg_len, chg_fr, amSide, Int.reduceToNat, Nat.reducePow, Nat.reduceMul]; first | done | omega)) only  [↓amPre, amPost, ↓s_lit', Nat.reduceAdd, Nat.reduceSub, List.replicate, retA, resultsA, resultA, toC, toCL, Nat.reduceEqDiff, (ze30 S.p), (ze64 S.p), (bu30 S.p), (bu64 S.p), conv_int (un3 S.p) (un23 S.p), (fa30_0 S.p), (fa30_1 S.p), (fa30_4 S.p), (fa67_0 S.p), part_sc (ag23 S.p), part_sc (ag26 S.p), part_sc (ag3 S.p), part_sc (ag5 S.p), part_all (ag64 S.p) (sz64 S.p), part_at (ag64 S.p) (sz64 S.p), part_all (ag67 S.p) (sz67 S.p), part_at (ag67 S.p) (sz67 S.p), store_last (sz30 S.p), (sz30 S.p), store_last (sz64 S.p), (sz64 S.p), cells_self, cells_other, set_self, set_other, s21 S, hk, d1, d2, d3, d4, zeroH_cells, Hdr.len, Hdr.c0, Obj.len, Obj.c0, bne_self_eq_false, Bool.and_false, Bool.false_eq_true]
      exact Ends.some rfl
    have d3 : decide (o > 65535) = false := decide_eq_false o2
    have d4 : decide (o ≤ 65535) = true := decide_eq_true (by omega)
    obtain ⟨n, rfl⟩ := Int.eq_ofNat_of_zero_le (show 0 ≤ o by omega)
    have hn : n < 65536 := by omega
    have f : ∀ lk a b c, ev P T K d 56 [.ag (Obj w k q)] lk (h ++ [a] ++ [b] ++ [c]) = some (.v (.sc (.int .i64 (if hasC cnt (ownW w) then ownW w else -1))), h ++ [a] ++ [b] ++ [c]) := fun lk a b c => s56 S (by omega) w hw k q cnt lk _ (((hS.push a).push b).push c)
    cases hh : hasC cnt (ownW w) with
    | false =>
      rw [hh] at f
      simp only [Bool.false_eq_true, if_false] at f
      simp (maxSteps := 1000000) (disch := first | omega | (simp (disch := first | omega | (simp only [Hdr.len, Hdr.fr, Obj.len, chg_len, chg_fr, List.length_append, List.length_cons, List.length_nil, List.length_set]; first | done | omega)) only [Hdr.len, Hdr.fr, Obj.len, chg_len, chg_fr, amSide, Int.reduceToNat, Nat.reducePow, Nat.reduceMul]; first | done | omega)) only  [↓amPre, amPost, ↓s_lit', Nat.reduceAdd, Nat.reduceSub, List.replicate, retA, resultsA, resultA, toC, toCL, Nat.reduceEqDiff, (ze30 S.p), (ze64 S.p), (bu30 S.p), (bu64 S.p), conv_int (un3 S.p) (un23 S.p), (fa30_0 S.p), (fa30_1 S.p), (fa30_4 S.p), (fa67_0 S.p), part_sc (ag23 S.p), part_sc (ag26 S.p), part_sc (ag3 S.p), part_sc (ag5 S.p), part_all (ag64 S.p) (sz64 S.p), part_at (ag64 S.p) (sz64 S.p), part_all (ag67 S.p) (sz67 S.p), part_at (ag67 S.p) (sz67 S.p), store_last (sz30 S.p), (sz30 S.p), store_last (sz64 S.p), (sz64 S.p), splice_def, List.append_nil, cells_self, cells_other, set_self, set_other, s21 S, s15a S, f, hh, hk, d1, d2, d3, d4, zeroH_cells, Hdr.len, Hdr.c0, Hdr.c1, Obj.len, Obj.c0, bne_self_eq_false, beq_self_eq_true, Bool.and_self, Bool.false_eq_true]
      exact Ends.some rfl
    | true =>
      rw [hh] at f
      simp only [if_true] at f
      have hp := has_pos hh
      have e2 : (ownW w == -1) = false := beq_false_of_ne (by omega)
      have hop : 0 < (rdH w).own := by omega
      have e3 : IntKind.u16.wrap (n : Int) = (n : Int) := wrap_u16_nat hn
      simp (maxSteps := 1000000) (disch := first | omega | (simp (disch := first | omega | (simp only [Hdr.len, Hdr.fr, Obj.len, chg_len, chg_fr, List.length_append, List.length_cons, List.length_nil, List.length_set]; first | done | omega)) only [Hdr.len, Hdr.fr, Obj.len, chg_len, chg_fr, amSide, Int.reduceToNat, Nat.reducePow, Nat.reduceMul]; first | done | omega)) only  [↓amPre, amPost, ↓s_lit', Nat.reduceAdd, Nat.reduceSub, List.replicate, retA, resultsA, resultA, toC, toCL, Nat.reduceEqDiff, (ze30 S.p), (ze64 S.p), (bu30 S.p), (bu64 S.p), conv_int (un3 S.p) (un23 S.p), (fa30_0 S.p), (fa30_1 S.p), (fa30_4 S.p), (fa67_0 S.p), part_sc (ag23 S.p), part_sc (ag26 S.p), part_sc (ag3 S.p), part_sc (ag5 S.p), part_all (ag64 S.p) (sz64 S.p), part_at (ag64 S.p) (sz64 S.p), part_all (ag67 S.p) (sz67 S.p), part_at (ag67 S.p) (sz67 S.p), store_last (sz30 S.p), (sz30 S.p), store_last (sz64 S.p), (sz64 S.p), splice_def, List.append_nil, cells_self, cells_other, set_self, set_other, s21 S, s15a S, s15t S, f, hh, hk, d1, d2, d3, d4, e2, e3, zeroH_cells, Hdr.len, Hdr.c0, Hdr.c1, Hdr.c4, Obj.len, Obj.c0, bne_self_eq_false, Bool.and_self]
      exact Ends.some rfl
theorem s40 {P : Program} {T : Tab} {K d : Nat} (S : Sd P T K) (hd : 10 ≤ d) (o : Int) (w : Nat) (hw : w < 18446744073709551616) (k : Int) (q : SV) (cnt : List Int) (lk : Nat) (h : List AO) (hS : Sl h q cnt) :
    ev P T K d 40 [.sc (.int .i64 o), .ag (Obj w k q)] lk h = some (.tup [.ag (oneC o w cnt), .sc (.bool (oneOk o w))], h) := by
  obtain ⟨d, rfl⟩ : ∃ k, d = k + 1 := ⟨d - 1, by omega⟩
  refine ev_pure (at40 S.t) (by have := oneC_fr o w cnt; simp only [fr_tup, fr_ccons, fr_cag, fr_csc, fr_bool, fr_cnil, this, Bool.and_true]) ?_
  unfold i40 Try.f40 oneC oneOk
  cases hb : biW w with
  | false =>
    cases hr : rdOk w with
    | false =>
      simp (maxSteps := 1000000) (disch := first | omega | (simp (disch := first | omega | (simp only [Hdr.len, Hdr.fr, Obj.len, chg_len, chg_fr, List.length_append, List.length_cons, List.length_nil, List.length_set]; first | done | omega)) only [Hdr.len, Hdr.fr, Obj.len, chg_len, chg_fr, amSide, Int.reduceToNat, Nat.reducePow, Nat.reduceMul]; first | done | omega)) only  [↓amPre, amPost, ↓s_lit', Nat.reduceAdd, Nat.reduceSub, List.replicate, retA, resultsA, resultA, toC, toCL, Nat.reduceEqDiff, (ze25 S.p), (ze68 S.p), (bu25 S.p), (bu68 S.p), conv_int (un3 S.p) (un23 S.p), (fa25_0 S.p), (fa25_1 S.p), (fa25_4 S.p), (fa62_0 S.p), part_sc (ag23 S.p), part_sc (ag26 S.p), part_sc (ag3 S.p), part_sc (ag5 S.p), part_all (ag62 S.p) (sz62 S.p), part_at (ag62 S.p) (sz62 S.p), part_all (ag68 S.p) (sz68 S.p), part_at (ag68 S.p) (sz68 S.p), store_last (sz25 S.p), (sz25 S.p), store_last (sz68 S.p), (sz68 S.p), cells_self, cells_other, set_self, set_other, s23 S, hr, zeroH_cells, Hdr.len, Hdr.c0, Obj.len, Obj.c0, Int.reduceBNe, Bool.false_and, Bool.false_eq_true]
      exact Ends.some rfl
    | true =>
      have e1 : ((rdH w).kind != 4) = true := by
        simp only [bne_iff_ne, ne_eq]
        intro hk
        unfold biW at hb
        rw [hr, hk] at hb; cases hb
      simp (maxSteps := 1000000) (disch := first | omega | (simp (disch := first | omega | (simp only [Hdr.len, Hdr.fr, Obj.len, chg_len, chg_fr, List.length_append, List.length_cons, List.length_nil, List.length_set]; first | done | omega)) only [Hdr.len, Hdr.fr, Obj.len, chg_len, chg_fr, amSide, Int.reduceToNat, Nat.reducePow, Nat.reduceMul]; first | done | omega)) only  [↓amPre, amPost, ↓s_lit', Nat.reduceAdd, Nat.reduceSub, List.replicate, retA, resultsA, resultA, toC, toCL, Nat.reduceEqDiff, (ze25 S.p), (ze68 S.p), (bu25 S.p), (bu68 S.p), conv_int (un3 S.p) (un23 S.p), (fa25_0 S.p), (fa25_1 S.p), (fa25_4 S.p), (fa62_0 S.p), part_sc (ag23 S.p), part_sc (ag26 S.p), part_sc (ag3 S.p), part_sc (ag5 S.p), part_all (ag62 S.p) (sz62 S.p), part_at (ag62 S.p) (sz62 S.p), part_all (ag68 S.p) (sz68 S.p), part_at (ag68 S.p) (sz68 S.p), store_last (sz25 S.p), (sz25 S.p), store_last (sz68 S.p), (sz68 S.p), cells_self, cells_other, set_self, set_other, s23 S, hr, e1, zeroH_cells, Hdr.len, Hdr.c0, Obj.len, Obj.c0, bne_self_eq_false, Bool.false_and, Bool.false_eq_true]
      exact Ends.some rfl
  | true =>
    obtain ⟨hr, hk, ha, hown, hu⟩ := bi_facts hb
    by_cases o1 : o < 0
    · have d1 : decide (o < 0) = true := decide_eq_true o1
      have d2 : decide (0 ≤ o) = false := decide_eq_false (by omega)
      simp (maxSteps := 1000000) (disch := first | omega | (simp (disch := first | omega | (simp only [Hdr.len, Hdr.fr, Obj.len, chg_len, chg_fr, List.length_append, List.length_cons, List.length_nil, List.length_set]; first | done | omega)) only [Hdr.len, Hdr.fr, Obj.len, chg_len, chg_fr, amSide, Int.reduceToNat, Nat.reducePow, Nat.reduceMul]; first | done | omega)) only  [↓amPre, amPost, ↓s_lit', Nat.reduceAdd, Nat.reduceSub, List.replicate, retA, resultsA, resultA, toC, toCL, Nat.reduceEqDiff, (ze25 S.p), (ze68 S.p), (bu25 S.p), (bu68 S.p), conv_int (un3 S.p) (un23 S.p), (fa25_0 S.p), (fa25_1 S.p), (fa25_4 S.p), (fa62_0 S.p), part_sc (ag23 S.p), part_sc (ag26 S.p), part_sc (ag3 S.p), part_sc (ag5 S.p), part_all (ag62 S.p) (sz62 S.p), part_at (ag62 S.p) (sz62 S.p), part_all (ag68 S.p) (sz68 S.p), part_at (ag68 S.p) (sz68 S.p), store_last (sz25 S.p), (sz25 S.p), store_last (sz68 S.p), (sz68 S.p), cells_self, cells_other, set_self, set_other, s23 S, hr, hk, d1, d2, zeroH_cells, Hdr.len, Hdr.c0, Obj.len, Obj.c0, bne_self_eq_false, Bool.false_and, Bool.and_false, Bool.false_eq_true]
      exact Ends.some rfl
    have d1 : decide (o < 0) = false := decide_eq_false o1
    have d2 : decide (0 ≤ o) = true := decide_eq_true (by omega)
    by_cases o2 : o > 65535
    · have d3 : decide (o > 65535) = true := decide_eq_true o2
      have d4 : decide (o ≤ 65535) = false := decide_eq_false (by omega)
      simp (maxSteps := 1000000) (disch := first | omega | (simp (disch := first | omega | (simp only [Hdr.len, Hdr.fr, Obj.len, chg_len, chg_fr, List.length_append, List.length_cons, List.length_nil, List.length_set]; first | done | omega)) only [Hdr.len, Hdr.fr, Obj.len, chg_len, chg_fr, amSide, Int.reduceToNat, Nat.reducePow, Nat.reduceMul]; first | done | omega)) only  [↓amPre, amPost, ↓s_lit', Nat.reduceAdd, Nat.reduceSub, List.replicate, retA, resultsA, resultA, toC, toCL, Nat.reduceEqDiff, (ze25 S.p), (ze68 S.p), (bu25 S.p), (bu68 S.p), conv_int (un3 S.p) (un23 S.p), (fa25_0 S.p), (fa25_1 S.p), (fa25_4 S.p), (fa62_0 S.p), part_sc (ag23 S.p), part_sc (ag26 S.p), part_sc (ag3 S.p), part_sc (ag5 S.p), part_all (ag62 S.p) (sz62 S.p), part_at (ag62 S.p) (sz62 S.p), part_all (ag68 S.p) (sz68 S.p), part_at (ag68 S.p) (sz68 S.p), store_last (sz25 S.p), (sz25 S.p), store_last (sz68 S.p), (sz68 S.p), cells_self, cells_other, set_self, set_other, s23 S, hr, hk, d1, d2, d3, d4, zeroH_cells, Hdr.len, Hdr.c0, Obj.len, Obj.c0, bne_self_eq_false, Bool.and_false, Bool.false_eq_true]
      exact Ends.some rfl
    have d3 : decide (o > 65535) = false := decide_eq_false o2
    have d4 : decide (o ≤ 65535) = true := decide_eq_true (by omega)
    obtain ⟨n, rfl⟩ := Int.eq_ofNat_of_zero_le (show 0 ≤ o by omega)
    have hn : n < 65536 := by omega
    have f : ∀ lk a b c, ev P T K d 57 [.ag (Obj w k q), .sc (.int .i64 (ownW w))] lk (h ++ [a] ++ [b] ++ [c]) = some (.v (.sc (.bool (hasC cnt (ownW w)))), h ++ [a] ++ [b] ++ [c]) := fun lk a b c => s57 S (by omega) w k q cnt (ownW w) lk _ (((hS.push a).push b).push c)
    cases hh : hasC cnt (ownW w) with
    | false =>
      rw [hh] at f
      simp (maxSteps := 1000000) (disch := first | omega | (simp (disch := first | omega | (simp only [Hdr.len, Hdr.fr, Obj.len, chg_len, chg_fr, List.length_append, List.length_cons, List.length_nil, List.length_set]; first | done | omega)) only [Hdr.len, Hdr.fr, Obj.len, chg_len, chg_fr, amSide, Int.reduceToNat, Nat.reducePow, Nat.reduceMul]; first | done | omega)) only  [↓amPre, amPost, ↓s_lit', Nat.reduceAdd, Nat.reduceSub, List.replicate, retA, resultsA, resultA, toC, toCL, Nat.reduceEqDiff, (ze25 S.p), (ze68 S.p), (bu25 S.p), (bu68 S.p), conv_int (un3 S.p) (un23 S.p), (fa25_0 S.p), (fa25_1 S.p), (fa25_4 S.p), (fa62_0 S.p), part_sc (ag23 S.p), part_sc (ag26 S.p), part_sc (ag3 S.p), part_sc (ag5 S.p), part_all (ag62 S.p) (sz62 S.p), part_at (ag62 S.p) (sz62 S.p), part_all (ag68 S.p) (sz68 S.p), part_at (ag68 S.p) (sz68 S.p), store_last (sz25 S.p), (sz25 S.p), store_last (sz68 S.p), (sz68 S.p), splice_def, List.append_nil, cells_self, cells_other, set_self, set_other, s23 S, s17a S, s43 S, f, hr, hh, hk, d1, d2, d3, d4, zeroH_cells, Hdr.len, Hdr.c0, Hdr.c1, Obj.len, Obj.c0, bne_self_eq_false, beq_self_eq_true, Bool.and_self, Bool.false_eq_true]
      exact Ends.some rfl
    | true =>
      rw [hh] at f
      have hp := has_pos hh
      have hop : 0 < (rdH w).own := by omega
      have e3 : IntKind.u16.wrap (n : Int) = (n : Int) := wrap_u16_nat hn
      simp (maxSteps := 1000000) (disch := first | omega | (simp (disch := first | omega | (simp only [Hdr.len, Hdr.fr, Obj.len, chg_len, chg_fr, List.length_append, List.length_cons, List.length_nil, List.length_set]; first | done | omega)) only [Hdr.len, Hdr.fr, Obj.len, chg_len, chg_fr, amSide, Int.reduceToNat, Nat.reducePow, Nat.reduceMul]; first | done | omega)) only  [↓amPre, amPost, ↓s_lit', Nat.reduceAdd, Nat.reduceSub, List.replicate, retA, resultsA, resultA, toC, toCL, Nat.reduceEqDiff, (ze25 S.p), (ze68 S.p), (bu25 S.p), (bu68 S.p), conv_int (un3 S.p) (un23 S.p), (fa25_0 S.p), (fa25_1 S.p), (fa25_4 S.p), (fa62_0 S.p), part_sc (ag23 S.p), part_sc (ag26 S.p), part_sc (ag3 S.p), part_sc (ag5 S.p), part_all (ag62 S.p) (sz62 S.p), part_at (ag62 S.p) (sz62 S.p), part_all (ag68 S.p) (sz68 S.p), part_at (ag68 S.p) (sz68 S.p), store_last (sz25 S.p), (sz25 S.p), store_last (sz68 S.p), (sz68 S.p), splice_def, List.append_nil, cells_self, cells_other, set_self, set_other, s23 S, s17a S, s17t S, s43 S, f, hr, hh, hk, d1, d2, d3, d4, e3, zeroH_cells, Hdr.len, Hdr.c0, Hdr.c1, Hdr.c4, Obj.len, Obj.c0, bne_self_eq_false, Bool.and_self]
      exact Ends.some rfl
end Go.AM
