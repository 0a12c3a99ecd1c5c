/- Words: what the document reads; older words. Conditions: none. -/
import Derived.Test.YtdokijbheholdabWd7
set_option linter.unusedVariables false
set_option linter.unusedSimpArgs false
set_option maxRecDepth 100000
namespace Go.AM
open Go.Proofs
-- LENS: Hdr.len, Hdr.fr
theorem tdiv_i {x y : Int} (hx : 0 ≤ x) (hy : 0 ≤ y) : x.tdiv y = ((x.toNat / y.toNat : Nat) : Int) := by
  obtain ⟨x, rfl⟩ := Int.eq_ofNat_of_zero_le hx
  obtain ⟨y, rfl⟩ := Int.eq_ofNat_of_zero_le hy
  rfl
theorem tmod_i {x y : Int} (hx : 0 ≤ x) (hy : 0 ≤ y) : x.tmod y = ((x.toNat % y.toNat : Nat) : Int) := by
  obtain ⟨x, rfl⟩ := Int.eq_ofNat_of_zero_le hx
  obtain ⟨y, rfl⟩ := Int.eq_ofNat_of_zero_le hy
  rfl
theorem kept_take (k : Int) (w : Nat) : keptH (takeH k w) = takeH k w := by
  unfold takeH
  by_cases k1 : k = 1
  · subst k1; rfl
  by_cases k2 : k = 2
  · subst k2; rfl
  by_cases k3 : k = 3
  · subst k3; rfl
  by_cases k4 : k = 4
  · subst k4; rfl
  · simp [keptH, k1, k2, k3, k4]
theorem may_take (k : Int) (w : Nat) : (takeH k w).may = (takeH k w).fits := by
  rw [may_eq _ (takeH_ok k w), kept_take]; simp
theorem rd_may (w : Nat) : rdOk w = ((takeH (kindW w) w).may && decide ((takeH (kindW w) w).word = w)) := by rw [may_take]; rfl
theorem rdH_ok (w : Nat) : (rdH w).ok := by
  unfold rdH
  split
  · exact takeH_ok _ _
  · simp [zeroH, Hdr.ok]
theorem s23_5 {P : Program} {T : Tab} {K d : Nat} (S : Sd P T K) (hd : 4 ≤ d) (w : Nat) (hw : w < 18446744073709551616) (h0 : w % 8 = 0) (hz : decide (w = 0) = true) (lk : Nat) (h : List AO) :
    ev P T K d 23 [.sc (.int .u64 (w : Nat))] lk h = some (.tup [.ag (rdH w).cells, .sc (.int .i64 (if rdOk w then 0 else 3))], h) := by
  obtain ⟨d, rfl⟩ : ∃ k, d = k + 1 := ⟨d - 1, by omega⟩
  refine ev_pure (at23 S.t) (by simp only [freeA, freeCL, freeC, Hdr.cells, freeL, freeS, Option.bind_some, Option.map_some, Option.isSome_some]) ?_
  unfold i23 Try.f23
  have hrd : rdH w = if rdOk w then takeH (kindW w) w else zeroH := rfl
  have hro := rd_may w
  have ho := takeH_ok (kindW w) w
  have e1 : kindW w = 5 := by simp [kindW, of_decide_eq_true hz]
  have e2 : takeH (kindW w) w = ⟨5, 0, 0, 0, 0, 0, 0, 0⟩ := by rw [e1]; rfl
  rw [e2] at hrd hro ho
  clear e2
  generalize hx : (⟨5, 0, 0, 0, 0, 0, 0, 0⟩ : Hdr) = x at hrd hro ho
  have a1 : ∀ lk h, ev P T K d 17 [.ag [.int .i64 5, .int .u8 (0 : Int), .int .u8 (0 : Int), .int .u32 (0 : Int), .int .u16 (0 : Int), .int .u16 (0 : Int), .int .u16 (0 : Int), .int .u32 (0 : Int)]] lk h = some (.tup [.sc (.int .u64 ((if x.may then x.word else 0 : Nat) : Int)), .sc (.int .i64 (if x.may then 0 else 1))], h) := fun lk h => by
    have := s17 S (d := d) (by omega) x ho lk h
    rw [← hx] at this ⊢; exact this
  have a2 : [.int .i64 5, .int .u8 (0 : Int), .int .u8 (0 : Int), .int .u32 (0 : Int), .int .u16 (0 : Int), .int .u16 (0 : Int), .int .u16 (0 : Int), .int .u32 (0 : Int)] = x.cells := by rw [← hx]; rfl
  rw [hrd, hro]
  clear hrd hro hx
  cases hm : x.may with
  | false =>
    simp (maxSteps := 1000000) (disch := first | omega | (simp (disch := first | omega | (simp only [Hdr.len, Hdr.fr, List.length_append, List.length_cons, List.length_nil, List.length_set]; first | done | omega)) only [Hdr.len, Hdr.fr, amSide, Int.reduceToNat, Nat.reducePow, Nat.reduceMul]; first | done | omega)) only  [↓amPre, amPost, ↓s_lit', Nat.reduceAdd, Nat.reduceSub, List.replicate, retA, resultsA, resultA, toC, toCL, Nat.reduceEqDiff, (ze25 S.p), (bu25 S.p), conv_int (un26 S.p) (un22 S.p), conv_int (un26 S.p) (un23 S.p), conv_int (un26 S.p) (un5 S.p), part_all (ag25 S.p) (sz25 S.p), part_at (ag25 S.p) (sz25 S.p), store_last (sz25 S.p), (sz25 S.p), splice_def, cells_self, cells_other, set_self, set_other, tdiv_i, tmod_i, wrap_u64_nat, wrap_u8_nat, wrap_u16_nat, wrap_u32_nat, Int.reduceEq, Int.reduceToNat, Int.toNat_natCast, nat_beq0, nat_beq1, nat_beq2, nat_beq5, decide_true, decide_false, Nat.reduceEqDiff, Nat.one_ne_zero, Int.reduceBNe, Int.reduceBEq, bne_self_eq_false, beq_self_eq_true, Int.cast_ofNat_Int, zeroH_cells, Hdr.len, h0, hz, a1, hm, Bool.false_and, Bool.false_eq_true]
    exact Ends.some rfl
  | true =>
    by_cases hq : x.word = w
    · simp (maxSteps := 1000000) (disch := first | omega | (simp (disch := first | omega | (simp only [Hdr.len, Hdr.fr, List.length_append, List.length_cons, List.length_nil, List.length_set]; first | done | omega)) only [Hdr.len, Hdr.fr, amSide, Int.reduceToNat, Nat.reducePow, Nat.reduceMul]; first | done | omega)) only  [↓amPre, amPost, ↓s_lit', Nat.reduceAdd, Nat.reduceSub, List.replicate, retA, resultsA, resultA, toC, toCL, Nat.reduceEqDiff, (ze25 S.p), (bu25 S.p), conv_int (un26 S.p) (un22 S.p), conv_int (un26 S.p) (un23 S.p), conv_int (un26 S.p) (un5 S.p), part_all (ag25 S.p) (sz25 S.p), part_at (ag25 S.p) (sz25 S.p), store_last (sz25 S.p), (sz25 S.p), splice_def, cells_self, cells_other, set_self, set_other, tdiv_i, tmod_i, wrap_u64_nat, wrap_u8_nat, wrap_u16_nat, wrap_u32_nat, Int.reduceEq, Int.reduceToNat, Int.toNat_natCast, nat_beq0, nat_beq1, nat_beq2, nat_beq5, decide_true, decide_false, Nat.reduceEqDiff, Nat.one_ne_zero, Int.reduceBNe, Int.reduceBEq, bne_self_eq_false, beq_self_eq_true, Int.cast_ofNat_Int, zeroH_cells, Hdr.len, h0, hz, a1, a2, s17 S _ x ho, List.append_nil, hm, hq, Bool.true_and, nat_bne, ne_eq, not_true_eq_false]
      exact Ends.some rfl
    · simp (maxSteps := 1000000) (disch := first | omega | (simp (disch := first | omega | (simp only [Hdr.len, Hdr.fr, List.length_append, List.length_cons, List.length_nil, List.length_set]; first | done | omega)) only [Hdr.len, Hdr.fr, amSide, Int.reduceToNat, Nat.reducePow, Nat.reduceMul]; first | done | omega)) only  [↓amPre, amPost, ↓s_lit', Nat.reduceAdd, Nat.reduceSub, List.replicate, retA, resultsA, resultA, toC, toCL, Nat.reduceEqDiff, (ze25 S.p), (bu25 S.p), conv_int (un26 S.p) (un22 S.p), conv_int (un26 S.p) (un23 S.p), conv_int (un26 S.p) (un5 S.p), part_all (ag25 S.p) (sz25 S.p), part_at (ag25 S.p) (sz25 S.p), store_last (sz25 S.p), (sz25 S.p), splice_def, cells_self, cells_other, set_self, set_other, tdiv_i, tmod_i, wrap_u64_nat, wrap_u8_nat, wrap_u16_nat, wrap_u32_nat, Int.reduceEq, Int.reduceToNat, Int.toNat_natCast, nat_beq0, nat_beq1, nat_beq2, nat_beq5, decide_true, decide_false, Nat.reduceEqDiff, Nat.one_ne_zero, Int.reduceBNe, Int.reduceBEq, bne_self_eq_false, beq_self_eq_true, Int.cast_ofNat_Int, zeroH_cells, Hdr.len, h0, hz, a1, a2, s17 S _ x ho, List.append_nil, hm, hq, Bool.true_and, nat_bne, ne_eq, not_false_eq_true, Bool.false_eq_true]
      exact Ends.some rfl
theorem s23_1 {P : Program} {T : Tab} {K d : Nat} (S : Sd P T K) (hd : 4 ≤ d) (w : Nat) (hw : w < 18446744073709551616) (h0 : w % 8 = 0) (hz : decide (w = 0) = false) (lk : Nat) (h : List AO) :
    ev P T K d 23 [.sc (.int .u64 (w : Nat))] lk h = some (.tup [.ag (rdH w).cells, .sc (.int .i64 (if rdOk w then 0 else 3))], h) := by
  obtain ⟨d, rfl⟩ : ∃ k, d = k + 1 := ⟨d - 1, by omega⟩
  refine ev_pure (at23 S.t) (by simp only [freeA, freeCL, freeC, Hdr.cells, freeL, freeS, Option.bind_some, Option.map_some, Option.isSome_some]) ?_
  unfold i23 Try.f23
  have hrd : rdH w = if rdOk w then takeH (kindW w) w else zeroH := rfl
  have hro := rd_may w
  have ho := takeH_ok (kindW w) w
  have e1 : kindW w = 1 := by simp [kindW, h0, of_decide_eq_false hz]
  have e2 : takeH (kindW w) w = ⟨1, 0, 0, 0, w / 16777216 % 65536, w / 256 % 65536, 0, 0⟩ := by rw [e1]; rfl
  rw [e2] at hrd hro ho
  clear e2
  generalize hx : (⟨1, 0, 0, 0, w / 16777216 % 65536, w / 256 % 65536, 0, 0⟩ : Hdr) = x at hrd hro ho
  have a1 : ∀ lk h, ev P T K d 17 [.ag [.int .i64 1, .int .u8 (0 : Int), .int .u8 (0 : Int), .int .u32 (0 : Int), .int .u16 ((w / 16777216 % 65536 : Nat) : Int), .int .u16 ((w / 256 % 65536 : Nat) : Int), .int .u16 (0 : Int), .int .u32 (0 : Int)]] lk h = some (.tup [.sc (.int .u64 ((if x.may then x.word else 0 : Nat) : Int)), .sc (.int .i64 (if x.may then 0 else 1))], h) := fun lk h => by
    have := s17 S (d := d) (by omega) x ho lk h
    rw [← hx] at this ⊢; exact this
  have a2 : [.int .i64 1, .int .u8 (0 : Int), .int .u8 (0 : Int), .int .u32 (0 : Int), .int .u16 ((w / 16777216 % 65536 : Nat) : Int), .int .u16 ((w / 256 % 65536 : Nat) : Int), .int .u16 (0 : Int), .int .u32 (0 : Int)] = x.cells := by rw [← hx]; rfl
  rw [hrd, hro]
  clear hrd hro hx
  cases hm : x.may with
  | false =>
    simp (maxSteps := 1000000) (disch := first | omega | (simp (disch := first | omega | (simp only [Hdr.len, Hdr.fr, List.length_append, List.length_cons, List.length_nil, List.length_set]; first | done | omega)) only [Hdr.len, Hdr.fr, amSide, Int.reduceToNat, Nat.reducePow, Nat.reduceMul]; first | done | omega)) only  [↓amPre, amPost, ↓s_lit', Nat.reduceAdd, Nat.reduceSub, List.replicate, retA, resultsA, resultA, toC, toCL, Nat.reduceEqDiff, (ze25 S.p), (bu25 S.p), conv_int (un26 S.p) (un22 S.p), conv_int (un26 S.p) (un23 S.p), conv_int (un26 S.p) (un5 S.p), part_all (ag25 S.p) (sz25 S.p), part_at (ag25 S.p) (sz25 S.p), store_last (sz25 S.p), (sz25 S.p), splice_def, cells_self, cells_other, set_self, set_other, tdiv_i, tmod_i, wrap_u64_nat, wrap_u8_nat, wrap_u16_nat, wrap_u32_nat, Int.reduceEq, Int.reduceToNat, Int.toNat_natCast, nat_beq0, nat_beq1, nat_beq2, nat_beq5, decide_true, decide_false, Nat.reduceEqDiff, Nat.one_ne_zero, Int.reduceBNe, Int.reduceBEq, bne_self_eq_false, beq_self_eq_true, Int.cast_ofNat_Int, zeroH_cells, Hdr.len, h0, hz, a1, hm, Bool.false_and, Bool.false_eq_true]
    exact Ends.some rfl
  | true =>
    by_cases hq : x.word = w
    · simp (maxSteps := 1000000) (disch := first | omega | (simp (disch := first | omega | (simp only [Hdr.len, Hdr.fr, List.length_append, List.length_cons, List.length_nil, List.length_set]; first | done | omega)) only [Hdr.len, Hdr.fr, amSide, Int.reduceToNat, Nat.reducePow, Nat.reduceMul]; first | done | omega)) only  [↓amPre, amPost, ↓s_lit', Nat.reduceAdd, Nat.reduceSub, List.replicate, retA, resultsA, resultA, toC, toCL, Nat.reduceEqDiff, (ze25 S.p), (bu25 S.p), conv_int (un26 S.p) (un22 S.p), conv_int (un26 S.p) (un23 S.p), conv_int (un26 S.p) (un5 S.p), part_all (ag25 S.p) (sz25 S.p), part_at (ag25 S.p) (sz25 S.p), store_last (sz25 S.p), (sz25 S.p), splice_def, cells_self, cells_other, set_self, set_other, tdiv_i, tmod_i, wrap_u64_nat, wrap_u8_nat, wrap_u16_nat, wrap_u32_nat, Int.reduceEq, Int.reduceToNat, Int.toNat_natCast, nat_beq0, nat_beq1, nat_beq2, nat_beq5, decide_true, decide_false, Nat.reduceEqDiff, Nat.one_ne_zero, Int.reduceBNe, Int.reduceBEq, bne_self_eq_false, beq_self_eq_true, Int.cast_ofNat_Int, zeroH_cells, Hdr.len, h0, hz, a1, a2, s17 S _ x ho, List.append_nil, hm, hq, Bool.true_and, nat_bne, ne_eq, not_true_eq_false]
      exact Ends.some rfl
    · simp (maxSteps := 1000000) (disch := first | omega | (simp (disch := first | omega | (simp only [Hdr.len, Hdr.fr, List.length_append, List.length_cons, List.length_nil, List.length_set]; first | done | omega)) only [Hdr.len, Hdr.fr, amSide, Int.reduceToNat, Nat.reducePow, Nat.reduceMul]; first | done | omega)) only  [↓amPre, amPost, ↓s_lit', Nat.reduceAdd, Nat.reduceSub, List.replicate, retA, resultsA, resultA, toC, toCL, Nat.reduceEqDiff, (ze25 S.p), (bu25 S.p), conv_int (un26 S.p) (un22 S.p), conv_int (un26 S.p) (un23 S.p), conv_int (un26 S.p) (un5 S.p), part_all (ag25 S.p) (sz25 S.p), part_at (ag25 S.p) (sz25 S.p), store_last (sz25 S.p), (sz25 S.p), splice_def, cells_self, cells_other, set_self, set_other, tdiv_i, tmod_i, wrap_u64_nat, wrap_u8_nat, wrap_u16_nat, wrap_u32_nat, Int.reduceEq, Int.reduceToNat, Int.toNat_natCast, nat_beq0, nat_beq1, nat_beq2, nat_beq5, decide_true, decide_false, Nat.reduceEqDiff, Nat.one_ne_zero, Int.reduceBNe, Int.reduceBEq, bne_self_eq_false, beq_self_eq_true, Int.cast_ofNat_Int, zeroH_cells, Hdr.len, h0, hz, a1, a2, s17 S _ x ho, List.append_nil, hm, hq, Bool.true_and, nat_bne, ne_eq, not_false_eq_true, Bool.false_eq_true]
      exact Ends.some rfl
theorem s23_2 {P : Program} {T : Tab} {K d : Nat} (S : Sd P T K) (hd : 4 ≤ d) (w : Nat) (hw : w < 18446744073709551616) (h0 : ¬ w % 8 = 0) (h1 : w % 8 = 1) (lk : Nat) (h : List AO) :
    ev P T K d 23 [.sc (.int .u64 (w : Nat))] lk h = some (.tup [.ag (rdH w).cells, .sc (.int .i64 (if rdOk w then 0 else 3))], h) := by
  obtain ⟨d, rfl⟩ : ∃ k, d = k + 1 := ⟨d - 1, by omega⟩
  refine ev_pure (at23 S.t) (by simp only [freeA, freeCL, freeC, Hdr.cells, freeL, freeS, Option.bind_some, Option.map_some, Option.isSome_some]) ?_
  unfold i23 Try.f23
  have hrd : rdH w = if rdOk w then takeH (kindW w) w else zeroH := rfl
  have hro := rd_may w
  have ho := takeH_ok (kindW w) w
  have e1 : kindW w = 2 := by simp [kindW, h1]
  have e2 : takeH (kindW w) w = ⟨2, w / 8 % 16, 0, w / 256 % 2147483648, 0, 0, 0, 0⟩ := by rw [e1]; rfl
  rw [e2] at hrd hro ho
  clear e2
  generalize hx : (⟨2, w / 8 % 16, 0, w / 256 % 2147483648, 0, 0, 0, 0⟩ : Hdr) = x at hrd hro ho
  have a1 : ∀ lk h, ev P T K d 17 [.ag [.int .i64 2, .int .u8 ((w / 8 % 16 : Nat) : Int), .int .u8 (0 : Int), .int .u32 ((w / 256 % 2147483648 : Nat) : Int), .int .u16 (0 : Int), .int .u16 (0 : Int), .int .u16 (0 : Int), .int .u32 (0 : Int)]] lk h = some (.tup [.sc (.int .u64 ((if x.may then x.word else 0 : Nat) : Int)), .sc (.int .i64 (if x.may then 0 else 1))], h) := fun lk h => by
    have := s17 S (d := d) (by omega) x ho lk h
    rw [← hx] at this ⊢; exact this
  have a2 : [.int .i64 2, .int .u8 ((w / 8 % 16 : Nat) : Int), .int .u8 (0 : Int), .int .u32 ((w / 256 % 2147483648 : Nat) : Int), .int .u16 (0 : Int), .int .u16 (0 : Int), .int .u16 (0 : Int), .int .u32 (0 : Int)] = x.cells := by rw [← hx]; rfl
  rw [hrd, hro]
  clear hrd hro hx
  cases hm : x.may with
  | false =>
    simp (maxSteps := 1000000) (disch := first | omega | (simp (disch := first | omega | (simp only [Hdr.len, Hdr.fr, List.length_append, List.length_cons, List.length_nil, List.length_set]; first | done | omega)) only [Hdr.len, Hdr.fr, amSide, Int.reduceToNat, Nat.reducePow, Nat.reduceMul]; first | done | omega)) only  [↓amPre, amPost, ↓s_lit', Nat.reduceAdd, Nat.reduceSub, List.replicate, retA, resultsA, resultA, toC, toCL, Nat.reduceEqDiff, (ze25 S.p), (bu25 S.p), conv_int (un26 S.p) (un22 S.p), conv_int (un26 S.p) (un23 S.p), conv_int (un26 S.p) (un5 S.p), part_all (ag25 S.p) (sz25 S.p), part_at (ag25 S.p) (sz25 S.p), store_last (sz25 S.p), (sz25 S.p), splice_def, cells_self, cells_other, set_self, set_other, tdiv_i, tmod_i, wrap_u64_nat, wrap_u8_nat, wrap_u16_nat, wrap_u32_nat, Int.reduceEq, Int.reduceToNat, Int.toNat_natCast, nat_beq0, nat_beq1, nat_beq2, nat_beq5, decide_true, decide_false, Nat.reduceEqDiff, Nat.one_ne_zero, Int.reduceBNe, Int.reduceBEq, bne_self_eq_false, beq_self_eq_true, Int.cast_ofNat_Int, zeroH_cells, Hdr.len, h0, h1, a1, hm, Bool.false_and, Bool.false_eq_true]
    exact Ends.some rfl
  | true =>
    by_cases hq : x.word = w
    · simp (maxSteps := 1000000) (disch := first | omega | (simp (disch := first | omega | (simp only [Hdr.len, Hdr.fr, List.length_append, List.length_cons, List.length_nil, List.length_set]; first | done | omega)) only [Hdr.len, Hdr.fr, amSide, Int.reduceToNat, Nat.reducePow, Nat.reduceMul]; first | done | omega)) only  [↓amPre, amPost, ↓s_lit', Nat.reduceAdd, Nat.reduceSub, List.replicate, retA, resultsA, resultA, toC, toCL, Nat.reduceEqDiff, (ze25 S.p), (bu25 S.p), conv_int (un26 S.p) (un22 S.p), conv_int (un26 S.p) (un23 S.p), conv_int (un26 S.p) (un5 S.p), part_all (ag25 S.p) (sz25 S.p), part_at (ag25 S.p) (sz25 S.p), store_last (sz25 S.p), (sz25 S.p), splice_def, cells_self, cells_other, set_self, set_other, tdiv_i, tmod_i, wrap_u64_nat, wrap_u8_nat, wrap_u16_nat, wrap_u32_nat, Int.reduceEq, Int.reduceToNat, Int.toNat_natCast, nat_beq0, nat_beq1, nat_beq2, nat_beq5, decide_true, decide_false, Nat.reduceEqDiff, Nat.one_ne_zero, Int.reduceBNe, Int.reduceBEq, bne_self_eq_false, beq_self_eq_true, Int.cast_ofNat_Int, zeroH_cells, Hdr.len, h0, h1, a1, a2, s17 S _ x ho, List.append_nil, hm, hq, Bool.true_and, nat_bne, ne_eq, not_true_eq_false]
      exact Ends.some rfl
    · simp (maxSteps := 1000000) (disch := first | omega | (simp (disch := first | omega | (simp only [Hdr.len, Hdr.fr, List.length_append, List.length_cons, List.length_nil, List.length_set]; first | done | omega)) only [Hdr.len, Hdr.fr, amSide, Int.reduceToNat, Nat.reducePow, Nat.reduceMul]; first | done | omega)) only  [↓amPre, amPost, ↓s_lit', Nat.reduceAdd, Nat.reduceSub, List.replicate, retA, resultsA, resultA, toC, toCL, Nat.reduceEqDiff, (ze25 S.p), (bu25 S.p), conv_int (un26 S.p) (un22 S.p), conv_int (un26 S.p) (un23 S.p), conv_int (un26 S.p) (un5 S.p), part_all (ag25 S.p) (sz25 S.p), part_at (ag25 S.p) (sz25 S.p), store_last (sz25 S.p), (sz25 S.p), splice_def, cells_self, cells_other, set_self, set_other, tdiv_i, tmod_i, wrap_u64_nat, wrap_u8_nat, wrap_u16_nat, wrap_u32_nat, Int.reduceEq, Int.reduceToNat, Int.toNat_natCast, nat_beq0, nat_beq1, nat_beq2, nat_beq5, decide_true, decide_false, Nat.reduceEqDiff, Nat.one_ne_zero, Int.reduceBNe, Int.reduceBEq, bne_self_eq_false, beq_self_eq_true, Int.cast_ofNat_Int, zeroH_cells, Hdr.len, h0, h1, a1, a2, s17 S _ x ho, List.append_nil, hm, hq, Bool.true_and, nat_bne, ne_eq, not_false_eq_true, Bool.false_eq_true]
      exact Ends.some rfl
theorem s23_3 {P : Program} {T : Tab} {K d : Nat} (S : Sd P T K) (hd : 4 ≤ d) (w : Nat) (hw : w < 18446744073709551616) (h0 : ¬ w % 8 = 0) (h1 : ¬ w % 8 = 1) (h2 : w % 8 = 2) (lk : Nat) (h : List AO) :
    ev P T K d 23 [.sc (.int .u64 (w : Nat))] lk h = some (.tup [.ag (rdH w).cells, .sc (.int .i64 (if rdOk w then 0 else 3))], h) := by
  obtain ⟨d, rfl⟩ : ∃ k, d = k + 1 := ⟨d - 1, by omega⟩
  refine ev_pure (at23 S.t) (by simp only [freeA, freeCL, freeC, Hdr.cells, freeL, freeS, Option.bind_some, Option.map_some, Option.isSome_some]) ?_
  unfold i23 Try.f23
  have hrd : rdH w = if rdOk w then takeH (kindW w) w else zeroH := rfl
  have hro := rd_may w
  have ho := takeH_ok (kindW w) w
  have e1 : kindW w = 3 := by simp [kindW, h2]
  have e2 : takeH (kindW w) w = ⟨3, 0, 0, 0, 0, 0, w / 256 % 65536, w / 16777216 % 16777216⟩ := by rw [e1]; rfl
  rw [e2] at hrd hro ho
  clear e2
  generalize hx : (⟨3, 0, 0, 0, 0, 0, w / 256 % 65536, w / 16777216 % 16777216⟩ : Hdr) = x at hrd hro ho
  have a1 : ∀ lk h, ev P T K d 17 [.ag [.int .i64 3, .int .u8 (0 : Int), .int .u8 (0 : Int), .int .u32 (0 : Int), .int .u16 (0 : Int), .int .u16 (0 : Int), .int .u16 ((w / 256 % 65536 : Nat) : Int), .int .u32 ((w / 16777216 % 16777216 : Nat) : Int)]] lk h = some (.tup [.sc (.int .u64 ((if x.may then x.word else 0 : Nat) : Int)), .sc (.int .i64 (if x.may then 0 else 1))], h) := fun lk h => by
    have := s17 S (d := d) (by omega) x ho lk h
    rw [← hx] at this ⊢; exact this
  have a2 : [.int .i64 3, .int .u8 (0 : Int), .int .u8 (0 : Int), .int .u32 (0 : Int), .int .u16 (0 : Int), .int .u16 (0 : Int), .int .u16 ((w / 256 % 65536 : Nat) : Int), .int .u32 ((w / 16777216 % 16777216 : Nat) : Int)] = x.cells := by rw [← hx]; rfl
  rw [hrd, hro]
  clear hrd hro hx
  cases hm : x.may with
  | false =>
    simp (maxSteps := 1000000) (disch := first | omega | (simp (disch := first | omega | (simp only [Hdr.len, Hdr.fr, List.length_append, List.length_cons, List.length_nil, List.length_set]; first | done | omega)) only [Hdr.len, Hdr.fr, amSide, Int.reduceToNat, Nat.reducePow, Nat.reduceMul]; first | done | omega)) only  [↓amPre, amPost, ↓s_lit', Nat.reduceAdd, Nat.reduceSub, List.replicate, retA, resultsA, resultA, toC, toCL, Nat.reduceEqDiff, (ze25 S.p), (bu25 S.p), conv_int (un26 S.p) (un22 S.p), conv_int (un26 S.p) (un23 S.p), conv_int (un26 S.p) (un5 S.p), part_all (ag25 S.p) (sz25 S.p), part_at (ag25 S.p) (sz25 S.p), store_last (sz25 S.p), (sz25 S.p), splice_def, cells_self, cells_other, set_self, set_other, tdiv_i, tmod_i, wrap_u64_nat, wrap_u8_nat, wrap_u16_nat, wrap_u32_nat, Int.reduceEq, Int.reduceToNat, Int.toNat_natCast, nat_beq0, nat_beq1, nat_beq2, nat_beq5, decide_true, decide_false, Nat.reduceEqDiff, Nat.one_ne_zero, Int.reduceBNe, Int.reduceBEq, bne_self_eq_false, beq_self_eq_true, Int.cast_ofNat_Int, zeroH_cells, Hdr.len, h0, h1, h2, a1, hm, Bool.false_and, Bool.false_eq_true]
    exact Ends.some rfl
  | true =>
    by_cases hq : x.word = w
    · simp (maxSteps := 1000000) (disch := first | omega | (simp (disch := first | omega | (simp only [Hdr.len, Hdr.fr, List.length_append, List.length_cons, List.length_nil, List.length_set]; first | done | omega)) only [Hdr.len, Hdr.fr, amSide, Int.reduceToNat, Nat.reducePow, Nat.reduceMul]; first | done | omega)) only  [↓amPre, amPost, ↓s_lit', Nat.reduceAdd, Nat.reduceSub, List.replicate, retA, resultsA, resultA, toC, toCL, Nat.reduceEqDiff, (ze25 S.p), (bu25 S.p), conv_int (un26 S.p) (un22 S.p), conv_int (un26 S.p) (un23 S.p), conv_int (un26 S.p) (un5 S.p), part_all (ag25 S.p) (sz25 S.p), part_at (ag25 S.p) (sz25 S.p), store_last (sz25 S.p), (sz25 S.p), splice_def, cells_self, cells_other, set_self, set_other, tdiv_i, tmod_i, wrap_u64_nat, wrap_u8_nat, wrap_u16_nat, wrap_u32_nat, Int.reduceEq, Int.reduceToNat, Int.toNat_natCast, nat_beq0, nat_beq1, nat_beq2, nat_beq5, decide_true, decide_false, Nat.reduceEqDiff, Nat.one_ne_zero, Int.reduceBNe, Int.reduceBEq, bne_self_eq_false, beq_self_eq_true, Int.cast_ofNat_Int, zeroH_cells, Hdr.len, h0, h1, h2, a1, a2, s17 S _ x ho, List.append_nil, hm, hq, Bool.true_and, nat_bne, ne_eq, not_true_eq_false]
      exact Ends.some rfl
    · simp (maxSteps := 1000000) (disch := first | omega | (simp (disch := first | omega | (simp only [Hdr.len, Hdr.fr, List.length_append, List.length_cons, List.length_nil, List.length_set]; first | done | omega)) only [Hdr.len, Hdr.fr, amSide, Int.reduceToNat, Nat.reducePow, Nat.reduceMul]; first | done | omega)) only  [↓amPre, amPost, ↓s_lit', Nat.reduceAdd, Nat.reduceSub, List.replicate, retA, resultsA, resultA, toC, toCL, Nat.reduceEqDiff, (ze25 S.p), (bu25 S.p), conv_int (un26 S.p) (un22 S.p), conv_int (un26 S.p) (un23 S.p), conv_int (un26 S.p) (un5 S.p), part_all (ag25 S.p) (sz25 S.p), part_at (ag25 S.p) (sz25 S.p), store_last (sz25 S.p), (sz25 S.p), splice_def, cells_self, cells_other, set_self, set_other, tdiv_i, tmod_i, wrap_u64_nat, wrap_u8_nat, wrap_u16_nat, wrap_u32_nat, Int.reduceEq, Int.reduceToNat, Int.toNat_natCast, nat_beq0, nat_beq1, nat_beq2, nat_beq5, decide_true, decide_false, Nat.reduceEqDiff, Nat.one_ne_zero, Int.reduceBNe, Int.reduceBEq, bne_self_eq_false, beq_self_eq_true, Int.cast_ofNat_Int, zeroH_cells, Hdr.len, h0, h1, h2, a1, a2, s17 S _ x ho, List.append_nil, hm, hq, Bool.true_and, nat_bne, ne_eq, not_false_eq_true, Bool.false_eq_true]
      exact Ends.some rfl
theorem s23_4 {P : Program} {T : Tab} {K d : Nat} (S : Sd P T K) (hd : 4 ≤ d) (w : Nat) (hw : w < 18446744073709551616) (h0 : ¬ w % 8 = 0) (h1 : ¬ w % 8 = 1) (h2 : ¬ w % 8 = 2) (h5 : w % 8 = 5) (lk : Nat) (h : List AO) :
    ev P T K d 23 [.sc (.int .u64 (w : Nat))] lk h = some (.tup [.ag (rdH w).cells, .sc (.int .i64 (if rdOk w then 0 else 3))], h) := by
  obtain ⟨d, rfl⟩ : ∃ k, d = k + 1 := ⟨d - 1, by omega⟩
  refine ev_pure (at23 S.t) (by simp only [freeA, freeCL, freeC, Hdr.cells, freeL, freeS, Option.bind_some, Option.map_some, Option.isSome_some]) ?_
  unfold i23 Try.f23
  have hrd : rdH w = if rdOk w then takeH (kindW w) w else zeroH := rfl
  have hro := rd_may w
  have ho := takeH_ok (kindW w) w
  have e1 : kindW w = 4 := by simp [kindW, h5]
  have e2 : takeH (kindW w) w = ⟨4, w / 8 % 16, w / 256 % 256, 0, w / 16777216 % 65536, 0, 0, 0⟩ := by rw [e1]; rfl
  rw [e2] at hrd hro ho
  clear e2
  generalize hx : (⟨4, w / 8 % 16, w / 256 % 256, 0, w / 16777216 % 65536, 0, 0, 0⟩ : Hdr) = x at hrd hro ho
  have a1 : ∀ lk h, ev P T K d 17 [.ag [.int .i64 4, .int .u8 ((w / 8 % 16 : Nat) : Int), .int .u8 ((w / 256 % 256 : Nat) : Int), .int .u32 (0 : Int), .int .u16 ((w / 16777216 % 65536 : Nat) : Int), .int .u16 (0 : Int), .int .u16 (0 : Int), .int .u32 (0 : Int)]] lk h = some (.tup [.sc (.int .u64 ((if x.may then x.word else 0 : Nat) : Int)), .sc (.int .i64 (if x.may then 0 else 1))], h) := fun lk h => by
    have := s17 S (d := d) (by omega) x ho lk h
    rw [← hx] at this ⊢; exact this
  have a2 : [.int .i64 4, .int .u8 ((w / 8 % 16 : Nat) : Int), .int .u8 ((w / 256 % 256 : Nat) : Int), .int .u32 (0 : Int), .int .u16 ((w / 16777216 % 65536 : Nat) : Int), .int .u16 (0 : Int), .int .u16 (0 : Int), .int .u32 (0 : Int)] = x.cells := by rw [← hx]; rfl
  rw [hrd, hro]
  clear hrd hro hx
  cases hm : x.may with
  | false =>
    simp (maxSteps := 1000000) (disch := first | omega | (simp (disch := first | omega | (simp only [Hdr.len, Hdr.fr, List.length_append, List.length_cons, List.length_nil, List.length_set]; first | done | omega)) only [Hdr.len, Hdr.fr, amSide, Int.reduceToNat, Nat.reducePow, Nat.reduceMul]; first | done | omega)) only  [↓amPre, amPost, ↓s_lit', Nat.reduceAdd, Nat.reduceSub, List.replicate, retA, resultsA, resultA, toC, toCL, Nat.reduceEqDiff, (ze25 S.p), (bu25 S.p), conv_int (un26 S.p) (un22 S.p), conv_int (un26 S.p) (un23 S.p), conv_int (un26 S.p) (un5 S.p), part_all (ag25 S.p) (sz25 S.p), part_at (ag25 S.p) (sz25 S.p), store_last (sz25 S.p), (sz25 S.p), splice_def, cells_self, cells_other, set_self, set_other, tdiv_i, tmod_i, wrap_u64_nat, wrap_u8_nat, wrap_u16_nat, wrap_u32_nat, Int.reduceEq, Int.reduceToNat, Int.toNat_natCast, nat_beq0, nat_beq1, nat_beq2, nat_beq5, decide_true, decide_false, Nat.reduceEqDiff, Nat.one_ne_zero, Int.reduceBNe, Int.reduceBEq, bne_self_eq_false, beq_self_eq_true, Int.cast_ofNat_Int, zeroH_cells, Hdr.len, h0, h1, h2, h5, a1, hm, Bool.false_and, Bool.false_eq_true]
    exact Ends.some rfl
  | true =>
    by_cases hq : x.word = w
    · simp (maxSteps := 1000000) (disch := first | omega | (simp (disch := first | omega | (simp only [Hdr.len, Hdr.fr, List.length_append, List.length_cons, List.length_nil, List.length_set]; first | done | omega)) only [Hdr.len, Hdr.fr, amSide, Int.reduceToNat, Nat.reducePow, Nat.reduceMul]; first | done | omega)) only  [↓amPre, amPost, ↓s_lit', Nat.reduceAdd, Nat.reduceSub, List.replicate, retA, resultsA, resultA, toC, toCL, Nat.reduceEqDiff, (ze25 S.p), (bu25 S.p), conv_int (un26 S.p) (un22 S.p), conv_int (un26 S.p) (un23 S.p), conv_int (un26 S.p) (un5 S.p), part_all (ag25 S.p) (sz25 S.p), part_at (ag25 S.p) (sz25 S.p), store_last (sz25 S.p), (sz25 S.p), splice_def, cells_self, cells_other, set_self, set_other, tdiv_i, tmod_i, wrap_u64_nat, wrap_u8_nat, wrap_u16_nat, wrap_u32_nat, Int.reduceEq, Int.reduceToNat, Int.toNat_natCast, nat_beq0, nat_beq1, nat_beq2, nat_beq5, decide_true, decide_false, Nat.reduceEqDiff, Nat.one_ne_zero, Int.reduceBNe, Int.reduceBEq, bne_self_eq_false, beq_self_eq_true, Int.cast_ofNat_Int, zeroH_cells, Hdr.len, h0, h1, h2, h5, a1, a2, s17 S _ x ho, List.append_nil, hm, hq, Bool.true_and, nat_bne, ne_eq, not_true_eq_false]
      exact Ends.some rfl
    · simp (maxSteps := 1000000) (disch := first | omega | (simp (disch := first | omega | (simp only [Hdr.len, Hdr.fr, List.length_append, List.length_cons, List.length_nil, List.length_set]; first | done | omega)) only [Hdr.len, Hdr.fr, amSide, Int.reduceToNat, Nat.reducePow, Nat.reduceMul]; first | done | omega)) only  [↓amPre, amPost, ↓s_lit', Nat.reduceAdd, Nat.reduceSub, List.replicate, retA, resultsA, resultA, toC, toCL, Nat.reduceEqDiff, (ze25 S.p), (bu25 S.p), conv_int (un26 S.p) (un22 S.p), conv_int (un26 S.p) (un23 S.p), conv_int (un26 S.p) (un5 S.p), part_all (ag25 S.p) (sz25 S.p), part_at (ag25 S.p) (sz25 S.p), store_last (sz25 S.p), (sz25 S.p), splice_def, cells_self, cells_other, set_self, set_other, tdiv_i, tmod_i, wrap_u64_nat, wrap_u8_nat, wrap_u16_nat, wrap_u32_nat, Int.reduceEq, Int.reduceToNat, Int.toNat_natCast, nat_beq0, nat_beq1, nat_beq2, nat_beq5, decide_true, decide_false, Nat.reduceEqDiff, Nat.one_ne_zero, Int.reduceBNe, Int.reduceBEq, bne_self_eq_false, beq_self_eq_true, Int.cast_ofNat_Int, zeroH_cells, Hdr.len, h0, h1, h2, h5, a1, a2, s17 S _ x ho, List.append_nil, hm, hq, Bool.true_and, nat_bne, ne_eq, not_false_eq_true, Bool.false_eq_true]
      exact Ends.some rfl
theorem s23 {P : Program} {T : Tab} {K d : Nat} (S : Sd P T K) (hd : 4 ≤ d) (w : Nat) (hw : w < 18446744073709551616)  (lk : Nat) (h : List AO) :
    ev P T K d 23 [.sc (.int .u64 (w : Nat))] lk h = some (.tup [.ag (rdH w).cells, .sc (.int .i64 (if rdOk w then 0 else 3))], h) := by
  by_cases h0 : w % 8 = 0
  · cases hz : decide (w = 0) with
    | true => exact s23_5 S hd w hw h0 hz lk h
    | false => exact s23_1 S hd w hw h0 hz lk h
  by_cases h1 : w % 8 = 1
  · exact s23_2 S hd w hw h0 h1 lk h
  by_cases h2 : w % 8 = 2
  · exact s23_3 S hd w hw h0 h1 h2 lk h
  by_cases h5 : w % 8 = 5
  · exact s23_4 S hd w hw h0 h1 h2 h5 lk h
  obtain ⟨d, rfl⟩ : ∃ k, d = k + 1 := ⟨d - 1, by omega⟩
  refine ev_pure (at23 S.t) (by simp only [freeA, freeCL, freeC, Hdr.cells, freeL, freeS, Option.bind_some, Option.map_some, Option.isSome_some]) ?_
  unfold i23 Try.f23
  have hrd : rdH w = if rdOk w then takeH (kindW w) w else zeroH := rfl
  have hro := rd_may w
  have ho := takeH_ok (kindW w) w
  have e1 : kindW w = 0 := by simp [kindW, h0, h1, h2, h5]
  have e2 : rdOk w = false := by unfold rdOk; rw [e1]; simp [takeH, Hdr.fits]
  rw [hrd, e2]
  clear hrd hro ho
  simp (maxSteps := 1000000) (disch := first | omega | (simp (disch := first | omega | (simp only [Hdr.len, Hdr.fr, List.length_append, List.length_cons, List.length_nil, List.length_set]; first | done | omega)) only [Hdr.len, Hdr.fr, amSide, Int.reduceToNat, Nat.reducePow, Nat.reduceMul]; first | done | omega)) only  [↓amPre, amPost, ↓s_lit', Nat.reduceAdd, Nat.reduceSub, List.replicate, retA, resultsA, resultA, toC, toCL, Nat.reduceEqDiff, (ze25 S.p), (bu25 S.p), conv_int (un26 S.p) (un22 S.p), conv_int (un26 S.p) (un23 S.p), conv_int (un26 S.p) (un5 S.p), part_all (ag25 S.p) (sz25 S.p), part_at (ag25 S.p) (sz25 S.p), store_last (sz25 S.p), (sz25 S.p), splice_def, cells_self, cells_other, set_self, set_other, tdiv_i, tmod_i, wrap_u64_nat, wrap_u8_nat, wrap_u16_nat, wrap_u32_nat, Int.reduceEq, Int.reduceToNat, Int.toNat_natCast, nat_beq0, nat_beq1, nat_beq2, nat_beq5, decide_true, decide_false, Nat.reduceEqDiff, Nat.one_ne_zero, Int.reduceBNe, Int.reduceBEq, bne_self_eq_false, beq_self_eq_true, Int.cast_ofNat_Int, zeroH_cells, Hdr.len, h0, h1, h2, h5, Bool.false_eq_true]
  exact Ends.some rfl
end Go.AM
