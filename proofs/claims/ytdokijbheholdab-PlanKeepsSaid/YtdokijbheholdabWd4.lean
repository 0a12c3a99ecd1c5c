/- Headers and words: what the program answers. Conditions: none. Printed by gen_wd4.py. -/
import Derived.Test.YtdokijbheholdabWd3
set_option linter.unusedVariables false
set_option linter.unusedSimpArgs false
set_option maxRecDepth 100000
namespace Go.AM
open Go.Proofs
-- LENS: Hdr.len
deriving instance DecidableEq for Hdr
theorem eqL_hdr (x y : Hdr) : eqL [1, 1, 1, 1, 1, 1, 1, 1] x.cells y.cells = some (decide (x = y)) := by
  obtain ⟨a, b, c, d, e, f, g, i⟩ := x
  obtain ⟨a', b', c', d', e', f', g', i'⟩ := y
  simp only [eqL, eqS, Hdr.cells, if_true, Option.bind_some, Option.map_some, Hdr.mk.injEq, Bool.decide_and, Bool.and_true]
  have n : ∀ x y : Nat, ((x : Int) == (y : Int)) = decide (x = y) := fun x y => by
    by_cases h : x = y
    · subst h; simp
    · rw [decide_eq_false h]; exact beq_false_of_ne (by omega)
  simp only [n]
  by_cases h : a = a'
  · subst h; simp
  · simp [h]
/-- The header of a kind with a word's fields. -/
def takeH (k : Int) (w : Nat) : Hdr :=
  if k = 1 then ⟨1, 0, 0, 0, w / 16777216 % 65536, w / 256 % 65536, 0, 0⟩ else if k = 2 then ⟨2, w / 8 % 16, 0, w / 256 % 2147483648, 0, 0, 0, 0⟩ else if k = 3 then ⟨3, 0, 0, 0, 0, 0, w / 256 % 65536, w / 16777216 % 16777216⟩ else if k = 4 then ⟨4, w / 8 % 16, w / 256 % 256, 0, w / 16777216 % 65536, 0, 0, 0⟩ else ⟨k, 0, 0, 0, 0, 0, 0, 0⟩
theorem s50 {P : Program} {T : Tab} {K d : Nat} (S : Sd P T K) (hd : 5 ≤ d) (k : Int) (hk : 0 ≤ k ∧ k ≤ 5) (w : Nat) (hw : w < 18446744073709551616) (lk : Nat) (h : List AO) :
    ev P T K d 50 [.sc (.int .i64 k), .sc (.int .u64 (w : Nat))] lk h = some (.v (.ag (takeH k w).cells), h) := by
  have hc : k = 0 ∨ k = 1 ∨ k = 2 ∨ k = 3 ∨ k = 4 ∨ k = 5 := by omega
  rcases hc with rfl | rfl | rfl | rfl | rfl | rfl
  · exact s50_0 S hd w hw lk h
  · exact s50_1 S hd w hw lk h
  · exact s50_2 S hd w hw lk h
  · exact s50_3 S hd w hw lk h
  · exact s50_4 S hd w hw lk h
  · exact s50_5 S hd w hw lk h
theorem s49_1 {P : Program} {T : Tab} {K d : Nat} (S : Sd P T K) (hd : 6 ≤ d) (x : Hdr) (hx : x.ok) (hk : x.kind = 1) (ho : x.own ≠ 0)  (lk : Nat) (h : List AO) :
    ev P T K d 49 [.ag x.cells] lk h = some (.tup [.sc (.int .u64 ((0 + x.rcd * 256 + x.own * 16777216 : Nat) : Int)), .sc (.bool true)], h) := by
  obtain ⟨d, rfl⟩ : ∃ k, d = k + 1 := ⟨d - 1, by omega⟩
  refine ev_pure (at49 S.t) rfl ?_
  unfold i49 Try.f49
  have eo : ((x.own : Int) == 0) = false := beq_false_of_ne (by omega)
  simp (maxSteps := 1000000) (disch := first | omega | (simp (disch := first | omega | (simp only [Hdr.len, List.length_append, List.length_cons, List.length_nil, List.length_set]; first | done | omega)) only [Hdr.len, amSide, Int.reduceToNat, Nat.reducePow, Nat.reduceMul]; first | done | omega)) only  [↓amPre, amPost, ↓s_lit', Nat.reduceAdd, Nat.reduceSub, List.replicate, retA, resultsA, resultA, toC, toCL, Nat.reduceEqDiff, (fa30_0 S.p), (fa30_4 S.p), len_sl (un106 S.p), len_nils (un106 S.p), part_sc (ag23 S.p), part_sc (ag3 S.p), part_all (ag30 S.p) (sz30 S.p), part_at (ag30 S.p) (sz30 S.p), cells_self, cells_other, obj_self, obj_other, set_self, set_other, Hdr.len, Hdr.c0, Hdr.c1, Hdr.c2, Hdr.c3, Hdr.c4, Hdr.c5, Hdr.c6, Hdr.c7, hk, s62_1 S _ x hx hk, s63_1 S _ x hx , eo, Int.reduceLT, Int.reduceLE, Nat.reduceLeDiff, Nat.reduceLT, Int.reduceAdd, Int.reduceSub, Int.reduceBEq, Int.reduceBNe, Int.reduceToNat, Int.toNat_natCast, Nat.reducePow, Nat.reduceMul, Nat.reduceSub, Nat.reduceAdd, Nat.reduceDiv, Nat.reduceMod, Nat.reduceAnd, Nat.reduceOr, decide_true, decide_false, Int.cast_ofNat_Int, iter_more, and_i, or_i, wrap_i64, Nat.add_zero, Nat.zero_add, List.append_nil, bne_self_eq_false, beq_self_eq_true, iaddr_ok, part_two, Nat.sub_self, Nat.one_mul, Nat.zero_mul, Nat.mul_one, Nat.div_one, wrap_u64_nat]
  exact Ends.some rfl
theorem s49_1z {P : Program} {T : Tab} {K d : Nat} (S : Sd P T K) (hd : 6 ≤ d) (x : Hdr) (hx : x.ok) (hk : x.kind = 1) (ho : x.own = 0) (lk : Nat) (h : List AO) :
    ev P T K d 49 [.ag x.cells] lk h = some (.tup [.sc (.int .u64 0), .sc (.bool false)], h) := by
  obtain ⟨d, rfl⟩ : ∃ k, d = k + 1 := ⟨d - 1, by omega⟩
  refine ev_pure (at49 S.t) rfl ?_
  unfold i49 Try.f49
  have eo : ((x.own : Int) == 0) = true := by rw [ho]; rfl
  simp (maxSteps := 1000000) (disch := first | omega | (simp (disch := first | omega | (simp only [Hdr.len, List.length_append, List.length_cons, List.length_nil, List.length_set]; first | done | omega)) only [Hdr.len, amSide, Int.reduceToNat, Nat.reducePow, Nat.reduceMul]; first | done | omega)) only  [↓amPre, amPost, ↓s_lit', Nat.reduceAdd, Nat.reduceSub, List.replicate, retA, resultsA, resultA, toC, toCL, Nat.reduceEqDiff, (fa30_0 S.p), (fa30_4 S.p), len_sl (un106 S.p), len_nils (un106 S.p), part_sc (ag23 S.p), part_sc (ag3 S.p), part_all (ag30 S.p) (sz30 S.p), part_at (ag30 S.p) (sz30 S.p), cells_self, cells_other, obj_self, obj_other, set_self, set_other, Hdr.len, Hdr.c0, Hdr.c1, Hdr.c2, Hdr.c3, Hdr.c4, Hdr.c5, Hdr.c6, Hdr.c7, hk, s62_1 S _ x hx hk, eo, Int.reduceLT, Int.reduceLE, Nat.reduceLeDiff, Nat.reduceLT, Int.reduceAdd, Int.reduceSub, Int.reduceBEq, Int.reduceBNe, Int.reduceToNat, Int.toNat_natCast, Nat.reducePow, Nat.reduceMul, Nat.reduceSub, Nat.reduceAdd, Nat.reduceDiv, Nat.reduceMod, Nat.reduceAnd, Nat.reduceOr, decide_true, decide_false, Int.cast_ofNat_Int, iter_more, and_i, or_i, wrap_i64, Nat.add_zero, Nat.zero_add, List.append_nil, bne_self_eq_false, beq_self_eq_true, iaddr_ok, part_two, Nat.sub_self, Nat.one_mul, Nat.zero_mul, Nat.mul_one, Nat.div_one, wrap_u64_nat]
  exact Ends.some rfl
theorem s49_2 {P : Program} {T : Tab} {K d : Nat} (S : Sd P T K) (hd : 6 ≤ d) (x : Hdr) (hx : x.ok) (hk : x.kind = 2) (hf1 : x.age < 16) (hf2 : x.hash < 2147483648) (lk : Nat) (h : List AO) :
    ev P T K d 49 [.ag x.cells] lk h = some (.tup [.sc (.int .u64 ((1 + x.age * 8 + x.hash * 256 : Nat) : Int)), .sc (.bool true)], h) := by
  obtain ⟨d, rfl⟩ : ∃ k, d = k + 1 := ⟨d - 1, by omega⟩
  refine ev_pure (at49 S.t) rfl ?_
  unfold i49 Try.f49
  skip
  simp (maxSteps := 1000000) (disch := first | omega | (simp (disch := first | omega | (simp only [Hdr.len, List.length_append, List.length_cons, List.length_nil, List.length_set]; first | done | omega)) only [Hdr.len, amSide, Int.reduceToNat, Nat.reducePow, Nat.reduceMul]; first | done | omega)) only  [↓amPre, amPost, ↓s_lit', Nat.reduceAdd, Nat.reduceSub, List.replicate, retA, resultsA, resultA, toC, toCL, Nat.reduceEqDiff, (fa30_0 S.p), (fa30_4 S.p), len_sl (un106 S.p), len_nils (un106 S.p), part_sc (ag23 S.p), part_sc (ag3 S.p), part_all (ag30 S.p) (sz30 S.p), part_at (ag30 S.p) (sz30 S.p), cells_self, cells_other, obj_self, obj_other, set_self, set_other, Hdr.len, Hdr.c0, Hdr.c1, Hdr.c2, Hdr.c3, Hdr.c4, Hdr.c5, Hdr.c6, Hdr.c7, hk, s62_2 S _ x hx hk, s63_2 S _ x hx hf1 hf2, Int.reduceLT, Int.reduceLE, Nat.reduceLeDiff, Nat.reduceLT, Int.reduceAdd, Int.reduceSub, Int.reduceBEq, Int.reduceBNe, Int.reduceToNat, Int.toNat_natCast, Nat.reducePow, Nat.reduceMul, Nat.reduceSub, Nat.reduceAdd, Nat.reduceDiv, Nat.reduceMod, Nat.reduceAnd, Nat.reduceOr, decide_true, decide_false, Int.cast_ofNat_Int, iter_more, and_i, or_i, wrap_i64, Nat.add_zero, Nat.zero_add, List.append_nil, bne_self_eq_false, beq_self_eq_true, iaddr_ok, part_two, Nat.sub_self, Nat.one_mul, Nat.zero_mul, Nat.mul_one, Nat.div_one, wrap_u64_nat]
  exact Ends.some rfl
theorem s49_2n1 {P : Program} {T : Tab} {K d : Nat} (S : Sd P T K) (hd : 6 ≤ d) (x : Hdr) (hx : x.ok) (hk : x.kind = 2)  (hn : ¬ x.age < 16) (lk : Nat) (h : List AO) :
    ev P T K d 49 [.ag x.cells] lk h = some (.tup [.sc (.int .u64 0), .sc (.bool false)], h) := by
  obtain ⟨d, rfl⟩ : ∃ k, d = k + 1 := ⟨d - 1, by omega⟩
  refine ev_pure (at49 S.t) rfl ?_
  unfold i49 Try.f49
  skip
  simp (maxSteps := 1000000) (disch := first | omega | (simp (disch := first | omega | (simp only [Hdr.len, List.length_append, List.length_cons, List.length_nil, List.length_set]; first | done | omega)) only [Hdr.len, amSide, Int.reduceToNat, Nat.reducePow, Nat.reduceMul]; first | done | omega)) only  [↓amPre, amPost, ↓s_lit', Nat.reduceAdd, Nat.reduceSub, List.replicate, retA, resultsA, resultA, toC, toCL, Nat.reduceEqDiff, (fa30_0 S.p), (fa30_4 S.p), len_sl (un106 S.p), len_nils (un106 S.p), part_sc (ag23 S.p), part_sc (ag3 S.p), part_all (ag30 S.p) (sz30 S.p), part_at (ag30 S.p) (sz30 S.p), cells_self, cells_other, obj_self, obj_other, set_self, set_other, Hdr.len, Hdr.c0, Hdr.c1, Hdr.c2, Hdr.c3, Hdr.c4, Hdr.c5, Hdr.c6, Hdr.c7, hk, s62_2 S _ x hx hk, s63n_2_1 S _ x hx  hn, Int.reduceLT, Int.reduceLE, Nat.reduceLeDiff, Nat.reduceLT, Int.reduceAdd, Int.reduceSub, Int.reduceBEq, Int.reduceBNe, Int.reduceToNat, Int.toNat_natCast, Nat.reducePow, Nat.reduceMul, Nat.reduceSub, Nat.reduceAdd, Nat.reduceDiv, Nat.reduceMod, Nat.reduceAnd, Nat.reduceOr, decide_true, decide_false, Int.cast_ofNat_Int, iter_more, and_i, or_i, wrap_i64, Nat.add_zero, Nat.zero_add, List.append_nil, bne_self_eq_false, beq_self_eq_true, iaddr_ok, part_two, Nat.sub_self, Nat.one_mul, Nat.zero_mul, Nat.mul_one, Nat.div_one, wrap_u64_nat]
  exact Ends.some rfl
theorem s49_2n2 {P : Program} {T : Tab} {K d : Nat} (S : Sd P T K) (hd : 6 ≤ d) (x : Hdr) (hx : x.ok) (hk : x.kind = 2) (hf1 : x.age < 16) (hn : ¬ x.hash < 2147483648) (lk : Nat) (h : List AO) :
    ev P T K d 49 [.ag x.cells] lk h = some (.tup [.sc (.int .u64 0), .sc (.bool false)], h) := by
  obtain ⟨d, rfl⟩ : ∃ k, d = k + 1 := ⟨d - 1, by omega⟩
  refine ev_pure (at49 S.t) rfl ?_
  unfold i49 Try.f49
  skip
  simp (maxSteps := 1000000) (disch := first | omega | (simp (disch := first | omega | (simp only [Hdr.len, List.length_append, List.length_cons, List.length_nil, List.length_set]; first | done | omega)) only [Hdr.len, amSide, Int.reduceToNat, Nat.reducePow, Nat.reduceMul]; first | done | omega)) only  [↓amPre, amPost, ↓s_lit', Nat.reduceAdd, Nat.reduceSub, List.replicate, retA, resultsA, resultA, toC, toCL, Nat.reduceEqDiff, (fa30_0 S.p), (fa30_4 S.p), len_sl (un106 S.p), len_nils (un106 S.p), part_sc (ag23 S.p), part_sc (ag3 S.p), part_all (ag30 S.p) (sz30 S.p), part_at (ag30 S.p) (sz30 S.p), cells_self, cells_other, obj_self, obj_other, set_self, set_other, Hdr.len, Hdr.c0, Hdr.c1, Hdr.c2, Hdr.c3, Hdr.c4, Hdr.c5, Hdr.c6, Hdr.c7, hk, s62_2 S _ x hx hk, s63n_2_2 S _ x hx hf1 hn, Int.reduceLT, Int.reduceLE, Nat.reduceLeDiff, Nat.reduceLT, Int.reduceAdd, Int.reduceSub, Int.reduceBEq, Int.reduceBNe, Int.reduceToNat, Int.toNat_natCast, Nat.reducePow, Nat.reduceMul, Nat.reduceSub, Nat.reduceAdd, Nat.reduceDiv, Nat.reduceMod, Nat.reduceAnd, Nat.reduceOr, decide_true, decide_false, Int.cast_ofNat_Int, iter_more, and_i, or_i, wrap_i64, Nat.add_zero, Nat.zero_add, List.append_nil, bne_self_eq_false, beq_self_eq_true, iaddr_ok, part_two, Nat.sub_self, Nat.one_mul, Nat.zero_mul, Nat.mul_one, Nat.div_one, wrap_u64_nat]
  exact Ends.some rfl
theorem s49_3 {P : Program} {T : Tab} {K d : Nat} (S : Sd P T K) (hd : 6 ≤ d) (x : Hdr) (hx : x.ok) (hk : x.kind = 3) (hf2 : x.gen < 16777216) (lk : Nat) (h : List AO) :
    ev P T K d 49 [.ag x.cells] lk h = some (.tup [.sc (.int .u64 ((2 + x.slot * 256 + x.gen * 16777216 : Nat) : Int)), .sc (.bool true)], h) := by
  obtain ⟨d, rfl⟩ : ∃ k, d = k + 1 := ⟨d - 1, by omega⟩
  refine ev_pure (at49 S.t) rfl ?_
  unfold i49 Try.f49
  skip
  simp (maxSteps := 1000000) (disch := first | omega | (simp (disch := first | omega | (simp only [Hdr.len, List.length_append, List.length_cons, List.length_nil, List.length_set]; first | done | omega)) only [Hdr.len, amSide, Int.reduceToNat, Nat.reducePow, Nat.reduceMul]; first | done | omega)) only  [↓amPre, amPost, ↓s_lit', Nat.reduceAdd, Nat.reduceSub, List.replicate, retA, resultsA, resultA, toC, toCL, Nat.reduceEqDiff, (fa30_0 S.p), (fa30_4 S.p), len_sl (un106 S.p), len_nils (un106 S.p), part_sc (ag23 S.p), part_sc (ag3 S.p), part_all (ag30 S.p) (sz30 S.p), part_at (ag30 S.p) (sz30 S.p), cells_self, cells_other, obj_self, obj_other, set_self, set_other, Hdr.len, Hdr.c0, Hdr.c1, Hdr.c2, Hdr.c3, Hdr.c4, Hdr.c5, Hdr.c6, Hdr.c7, hk, s62_3 S _ x hx hk, s63_3 S _ x hx hf2, Int.reduceLT, Int.reduceLE, Nat.reduceLeDiff, Nat.reduceLT, Int.reduceAdd, Int.reduceSub, Int.reduceBEq, Int.reduceBNe, Int.reduceToNat, Int.toNat_natCast, Nat.reducePow, Nat.reduceMul, Nat.reduceSub, Nat.reduceAdd, Nat.reduceDiv, Nat.reduceMod, Nat.reduceAnd, Nat.reduceOr, decide_true, decide_false, Int.cast_ofNat_Int, iter_more, and_i, or_i, wrap_i64, Nat.add_zero, Nat.zero_add, List.append_nil, bne_self_eq_false, beq_self_eq_true, iaddr_ok, part_two, Nat.sub_self, Nat.one_mul, Nat.zero_mul, Nat.mul_one, Nat.div_one, wrap_u64_nat]
  exact Ends.some rfl
theorem s49_3n2 {P : Program} {T : Tab} {K d : Nat} (S : Sd P T K) (hd : 6 ≤ d) (x : Hdr) (hx : x.ok) (hk : x.kind = 3)  (hn : ¬ x.gen < 16777216) (lk : Nat) (h : List AO) :
    ev P T K d 49 [.ag x.cells] lk h = some (.tup [.sc (.int .u64 0), .sc (.bool false)], h) := by
  obtain ⟨d, rfl⟩ : ∃ k, d = k + 1 := ⟨d - 1, by omega⟩
  refine ev_pure (at49 S.t) rfl ?_
  unfold i49 Try.f49
  skip
  simp (maxSteps := 1000000) (disch := first | omega | (simp (disch := first | omega | (simp only [Hdr.len, List.length_append, List.length_cons, List.length_nil, List.length_set]; first | done | omega)) only [Hdr.len, amSide, Int.reduceToNat, Nat.reducePow, Nat.reduceMul]; first | done | omega)) only  [↓amPre, amPost, ↓s_lit', Nat.reduceAdd, Nat.reduceSub, List.replicate, retA, resultsA, resultA, toC, toCL, Nat.reduceEqDiff, (fa30_0 S.p), (fa30_4 S.p), len_sl (un106 S.p), len_nils (un106 S.p), part_sc (ag23 S.p), part_sc (ag3 S.p), part_all (ag30 S.p) (sz30 S.p), part_at (ag30 S.p) (sz30 S.p), cells_self, cells_other, obj_self, obj_other, set_self, set_other, Hdr.len, Hdr.c0, Hdr.c1, Hdr.c2, Hdr.c3, Hdr.c4, Hdr.c5, Hdr.c6, Hdr.c7, hk, s62_3 S _ x hx hk, s63n_3_2 S _ x hx  hn, Int.reduceLT, Int.reduceLE, Nat.reduceLeDiff, Nat.reduceLT, Int.reduceAdd, Int.reduceSub, Int.reduceBEq, Int.reduceBNe, Int.reduceToNat, Int.toNat_natCast, Nat.reducePow, Nat.reduceMul, Nat.reduceSub, Nat.reduceAdd, Nat.reduceDiv, Nat.reduceMod, Nat.reduceAnd, Nat.reduceOr, decide_true, decide_false, Int.cast_ofNat_Int, iter_more, and_i, or_i, wrap_i64, Nat.add_zero, Nat.zero_add, List.append_nil, bne_self_eq_false, beq_self_eq_true, iaddr_ok, part_two, Nat.sub_self, Nat.one_mul, Nat.zero_mul, Nat.mul_one, Nat.div_one, wrap_u64_nat]
  exact Ends.some rfl
theorem s49_4 {P : Program} {T : Tab} {K d : Nat} (S : Sd P T K) (hd : 6 ≤ d) (x : Hdr) (hx : x.ok) (hk : x.kind = 4) (hf1 : x.age < 16) (lk : Nat) (h : List AO) :
    ev P T K d 49 [.ag x.cells] lk h = some (.tup [.sc (.int .u64 ((5 + x.age * 8 + x.ep * 256 + x.own * 16777216 : Nat) : Int)), .sc (.bool true)], h) := by
  obtain ⟨d, rfl⟩ : ∃ k, d = k + 1 := ⟨d - 1, by omega⟩
  refine ev_pure (at49 S.t) rfl ?_
  unfold i49 Try.f49
  skip
  simp (maxSteps := 1000000) (disch := first | omega | (simp (disch := first | omega | (simp only [Hdr.len, List.length_append, List.length_cons, List.length_nil, List.length_set]; first | done | omega)) only [Hdr.len, amSide, Int.reduceToNat, Nat.reducePow, Nat.reduceMul]; first | done | omega)) only  [↓amPre, amPost, ↓s_lit', Nat.reduceAdd, Nat.reduceSub, List.replicate, retA, resultsA, resultA, toC, toCL, Nat.reduceEqDiff, (fa30_0 S.p), (fa30_4 S.p), len_sl (un106 S.p), len_nils (un106 S.p), part_sc (ag23 S.p), part_sc (ag3 S.p), part_all (ag30 S.p) (sz30 S.p), part_at (ag30 S.p) (sz30 S.p), cells_self, cells_other, obj_self, obj_other, set_self, set_other, Hdr.len, Hdr.c0, Hdr.c1, Hdr.c2, Hdr.c3, Hdr.c4, Hdr.c5, Hdr.c6, Hdr.c7, hk, s62_4 S _ x hx hk, s63_4 S _ x hx hf1, Int.reduceLT, Int.reduceLE, Nat.reduceLeDiff, Nat.reduceLT, Int.reduceAdd, Int.reduceSub, Int.reduceBEq, Int.reduceBNe, Int.reduceToNat, Int.toNat_natCast, Nat.reducePow, Nat.reduceMul, Nat.reduceSub, Nat.reduceAdd, Nat.reduceDiv, Nat.reduceMod, Nat.reduceAnd, Nat.reduceOr, decide_true, decide_false, Int.cast_ofNat_Int, iter_more, and_i, or_i, wrap_i64, Nat.add_zero, Nat.zero_add, List.append_nil, bne_self_eq_false, beq_self_eq_true, iaddr_ok, part_two, Nat.sub_self, Nat.one_mul, Nat.zero_mul, Nat.mul_one, Nat.div_one, wrap_u64_nat]
  exact Ends.some rfl
theorem s49_4n1 {P : Program} {T : Tab} {K d : Nat} (S : Sd P T K) (hd : 6 ≤ d) (x : Hdr) (hx : x.ok) (hk : x.kind = 4)  (hn : ¬ x.age < 16) (lk : Nat) (h : List AO) :
    ev P T K d 49 [.ag x.cells] lk h = some (.tup [.sc (.int .u64 0), .sc (.bool false)], h) := by
  obtain ⟨d, rfl⟩ : ∃ k, d = k + 1 := ⟨d - 1, by omega⟩
  refine ev_pure (at49 S.t) rfl ?_
  unfold i49 Try.f49
  skip
  simp (maxSteps := 1000000) (disch := first | omega | (simp (disch := first | omega | (simp only [Hdr.len, List.length_append, List.length_cons, List.length_nil, List.length_set]; first | done | omega)) only [Hdr.len, amSide, Int.reduceToNat, Nat.reducePow, Nat.reduceMul]; first | done | omega)) only  [↓amPre, amPost, ↓s_lit', Nat.reduceAdd, Nat.reduceSub, List.replicate, retA, resultsA, resultA, toC, toCL, Nat.reduceEqDiff, (fa30_0 S.p), (fa30_4 S.p), len_sl (un106 S.p), len_nils (un106 S.p), part_sc (ag23 S.p), part_sc (ag3 S.p), part_all (ag30 S.p) (sz30 S.p), part_at (ag30 S.p) (sz30 S.p), cells_self, cells_other, obj_self, obj_other, set_self, set_other, Hdr.len, Hdr.c0, Hdr.c1, Hdr.c2, Hdr.c3, Hdr.c4, Hdr.c5, Hdr.c6, Hdr.c7, hk, s62_4 S _ x hx hk, s63n_4_1 S _ x hx  hn, Int.reduceLT, Int.reduceLE, Nat.reduceLeDiff, Nat.reduceLT, Int.reduceAdd, Int.reduceSub, Int.reduceBEq, Int.reduceBNe, Int.reduceToNat, Int.toNat_natCast, Nat.reducePow, Nat.reduceMul, Nat.reduceSub, Nat.reduceAdd, Nat.reduceDiv, Nat.reduceMod, Nat.reduceAnd, Nat.reduceOr, decide_true, decide_false, Int.cast_ofNat_Int, iter_more, and_i, or_i, wrap_i64, Nat.add_zero, Nat.zero_add, List.append_nil, bne_self_eq_false, beq_self_eq_true, iaddr_ok, part_two, Nat.sub_self, Nat.one_mul, Nat.zero_mul, Nat.mul_one, Nat.div_one, wrap_u64_nat]
  exact Ends.some rfl
theorem s49_5 {P : Program} {T : Tab} {K d : Nat} (S : Sd P T K) (hd : 6 ≤ d) (x : Hdr) (hx : x.ok) (hk : x.kind = 5)  (lk : Nat) (h : List AO) :
    ev P T K d 49 [.ag x.cells] lk h = some (.tup [.sc (.int .u64 ((0 : Nat) : Int)), .sc (.bool true)], h) := by
  obtain ⟨d, rfl⟩ : ∃ k, d = k + 1 := ⟨d - 1, by omega⟩
  refine ev_pure (at49 S.t) rfl ?_
  unfold i49 Try.f49
  skip
  simp (maxSteps := 1000000) (disch := first | omega | (simp (disch := first | omega | (simp only [Hdr.len, List.length_append, List.length_cons, List.length_nil, List.length_set]; first | done | omega)) only [Hdr.len, amSide, Int.reduceToNat, Nat.reducePow, Nat.reduceMul]; first | done | omega)) only  [↓amPre, amPost, ↓s_lit', Nat.reduceAdd, Nat.reduceSub, List.replicate, retA, resultsA, resultA, toC, toCL, Nat.reduceEqDiff, (fa30_0 S.p), (fa30_4 S.p), len_sl (un106 S.p), len_nils (un106 S.p), part_sc (ag23 S.p), part_sc (ag3 S.p), part_all (ag30 S.p) (sz30 S.p), part_at (ag30 S.p) (sz30 S.p), cells_self, cells_other, obj_self, obj_other, set_self, set_other, Hdr.len, Hdr.c0, Hdr.c1, Hdr.c2, Hdr.c3, Hdr.c4, Hdr.c5, Hdr.c6, Hdr.c7, hk, s62_5 S _ x hx hk, s63_5 S _ x hx , Int.reduceLT, Int.reduceLE, Nat.reduceLeDiff, Nat.reduceLT, Int.reduceAdd, Int.reduceSub, Int.reduceBEq, Int.reduceBNe, Int.reduceToNat, Int.toNat_natCast, Nat.reducePow, Nat.reduceMul, Nat.reduceSub, Nat.reduceAdd, Nat.reduceDiv, Nat.reduceMod, Nat.reduceAnd, Nat.reduceOr, decide_true, decide_false, Int.cast_ofNat_Int, iter_more, and_i, or_i, wrap_i64, Nat.add_zero, Nat.zero_add, List.append_nil, bne_self_eq_false, beq_self_eq_true, iaddr_ok, part_two, Nat.sub_self, Nat.one_mul, Nat.zero_mul, Nat.mul_one, Nat.div_one, wrap_u64_nat]
  exact Ends.some rfl
theorem s49_0 {P : Program} {T : Tab} {K d : Nat} (S : Sd P T K) (hd : 6 ≤ d) (x : Hdr) (hx : x.ok) (hk : x.kind ≠ 1 ∧ x.kind ≠ 2 ∧ x.kind ≠ 3 ∧ x.kind ≠ 4 ∧ x.kind ≠ 5) (lk : Nat) (h : List AO) :
    ev P T K d 49 [.ag x.cells] lk h = some (.tup [.sc (.int .u64 0), .sc (.bool false)], h) := by
  obtain ⟨d, rfl⟩ : ∃ k, d = k + 1 := ⟨d - 1, by omega⟩
  refine ev_pure (at49 S.t) rfl ?_
  unfold i49 Try.f49
  skip
  simp (maxSteps := 1000000) (disch := first | omega | (simp (disch := first | omega | (simp only [Hdr.len, List.length_append, List.length_cons, List.length_nil, List.length_set]; first | done | omega)) only [Hdr.len, amSide, Int.reduceToNat, Nat.reducePow, Nat.reduceMul]; first | done | omega)) only  [↓amPre, amPost, ↓s_lit', Nat.reduceAdd, Nat.reduceSub, List.replicate, retA, resultsA, resultA, toC, toCL, Nat.reduceEqDiff, (fa30_0 S.p), (fa30_4 S.p), len_sl (un106 S.p), len_nils (un106 S.p), part_sc (ag23 S.p), part_sc (ag3 S.p), part_all (ag30 S.p) (sz30 S.p), part_at (ag30 S.p) (sz30 S.p), cells_self, cells_other, obj_self, obj_other, set_self, set_other, Hdr.len, Hdr.c0, Hdr.c1, Hdr.c2, Hdr.c3, Hdr.c4, Hdr.c5, Hdr.c6, Hdr.c7, s62_0 S _ x hk, Int.reduceLT, Int.reduceLE, Nat.reduceLeDiff, Nat.reduceLT, Int.reduceAdd, Int.reduceSub, Int.reduceBEq, Int.reduceBNe, Int.reduceToNat, Int.toNat_natCast, Nat.reducePow, Nat.reduceMul, Nat.reduceSub, Nat.reduceAdd, Nat.reduceDiv, Nat.reduceMod, Nat.reduceAnd, Nat.reduceOr, decide_true, decide_false, Int.cast_ofNat_Int, iter_more, and_i, or_i, wrap_i64, Nat.add_zero, Nat.zero_add, List.append_nil, bne_self_eq_false, beq_self_eq_true, iaddr_ok, part_two, Nat.sub_self, Nat.one_mul, Nat.zero_mul, Nat.mul_one, Nat.div_one, wrap_u64_nat]
  exact Ends.some rfl
theorem s49 {P : Program} {T : Tab} {K d : Nat} (S : Sd P T K) (hd : 6 ≤ d) (x : Hdr) (hx : x.ok) (lk : Nat) (h : List AO) :
    ev P T K d 49 [.ag x.cells] lk h = some (.tup [.sc (.int .u64 ((x.word : Nat) : Int)), .sc (.bool x.fits)], h) := by
  unfold Hdr.word Hdr.fits
  by_cases k1 : x.kind = 1
  · by_cases ho : x.own = 0
    · rw [s49_1z S hd x hx k1 ho]; simp [k1, ho]
    · rw [s49_1 S hd x hx k1 ho]; simp [k1, ho]
  by_cases k2 : x.kind = 2
  · by_cases ha : x.age < 16
    · by_cases hb : x.hash < 2147483648
      · rw [s49_2 S hd x hx k2 ha hb]; simp [k2, ha, hb]
      · rw [s49_2n2 S hd x hx k2 ha hb]; simp [k2, ha, hb]
    · rw [s49_2n1 S hd x hx k2 ha]; simp [k2, ha]
  by_cases k3 : x.kind = 3
  · by_cases ha : x.gen < 16777216
    · rw [s49_3 S hd x hx k3 ha]; simp [k3, ha]
    · rw [s49_3n2 S hd x hx k3 ha]; simp [k3, ha]
  by_cases k4 : x.kind = 4
  · by_cases ha : x.age < 16
    · rw [s49_4 S hd x hx k4 ha]; simp [k4, ha]
    · rw [s49_4n1 S hd x hx k4 ha]; simp [k4, ha]
  by_cases k5 : x.kind = 5
  · rw [s49_5 S hd x hx k5]; simp [k5]
  · rw [s49_0 S hd x hx ⟨k1, k2, k3, k4, k5⟩]; simp [k1, k2, k3, k4, k5]
end Go.AM
